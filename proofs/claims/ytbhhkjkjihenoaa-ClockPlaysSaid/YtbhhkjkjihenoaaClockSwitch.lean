/- What the arms of ClockPlays' switch share: a clock beside its rows; the code's pieces. No condition. -/
import Derived.Test.YtbhhkjkjihenoaaClockRefTick
import Derived.Test.YtbhhkjkjihenoaaClockOutWalk
import Derived.Test.YtbhhkjkjihenoaaPairEq
import Derived.Test.YtbhhkjkjihenoaaCode
import Derived.Deep.DeepCutAuto
import Derived.Deep.CutBlock
namespace Go.Proofs.Ytbhhkjkjihenoaa.clk
open Go.RowKit Go.Proofs.Ytbhhkjkjihenoaa.kit Go.Proofs.Ytbhhkjkjihenoaa.mem Go.Proofs.Ytbhhkjkjihenoaa.foot Go.Proofs.Ytbhhkjkjihenoaa.maps
set_option linter.unusedVariables false
set_option linter.unusedSimpArgs false

/-- a clock and rows of the same, apart -/
structure PJ (W : World) (B : Nat) (F : Foot) (t : Nat) (now : Int) (R : KV) (A : Option Addr) (c : Nat) (wr : World) : Prop where
  ck : Ck wr F t now (ab now R)
  row : Row3 B wr 2 A R.length c (pv2 R)
  ris : Rising R
  lef : Lefts R
  low : ∀ k, F k → W.heap.size ≤ k
  lt : ∀ k, F k → k < B
  size : B ≤ wr.heap.size
  bel : Below W.heap.size W wr
section
variable {W wr w' w2 : World} {B t c c' : Nat} {F : Foot} {now now' : Int} {R R' : KV} {A A' : Option Addr}
theorem PJ.bl (h : PJ W B F t now R A c wr) (hb : Below wr.heap.size wr w') : PJ W B F t now R A c w' :=
  ⟨h.ck.bel hb, h.row.bel hb, h.ris, h.lef, h.low, h.lt, Nat.le_trans h.size hb.size, h.bel.trans (hb.mono h.bel.size)⟩
theorem PJ.rows (h : PJ W B F t now R A c wr) (hr : Row3 B wr 2 A' R'.length c' (pv2 R')) (hc : Chg F wr w') : Row3 B w' 2 A' R'.length c' (pv2 R') :=
  hr.chg hc fun x hx hf => by have := hr.low x hx; have := h.lt x hf; omega
theorem PJ.turn (h : PJ W B F t now R A c wr) (hk : Ck w' F t now' (ab now' R')) (hc : Chg F wr w') (h1 : Rising R') (h2 : Lefts R') (hr : Row3 B w' 2 A' R'.length c' (pv2 R')) : PJ W B F t now' R' A' c' w' :=
  ⟨hk, hr, h1, h2, h.low, h.lt, Nat.le_trans h.size hc.size, h.bel.trans (hc.below h.low h.bel.size)⟩
theorem PJ.put (h : PJ W B F t now R A c wr) (hr : Row3 B w' 2 A' R'.length c' (pv2 R')) (hb : Below wr.heap.size wr w') (he : R' = R) : PJ W B F t now R' A' c' w' := by
  subst he
  exact ⟨h.ck.bel hb, hr, h.ris, h.lef, h.low, h.lt, Nat.le_trans h.size hb.size, h.bel.trans (hb.mono h.bel.size)⟩
end
theorem out_at {outs o rest : List (Int × Int)} {g : List Int} {x : Int} (h : outs = (o ++ g.map (fun k => (x, k))) ++ rest) {q : Nat} (hq : q < g.length) : ∃ hh : o.length + q < outs.length, outs[o.length + q] = (x, g[q]) := by
  have hh : o.length + q < outs.length := by rw [h]; simp; omega
  refine ⟨hh, ?_⟩
  have e : outs[o.length + q]? = some (x, g[q]) := by
    rw [h, List.getElem?_append_left (by simp; omega), List.getElem?_append_right (by omega)]
    simp [hq]
  rw [List.getElem?_eq_getElem hh] at e
  exact Option.some.inj e
/-- an act's box -/
theorem box_kept {wa w' : World} {F : Foot} {g : Nat} {T : TypeId} {k x n : Int} (hb : Bk wa g T #[.int .i64 k, .int .i64 x, .int .i64 n]) (hF : ¬ F g) (hc : Chg F wa w') : w'.cell? ⟨g, 0, none⟩ = some (.int .i64 k) ∧ w'.cell? ⟨g, 1, none⟩ = some (.int .i64 x) ∧ w'.cell? ⟨g, 2, none⟩ = some (.int .i64 n) := by
  have h := hb.chg hc hF
  exact ⟨by have := h.cell 0; simpa using this, by have := h.cell 1; simpa using this, by have := h.cell 2; simpa using this⟩
end Go.Proofs.Ytbhhkjkjihenoaa.clk
