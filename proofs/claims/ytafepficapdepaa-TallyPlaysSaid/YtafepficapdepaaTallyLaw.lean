/- A tally beside rows of the same; what its calls and confluencelaw05.add leave. Conditions as each lemma states. -/
import Derived.Test.YtafepficapdepaaTallyJoin
import Derived.Test.YtafepficapdepaaTallyRefHit
namespace Go.Proofs.Ytafepficapdepaa.tally
open Go.RowKit Go.Proofs.Ytafepficapdepaa.flt Go.Proofs.Ytafepficapdepaa.kit Go.Proofs.Ytafepficapdepaa.mem Go.Proofs.Ytafepficapdepaa.foot Go.Proofs.Ytafepficapdepaa.maps Go.Proofs.Ytafepficapdepaa.nums
set_option linter.unusedVariables false
set_option linter.unusedSimpArgs false
/-- counts that are refused -/
def BadN (u v : Int) : Prop := u < 0 ∨ v < 0 ∨ 1073741824 < u ∨ 1073741824 < v
theorem Add_arg (t : Nat) (k u v : Int) (w : World) (hb : BadN u v) :
    Calls Try.prog 22 #[.pointer (some ⟨t, 0, none⟩), .int .u32 k, .int .i64 u, .int .i64 v] w fun e w' => e = .returned (.int .i64 1) ∧ w = w' := by
  obtain ⟨mn, hmn⟩ : ∃ mn, min u v = mn := ⟨_, rfl⟩
  obtain ⟨mx, hmx⟩ : ∃ mx, max u v = mx := ⟨_, rfl⟩
  have h : mn < 0 ∨ (¬ mn < 0 ∧ 1073741824 < mx) := by
    unfold BadN at hb
    omega
  clear hb
  rcases h with h | ⟨h1, h2⟩
  case' inl =>
    have d1 : decide (mn < 0) = true := by simp; omega
    clear h
  case' inr =>
    have d1 : decide (mn < 0) = false := by simp; omega
    have d2 : decide (1073741824 < mx) = true := by simp; omega
    clear h1 h2
  all_goals
    go_enter Try.func22, Try.ntmps22
    go_wp2_with fail
    go_ret
    exact ⟨rfl, rfl⟩
/-- a tally and rows of the same, apart -/
structure PJ (W : World) (B : Nat) (F : Foot) (t : Nat) (R : KC) (A : Option Addr) (c : Nat) (i : Nat) (wr : World) : Prop where
  tl : ∃ rs, Tl wr F t rs ∧ Sync rs R
  row : Row3 B wr 3 A R.length c (kv3 R)
  ris : Rising R
  up : Upto R (i * 1073741824)
  key : ∀ r ∈ R, (Lit.int .u32 r.1).wf = true
  len : R.length ≤ i
  low : ∀ k, F k → W.heap.size ≤ k
  lt : ∀ k, F k → k < B
  size : B ≤ wr.heap.size
  bel : Below W.heap.size W wr
section
variable {W wr w' w2 : World} {B t c c' i : Nat} {F : Foot} {R R' : KC} {A A' : Option Addr}
theorem PJ.bl (h : PJ W B F t R A c i wr) (hb : Below wr.heap.size wr w') : PJ W B F t R A c i w' := by
  obtain ⟨rs, h1, h2⟩ := h.tl
  exact ⟨⟨rs, h1.bel hb, h2⟩, h.row.bel hb, h.ris, h.up, h.key, h.len, h.low, h.lt, Nat.le_trans h.size hb.size, h.bel.trans (hb.mono h.bel.size)⟩
theorem PJ.next (h : PJ W B F t R A c i wr) : PJ W B F t R A c (i + 1) wr :=
  ⟨h.tl, h.row, h.ris, h.up.mono (by omega), h.key, Nat.le_succ_of_le h.len, h.low, h.lt, h.size, h.bel⟩
theorem PJ.rows {R2 : KC} (h : PJ W B F t R A c i wr) (hr : Row3 B wr 3 A' R2.length c' (kv3 R2)) (hc : Chg F wr w') : Row3 B w' 3 A' R2.length c' (kv3 R2) :=
  hr.chg hc fun x hx hf => by have := hr.low x hx; have := h.lt x hf; omega
/-- what one act leaves -/
structure Stp (R R' : KC) (i : Nat) : Prop where
  ris : Rising R'
  up : Upto R' ((i + 1 : Nat) * 1073741824)
  key : ∀ r ∈ R', (Lit.int .u32 r.1).wf = true
  len : R'.length ≤ i + 1
theorem PJ.turn (h : PJ W B F t R A c i wr) {rs : List TR} (ht : Tl w' F t rs) (hs : Sync rs R') (hc : Chg F wr w') (h1 : Stp R R' i) (hr : Row3 B w' 3 A' R'.length c' (kv3 R')) : PJ W B F t R' A' c' (i + 1) w' :=
  ⟨⟨rs, ht, hs⟩, hr, h1.ris, h1.up, h1.key, h1.len, h.low, h.lt, Nat.le_trans h.size hc.size, h.bel.trans (hc.below h.low h.bel.size)⟩
theorem PJ.set (h : PJ W B F t R A c i wr) (k : Int) (hk : (Lit.int .u32 k).wf = true) {v : Int × Int} (hv : 0 ≤ v.1 ∧ v.1 ≤ (i + 1 : Nat) * 1073741824 ∧ 0 ≤ v.2 ∧ v.2 ≤ (i + 1 : Nat) * 1073741824) : Stp R (rSet R k v) i := by
  refine ⟨h.ris.set k v, (h.up.mono (by omega)).set k hv, fun r hr => ?_, by have := rSet_len R k v; have := h.len; omega⟩
  rcases List.mem_cons.1 ((rSet_perm R k v).subset hr) with rfl | hr
  · exact hk
  · exact h.key r (List.mem_filter.1 hr).1
theorem PJ.cut (h : PJ W B F t R A c i wr) (k : Int) : Stp R (rCut R k) i :=
  ⟨h.ris.cut k, (h.up.cut k).mono (by omega), fun r hr => h.key r (List.mem_filter.1 hr).1, by have := rCut_len R k; have := h.len; omega⟩
theorem PJ.full (h : PJ W B F t R A c i wr) (hi : i < 60) (k : Int) {u v : Int} (hu : u ≤ 1073741824) (hv : v ≤ 1073741824) : fullB ((rVal R k).1 + u) ((rVal R k).2 + v) = false := by
  have := h.up.val (by omega) k
  simp [fullB]
  omega
end
/-- the rows behind an adding -/
def rAdd (R : KC) (k u v : Int) : KC := rSet R k ((rVal R k).1 + u, (rVal R k).2 + v)
section
variable {W wr : World} {B t c i : Nat} {F : Foot} {R : KC} {A : Option Addr}
/-- adding, on both sides -/
theorem PJ.stp (h : PJ W B F t R A c i wr) (hi : i < 60) (k : Int) (hk : (Lit.int .u32 k).wf = true) {u v : Int} (hu : 0 ≤ u ∧ u ≤ 1073741824) (hv : 0 ≤ v ∧ v ≤ 1073741824) : Stp R (rAdd R k u v) i := by
  have := h.up.val (by omega) k
  refine h.set k hk ⟨?_, ?_, ?_, ?_⟩ <;> (dsimp only; omega)
theorem PJ.ref (h : PJ W B F t R A c i wr) (hi : i < 60) (k : Int) {u v : Int} (hu : 0 ≤ u ∧ u ≤ 1073741824) (hv : 0 ≤ v ∧ v ≤ 1073741824) :
    Calls Try.prog 23 #[.slice A R.length c, .int .u32 k, .int .i64 u, .int .i64 v] wr (AddRef B wr (rAdd R k u v)) := by
  have := h.len
  exact refAdd_any B R A c k u v (i * 1073741824) wr (by omega) h.ris h.up (by omega) hu hv (by omega) h.row h.size
theorem PJ.add (h : PJ W B F t R A c i wr) (hi : i < 60) (k : Int) (hk : (Lit.int .u32 k).wf = true) {u v : Int} (hu : 0 ≤ u ∧ u ≤ 1073741824) (hv : 0 ≤ v ∧ v ≤ 1073741824) :
    Calls Try.prog 22 #[.pointer (some ⟨t, 0, none⟩), .int .u32 k, .int .i64 u, .int .i64 v] wr fun e w' => e = .returned (.int .i64 0) ∧ Chg F wr w' ∧ ∃ rs, Tl w' F t rs ∧ Sync rs (rAdd R k u v) := by
  obtain ⟨rs, ht, hs⟩ := h.tl
  have hl := hs.len
  have := h.len
  refine (Add_any k u v wr hk hu hv (by omega) ht).mono ?_
  rintro e w' hp
  have hf := h.full hi k hu.2 hv.2
  rw [← hs.val h.ris] at hf
  obtain ⟨h1, ⟨p, h2⟩, h3⟩ := hp.2 hf
  refine ⟨h1, h3, _, h2, ?_⟩
  unfold rAdd
  rw [← hs.val h.ris]
  exact hs.set k p _
end
set_option maxRecDepth 100000 in
set_option maxHeartbeats 1000000 in
theorem lawAdd_any {W wr : World} {B t c i : Nat} {F : Foot} {R : KC} {A : Option Addr} (kind k u v : Int) (hk : (Lit.int .u32 k).wf = true) (hi : i < 60) (h : PJ W B F t R A c i wr) :
    Calls Try.prog 25 #[.pointer (some ⟨t, 0, none⟩), .slice A R.length c, .agg #[.int .i64 kind, .int .u32 k, .int .i64 u, .int .i64 v]] wr fun e w' => ∃ R' A' c', e = .returned (.tuple #[.slice A' R'.length c', .bool true]) ∧ PJ W B F t R' A' c' (i + 1) w' := by
  have hb0 : Below wr.heap.size wr (wr.alloc (.cells #[.int .i64 kind, .int .u32 k, .int .i64 u, .int .i64 v] 54)) := (Below.refl _ _).alloc (Nat.le_refl _) _
  have HJ := Lib.hid (h.bl hb0)
  by_cases hb : BadN u v
  · have HA := Lib.hid (fun w => Add_arg t k u v w hb)
    have hw : u < 0 ∨ (¬ u < 0 ∧ v < 0) ∨ (¬ u < 0 ∧ ¬ v < 0 ∧ 1073741824 < u) ∨ (¬ u < 0 ∧ ¬ v < 0 ∧ ¬ 1073741824 < u ∧ 1073741824 < v) := by unfold BadN at hb; omega
    clear hb h hb0 hk hi
    rcases hw with h1 | ⟨h1, h2⟩ | ⟨h1, h2, h3⟩ | ⟨h1, h2, h3, h4⟩
    case' inl => have d1 : decide (u < 0) = true := by simp; omega
    case' inr.inl =>
      have d1 : decide (u < 0) = false := by simp; omega
      have d2 : decide (v < 0) = true := by simp; omega
    case' inr.inr.inl =>
      have d1 : decide (u < 0) = false := by simp; omega
      have d2 : decide (v < 0) = false := by simp; omega
      have d3 : decide (1073741824 < u) = true := by simp; omega
    case' inr.inr.inr =>
      have d1 : decide (u < 0) = false := by simp; omega
      have d2 : decide (v < 0) = false := by simp; omega
      have d3 : decide (1073741824 < u) = false := by simp; omega
      have d4 : decide (1073741824 < v) = true := by simp; omega
    all_goals
      go_enter Try.func25, Try.ntmps25
      go_wp2_with (go_at_call 22; refine (HA.out _).mono ?_; rintro e w' ⟨rfl, rfl⟩)
      go_ret2
      exact ⟨R, A, c, rfl, HJ.out.next⟩
  · have hu : 0 ≤ u ∧ u ≤ 1073741824 := by unfold BadN at hb; omega
    have hv : 0 ≤ v ∧ v ≤ 1073741824 := by unfold BadN at hb; omega
    have d1 : decide (u < 0) = false := by simp; omega
    have d2 : decide (v < 0) = false := by simp; omega
    have d3 : decide (1073741824 < u) = false := by simp; omega
    have d4 : decide (1073741824 < v) = false := by simp; omega
    have HA := Lib.hid (HJ.out.add hi k hk hu hv)
    have HF : Hid (∀ w1, Chg F (wr.alloc (.cells #[.int .i64 kind, .int .u32 k, .int .i64 u, .int .i64 v] 54)) w1 → (∃ rs, Tl w1 F t rs ∧ Sync rs (rAdd R k u v)) → (∀ j : Nat, w1.cell? ⟨wr.heap.size, j, none⟩ = #[.int .i64 kind, .int .u32 k, .int .i64 u, .int .i64 v][j]?) ∧ Calls Try.prog 23 #[.slice A R.length c, .int .u32 k, .int .i64 u, .int .i64 v] w1 (fun e w' => ∃ A' c', e = .returned (.tuple #[.slice A' (rAdd R k u v).length c', .int .i64 0]) ∧ PJ W B F t (rAdd R k u v) A' c' (i + 1) w')) := fun w1 hc ht => by
      have hl0 := h.lt
      have hs0 := h.size
      have hbx := (Bk.new wr 54 #[.int .i64 kind, .int .u32 k, .int .i64 u, .int .i64 v]).chg hc (fun e => by have := hl0 _ e; omega)
      refine ⟨fun j => hbx.cell j, ?_⟩
      have hl := HJ.out.len
      refine (refAdd_any B R A c k u v (i * 1073741824) w1 (by omega) h.ris h.up (by omega) hu hv (by omega) (HJ.out.rows HJ.out.row hc) (Nat.le_trans HJ.out.size hc.size)).mono ?_
      rintro e w' ⟨A', c', rfl, hr, hb'⟩
      obtain ⟨rs, ht, hs⟩ := ht
      exact ⟨A', c', rfl, HJ.out.turn (ht.bel hb') hs (hc.bel hb') (HJ.out.stp hi k hk hu hv) hr⟩
    clear hb h hb0 hk hi hu hv
    generalize rAdd R k u v = S at *
    go_enter Try.func25, Try.ntmps25
    go_wp2_with (go_at_call 22; refine HA.out.mono ?_; rintro e w1 ⟨rfl, hc, ht⟩; obtain ⟨hq, hcall⟩ := HF.out w1 hc ht; have HC := Lib.hid hcall; have q0 := hq 0; have q1 := hq 1; have q2 := hq 2; have q3 := hq 3; simp at q0 q1 q2 q3; clear hq hcall hc ht)
    go_wp2_with (go_at_call 23; refine HC.out.mono ?_; rintro e w2 ⟨A', c', rfl, hj⟩; have HE := Lib.hid hj; clear hj)
    go_ret2
    exact ⟨S, A', c', rfl, HE.out⟩
end Go.Proofs.Ytafepficapdepaa.tally
