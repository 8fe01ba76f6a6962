/- What the arms of TallyPlays' switch share. Conditions as each lemma states. Printed by gen_tallyarms.py. -/
import Derived.Test.YtafepficapdepaaTallyLaw
import Derived.Test.YtafepficapdepaaCode
import Derived.Deep.DeepCutAuto
import Derived.Deep.CutBlock
namespace Go.Proofs.Ytafepficapdepaa.tally
open Go.RowKit Go.Proofs.Ytafepficapdepaa.flt Go.Proofs.Ytafepficapdepaa.kit Go.Proofs.Ytafepficapdepaa.mem Go.Proofs.Ytafepficapdepaa.foot Go.Proofs.Ytafepficapdepaa.maps Go.Proofs.Ytafepficapdepaa.nums
set_option linter.unusedVariables false
set_option linter.unusedSimpArgs false
/-- the rows behind a turning -/
def rTurn (R : KC) (k : Int) : KC := if (rIdx R k).isSome = true then rSet R k ((rVal R k).2, (rVal R k).1) else R
theorem cell_of {w w' : World} {g : Nat} {j : Nat} (h : w'.heap[g]? = w.heap[g]?) : w'.cell? ⟨g, j, none⟩ = w.cell? ⟨g, j, none⟩ := by
  simp only [World.cell?, h]
section
variable {W wr w' w2 : World} {B t c c' i n : Nat} {F : Foot} {R R' : KC} {A A' : Option Addr} {e : TypeId} {xs : List Value} {rs : List TR}
theorem PJ.same (h : PJ W B F t R A c i wr) : Stp R R i := ⟨h.ris, h.up.mono (by omega), h.key, Nat.le_succ_of_le h.len⟩
theorem PJ.turnS (h : PJ W B F t R A c i wr) (k : Int) (hk : (Lit.int .u32 k).wf = true) : Stp R (rTurn R k) i := by
  unfold rTurn
  split
  · have := h.up.val (by omega) k
    refine h.set k hk ⟨?_, ?_, ?_, ?_⟩ <;> (dsimp only; omega)
  · exact h.same
theorem PJ.done (h : PJ W B F t R A c i wr) (hc : Chg F wr w2) (ht : Tl w2 F t rs) (hs : Sync rs R') (h1 : Stp R R' i) (ha : Acc w2 e 3 w' A' n c' xs) (hn : n = R'.length) (hx : xs = kv3 R') : PJ W B F t R' A' c' (i + 1) w' := by
  subst hn hx
  exact h.turn (ht.bel ha.bel) hs (hc.bel ha.bel) h1 (ha.row (Nat.le_trans h.size hc.size))
theorem PJ.turnT (h : PJ W B F t R A c i wr) (hi : i < 60) (k : Int) (hk : (Lit.int .u32 k).wf = true) :
    Calls Try.prog 20 #[.pointer (some ⟨t, 0, none⟩), .int .u32 k] wr fun e w' => e = .returned (.tuple #[]) ∧ Chg F wr w' ∧ ∃ rs, Tl w' F t rs ∧ Sync rs (rTurn R k) := by
  obtain ⟨rs, ht, hs⟩ := h.tl
  have hl := hs.len
  have := h.len
  refine (Turn_any k wr hk (by omega) ht).mono ?_
  rintro e w' ⟨rfl, ⟨p, h2⟩, h3⟩
  refine ⟨rfl, h3, _, h2, ?_⟩
  unfold turned rTurn
  rw [hs.any k, ← hs.val h.ris]
  split
  · exact hs.set k p _
  · exact hs
theorem PJ.dropT (h : PJ W B F t R A c i wr) (k : Int) (hk : (Lit.int .u32 k).wf = true) :
    Calls Try.prog 21 #[.pointer (some ⟨t, 0, none⟩), .int .u32 k] wr fun e w' => e = .returned (.bool (rIdx R k).isSome) ∧ Chg F wr w' ∧ ∃ rs, Tl w' F t rs ∧ Sync rs (rCut R k) := by
  obtain ⟨rs, ht, hs⟩ := h.tl
  refine (Drop_any k wr hk ht).mono ?_
  rintro e w' ⟨rfl, h2, h3⟩
  exact ⟨by rw [hs.any k], h3, _, h2, hs.cut k⟩
theorem rVal_mem {R : KC} (hR : Rising R) {k : Nat} (hk : k < R.length) : rVal R R[k].1 = R[k].2 := by
  refine rVal_idx (List.findIdx?_eq_some_iff_getElem.2 ⟨hk, by simp, fun j hj => ?_⟩) hk
  have := List.pairwise_iff_getElem.1 hR j k (by omega) hk hj
  simp; omega
theorem nums_at {L : List Nat} {R : KC} (h : (L.map fun n : Nat => (n : Int)) = R.map (·.1)) {k : Nat} (hk : k < R.length) : (uv L)[k]? = some (.int .u32 R[k].1) := by
  have e : uv L = (L.map fun n : Nat => (n : Int)).map (Value.int .u32) := by simp [uv]
  rw [e, h]
  simp [hk]
theorem sum_step {R : KC} {k : Nat} (hk : k < R.length) : (sumR (R.take (k + 1))).1 = (sumR (R.take k)).1 + R[k].2.1 ∧ (sumR (R.take (k + 1))).2 = (sumR (R.take k)).2 + R[k].2.2 := by
  unfold sumR
  rw [List.take_succ_eq_append_getElem hk]
  simp only [List.map_append, List.map_cons, List.map_nil, List.sum_append, List.sum_cons, List.sum_nil]
  omega
theorem sum_upto {m : Int} : ∀ {R : KC}, Upto R m → 0 ≤ (sumR R).1 ∧ (sumR R).1 ≤ R.length * m ∧ 0 ≤ (sumR R).2 ∧ (sumR R).2 ≤ R.length * m
  | [], _ => by simp [sumR]
  | r :: R, h => by
    have ih := sum_upto (R := R) fun x hx => h x (List.mem_cons_of_mem _ hx)
    have h1 := h r List.mem_cons_self
    unfold sumR at ih ⊢
    simp only [List.map_cons, List.sum_cons, List.length_cons, Int.natCast_add, Int.add_mul] at ih ⊢
    omega
theorem sum_wrap {R : KC} (h : Upto R 64424509440) (hl : R.length ≤ 60) {k : Nat} (hk : k < R.length) : IntKind.i64.wrap ((sumR (R.take k)).1 + R[k].2.1) = (sumR (R.take k)).1 + R[k].2.1 ∧ IntKind.i64.wrap ((sumR (R.take k)).2 + R[k].2.2) = (sumR (R.take k)).2 + R[k].2.2 := by
  have h1 := sum_upto (R := R.take k) fun x hx => h x (List.mem_of_mem_take hx)
  have h2 := h _ (List.getElem_mem hk)
  rw [List.length_take] at h1
  have h3 : ((min k R.length : Nat) : Int) ≤ 60 := by omega
  exact ⟨IntWalk.i64_in _ (by omega), IntWalk.i64_in _ (by omega)⟩
/-- adding to a new tally -/
theorem add_new {G : Foot} {o : Nat} (k u v : Int) (w : World) (hk : (Lit.int .u32 k).wf = true) (hu : 0 ≤ u ∧ u ≤ 1073741824) (hv : 0 ≤ v ∧ v ≤ 1073741824) (h : Tl w G o []) :
    Calls Try.prog 22 #[.pointer (some ⟨o, 0, none⟩), .int .u32 k, .int .i64 u, .int .i64 v] w fun e w' => e = .returned (.int .i64 0) ∧ ∃ p, Tl w' G o [(k, p, (u, v))] ∧ Chg G w w' := by
  refine (Add_any k u v w hk hu hv (by simp) h).mono ?_
  rintro e w' hp
  have e0 : valOf [] k = (0, 0) := rfl
  have hf : fullB ((valOf [] k).1 + u) ((valOf [] k).2 + v) = false := by rw [e0]; simp [fullB]; omega
  obtain ⟨h1, ⟨p, h2⟩, h3⟩ := hp.2 hf
  refine ⟨h1, p, ?_, h3⟩
  rw [e0] at h2
  simpa [without] using h2
end
end Go.Proofs.Ytafepficapdepaa.tally
