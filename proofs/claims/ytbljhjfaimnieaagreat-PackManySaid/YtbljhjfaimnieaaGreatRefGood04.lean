/- What confluenceref04.Good returns. Condition: at most 10^5 pieces and numbers together. Printed by gen_refgood04.py. -/
import Derived.Test.YtbljhjfaimnieaaGreatRefNorm04
import Derived.Test.YtbljhjfaimnieaaGreatMv
namespace Go.Proofs.YtbljhjfaimnieaaGreat.attr
open Go.RowKit Go.Proofs.YtbljhjfaimnieaaGreat.kit Go.Proofs.YtbljhjfaimnieaaGreat.mem Go.Proofs.YtbljhjfaimnieaaGreat.foot Go.Proofs.YtbljhjfaimnieaaGreat.nums Go.Proofs.YtbljhjfaimnieaaGreat.asn Go.Proofs.YtbljhjfaimnieaaGreat.pth Go.Proofs.YtbljhjfaimnieaaGreat.mv
set_option linter.unusedVariables false
set_option linter.unusedSimpArgs false
/-- what stays of a path while more is laid behind it -/
def KeepP (p q : List Sg) : Prop := ∀ (j : Nat) (s : Sg), p[j]? = some s → ∃ t, q[j]? = some t ∧ t.1 = s.1 ∧ s.2.length ≤ t.2.length ∧ (s.1 ≠ 2 → t = s)
theorem KeepP.refl (p : List Sg) : KeepP p p := fun j s h => ⟨s, h, rfl, Nat.le_refl _, fun _ => rfl⟩
theorem KeepP.trans {p q r : List Sg} (h : KeepP p q) (k : KeepP q r) : KeepP p r := fun j s hs => by
  obtain ⟨t, h1, h2, h3, h4⟩ := h j s hs
  obtain ⟨u, k1, k2, k3, k4⟩ := k j t h1
  refine ⟨u, k1, k2.trans h2, Nat.le_trans h3 k3, fun hn => ?_⟩
  have e := h4 hn
  rw [← e]
  exact k4 (by rw [e]; exact hn)
theorem KeepP.app (p q : List Sg) : KeepP p (p ++ q) := fun j s h => ⟨s, by rw [List.getElem?_append_left (List.getElem?_eq_some_iff.1 h).1]; exact h, rfl, Nat.le_refl _, fun _ => rfl⟩
theorem KeepP.put (p : List Sg) (n : Nat) : KeepP p (putS p n) := by
  by_cases hy : ∃ q s, p = q ++ [s] ∧ s.1 = 2 ∧ s.2.length < 255
  · obtain ⟨q, s, rfl, h1, h2⟩ := hy
    rw [putS_yes h1 h2]
    intro j t ht
    by_cases hj : j < q.length
    · rw [List.getElem?_append_left hj] at ht ⊢
      exact ⟨t, ht, rfl, Nat.le_refl _, fun _ => rfl⟩
    · rw [List.getElem?_append_right (by omega)] at ht ⊢
      have hj0 : j - q.length = 0 := by
        have := (List.getElem?_eq_some_iff.1 ht).1
        simp at this
        omega
      rw [hj0] at ht ⊢
      simp at ht
      subst ht
      exact ⟨_, rfl, h1.symm, by simp, fun h => absurd h1 h⟩
  · have hno : ∀ s, p.getLast? = some s → ¬ (s.1 = 2 ∧ s.2.length < 255) := fun s hs h => by
      obtain ⟨q, hq⟩ := List.getLast?_eq_some_iff.1 hs
      exact hy ⟨q, s, hq, h.1, h.2⟩
    rw [putS_no hno]
    exact KeepP.app _ _
theorem KeepP.puts : ∀ (xs : List Nat) (p : List Sg), KeepP p (xs.foldl putS p)
  | [], p => KeepP.refl p
  | x :: xs, p => (KeepP.put p x).trans (KeepP.puts xs _)
theorem KeepP.step (o : List Sg) (s : Sg) : KeepP o (rstep o s) := by
  unfold rstep
  split
  · exact KeepP.puts _ _
  · split
    · exact KeepP.app _ _
    · exact KeepP.refl _
end Go.Proofs.YtbljhjfaimnieaaGreat.attr
