/- How great what path.norm makes is: plain. -/
import Derived.Test.YtafepficapdepaaNormMath
namespace Go.Proofs.Ytafepficapdepaa.pth
open Go.Proofs.Ytafepficapdepaa.asn
set_option linter.unusedVariables false
theorem putNs_len : ∀ (xs s : List Nat), (xs.foldl putN s).length ≤ s.length + xs.length
  | [], s => by simp
  | x :: xs, s => by
    have h1 := putNs_len xs (putN s x)
    have h2 := putN_len s x
    simp only [List.foldl_cons, List.length_cons] at h1 ⊢
    omega
theorem setN_len (l : List Nat) : (setN l).length ≤ l.length := by have := putNs_len l []; simpa [setN] using this
theorem nsz_app (a b : List Sg) : nsz (a ++ b) = nsz a + nsz b := by simp [nsz]
theorem nsz_map (k : Int) : ∀ cs : List (List Nat), nsz (cs.map fun c => (k, c)) = cs.length + cs.flatten.length
  | [] => rfl
  | c :: cs => by
    have ih := nsz_map k cs
    simp only [nsz, List.map_cons, List.sum_cons, List.length_cons, List.flatten_cons, List.length_append] at ih ⊢
    omega
theorem nsz_sgs (k : Int) (l : List Nat) : nsz (sgs k l) ≤ 2 * l.length := by
  unfold sgs
  rw [nsz_map, ck_flat]
  have := ck_len l
  omega
theorem nstep_nsz (st : List Sg × List Nat) (s : Sg) : nsz (nstep st s).1 + 2 * (nstep st s).2.length ≤ nsz st.1 + 2 * st.2.length + 2 * (1 + s.2.length) := by
  unfold nstep
  split
  · simp only [List.length_append]; omega
  · split
    · have h1 := nsz_sgs 2 st.2
      have h2 := setN_len s.2
      have h3 : nsz [((1 : Int), setN s.2)] = 1 + (setN s.2).length := by simp [nsz]
      simp only [nsz_app, h3, List.length_nil]
      omega
    · omega
theorem nrun_nsz : ∀ (l : List Sg) (st : List Sg × List Nat), nsz (l.foldl nstep st).1 + 2 * (l.foldl nstep st).2.length ≤ nsz st.1 + 2 * st.2.length + 2 * nsz l
  | [], st => by simp [nsz]
  | s :: l, st => by
    have h1 := nrun_nsz l (nstep st s)
    have h2 := nstep_nsz st s
    have h3 : nsz (s :: l) = (1 + s.2.length) + nsz l := by simp [nsz]
    rw [h3]
    simp only [List.foldl_cons] at h1 ⊢
    omega
theorem nsz_norm (l : List Sg) : nsz (normS l) ≤ 2 * nsz l := by
  have h1 := nrun_nsz l ([], [])
  have h2 := nsz_sgs 2 (nrun l).2
  have h3 : nsz ([] : List Sg) = 0 := rfl
  unfold normS
  rw [nsz_app]
  unfold nrun at *
  simp only [h3, List.length_nil] at h1
  omega
end Go.Proofs.Ytafepficapdepaa.pth
