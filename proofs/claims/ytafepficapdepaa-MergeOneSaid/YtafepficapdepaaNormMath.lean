/- What path.norm makes of a list of pieces: plain. -/
import Derived.Test.YtafepficapdepaaPathMath
import Derived.Test.YtafepficapdepaaAsnMath
namespace Go.Proofs.Ytafepficapdepaa.pth
open Go.Proofs.Ytafepficapdepaa.asn
set_option linter.unusedVariables false
/-- a list as a set -/
def setN (l : List Nat) : List Nat := l.foldl putN []
theorem putNs_ok : ∀ (xs l s : List Nat), IsSet l s → IsSet (l ++ xs) (xs.foldl putN s)
  | [], l, s, h => by simpa using h
  | x :: xs, l, s, h => by
    have := putNs_ok xs (l ++ [x]) (putN s x) (putN_ok h x)
    simpa using this
theorem setN_ok (l : List Nat) : IsSet l (setN l) := by have := putNs_ok l [] [] IsSet.nil; simpa [setN] using this
/-- a piece taken up -/
def nstep (st : List Sg × List Nat) (s : Sg) : List Sg × List Nat := if s.1 = 2 then (st.1, st.2 ++ s.2) else if s.1 = 1 ∧ 0 < s.2.length then (st.1 ++ sgs 2 st.2 ++ [(1, setN s.2)], []) else st
def nrun (l : List Sg) : List Sg × List Nat := l.foldl nstep ([], [])
def normS (l : List Sg) : List Sg := (nrun l).1 ++ sgs 2 (nrun l).2
theorem nrun_succ {l : List Sg} {k : Nat} (hk : k < l.length) : nrun (l.take (k + 1)) = nstep (nrun (l.take k)) l[k] := by
  unfold nrun
  rw [List.take_succ_eq_append_getElem hk, List.foldl_append]
  rfl
def nsz (l : List Sg) : Nat := (l.map fun s => 1 + s.2.length).sum
theorem nstep_sz (st : List Sg × List Nat) (s : Sg) : (nstep st s).1.length + (nstep st s).2.length ≤ st.1.length + st.2.length + (1 + s.2.length) := by
  unfold nstep
  split
  · simp; omega
  · split
    · have := sgs_len 2 st.2
      simp; omega
    · omega
theorem nrun_sz : ∀ (l : List Sg) (st : List Sg × List Nat), (l.foldl nstep st).1.length + (l.foldl nstep st).2.length ≤ st.1.length + st.2.length + nsz l
  | [], st => by simp [nsz]
  | s :: l, st => by
    have h1 := nrun_sz l (nstep st s)
    have h2 := nstep_sz st s
    simp only [List.foldl_cons, nsz, List.map_cons, List.sum_cons] at h1 ⊢
    omega
theorem nsz_take (l : List Sg) (k : Nat) : nsz (l.take k) ≤ nsz l := by
  have h : nsz l = nsz (l.take k) + nsz (l.drop k) := by
    unfold nsz
    rw [← List.sum_append, ← List.map_append, List.take_append_drop]
  omega
theorem nsz_at {l : List Sg} {k : Nat} (hk : k < l.length) : nsz (l.take k) + (1 + l[k].2.length) ≤ nsz l := by
  have h1 := nsz_take l (k + 1)
  have h2 : nsz (l.take (k + 1)) = nsz (l.take k) + (1 + l[k].2.length) := by
    unfold nsz
    rw [List.take_succ_eq_append_getElem hk, List.map_append, List.sum_append]
    simp
  omega
theorem nrun_le (l : List Sg) (k : Nat) : (nrun (l.take k)).1.length + (nrun (l.take k)).2.length ≤ nsz (l.take k) := by
  have := nrun_sz (l.take k) ([], [])
  simpa [nrun] using this
end Go.Proofs.Ytafepficapdepaa.pth
