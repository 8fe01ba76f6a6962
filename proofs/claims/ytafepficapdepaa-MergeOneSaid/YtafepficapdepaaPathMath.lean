/- Paths as lists of pieces: numbers parted into pieces of 255, put one by one, led, taken together. Plain Lean. -/
import Derived.Test.YtafepficapdepaaAsnMath
namespace Go.Proofs.Ytafepficapdepaa.pth
open Go.Proofs.Ytafepficapdepaa.asn
set_option linter.unusedVariables false

abbrev Sg := Int × List Nat
def chF : Nat → List Nat → List (List Nat)
  | 0, _ => []
  | f + 1, l => if l = [] then [] else l.take 255 :: chF f (l.drop 255)
/-- in pieces of 255 -/
def ck (l : List Nat) : List (List Nat) := chF l.length l
theorem chF_more : ∀ (f g : Nat) (l : List Nat), l.length ≤ f → l.length ≤ g → chF f l = chF g l
  | 0, 0, l, _, _ => rfl
  | 0, g + 1, l, hf, _ => by
    have : l = [] := List.length_eq_zero_iff.1 (by omega)
    subst this; simp [chF]
  | f + 1, 0, l, _, hg => by
    have : l = [] := List.length_eq_zero_iff.1 (by omega)
    subst this; simp [chF]
  | f + 1, g + 1, l, hf, hg => by
    unfold chF
    split
    · rfl
    · rename_i h
      have h0 : 0 < l.length := List.length_pos_iff.2 h
      rw [chF_more f g (l.drop 255) (by rw [List.length_drop]; omega) (by rw [List.length_drop]; omega)]
theorem ck_nil : ck [] = [] := rfl
theorem ck_cons {l : List Nat} (h : l ≠ []) : ck l = l.take 255 :: ck (l.drop 255) := by
  have h0 : 0 < l.length := List.length_pos_iff.2 h
  obtain ⟨f, hf⟩ : ∃ f, l.length = f + 1 := ⟨l.length - 1, by omega⟩
  unfold ck
  rw [hf]
  conv => lhs; unfold chF
  rw [if_neg h, chF_more f (l.drop 255).length _ (by rw [List.length_drop]; omega) (Nat.le_refl _)]
theorem ck_ind {P : List Nat → Prop} (h0 : P []) (h1 : ∀ l, l ≠ [] → P (l.drop 255) → P l) : ∀ (n : Nat) (l : List Nat), l.length ≤ n → P l
  | 0, l, hn => by
    have : l = [] := List.length_eq_zero_iff.1 (by omega)
    subst this; exact h0
  | n + 1, l, hn => by
    by_cases h : l = []
    · subst h; exact h0
    · have hp : 0 < l.length := List.length_pos_iff.2 h
      exact h1 l h (ck_ind h0 h1 n (l.drop 255) (by rw [List.length_drop]; omega))
theorem ck_flat (l : List Nat) : (ck l).flatten = l := by
  refine ck_ind (P := fun l => (ck l).flatten = l) rfl (fun l h ih => ?_) l.length l (Nat.le_refl _)
  rw [ck_cons h, List.flatten_cons, ih, List.take_append_drop]
theorem ck_len (l : List Nat) : (ck l).length ≤ l.length := by
  refine ck_ind (P := fun l => (ck l).length ≤ l.length) (Nat.le_refl _) (fun l h ih => ?_) l.length l (Nat.le_refl _)
  have hp : 0 < l.length := List.length_pos_iff.2 h
  rw [ck_cons h, List.length_cons]
  rw [List.length_drop] at ih
  omega
theorem ck_each (l : List Nat) : ∀ c ∈ ck l, 1 ≤ c.length ∧ c.length ≤ 255 := by
  refine ck_ind (P := fun l => ∀ c ∈ ck l, 1 ≤ c.length ∧ c.length ≤ 255) (fun c hc => by cases hc) (fun l h ih c hc => ?_) l.length l (Nat.le_refl _)
  have hp : 0 < l.length := List.length_pos_iff.2 h
  rw [ck_cons h] at hc
  rcases List.mem_cons.1 hc with rfl | hc
  · rw [List.length_take]; omega
  · exact ih c hc
theorem ck_mem (l : List Nat) : ∀ c ∈ ck l, ∀ x ∈ c, x ∈ l := by
  intro c hc x hx
  rw [← ck_flat l]
  exact List.mem_flatten.2 ⟨c, hc, hx⟩
theorem ck_short {l : List Nat} (h : l ≠ []) (hl : l.length ≤ 255) : ck l = [l] := by
  rw [ck_cons h, List.take_of_length_le hl, List.drop_of_length_le hl, ck_nil]
/-- pieces of one kind -/
def sgs (k : Int) (l : List Nat) : List Sg := (ck l).map fun c => (k, c)
theorem sgs_len (k : Int) (l : List Nat) : (sgs k l).length ≤ l.length := by unfold sgs; rw [List.length_map]; exact ck_len l
theorem sgs_cons (k : Int) {l : List Nat} (h : l ≠ []) : sgs k l = (k, l.take 255) :: sgs k (l.drop 255) := by unfold sgs; rw [ck_cons h]; rfl
/-- a number put behind, into the last piece if that is a sequence with room -/
def putS (p : List Sg) (n : Nat) : List Sg :=
  match p.getLast? with
  | some s => if s.1 = 2 ∧ s.2.length < 255 then p.dropLast ++ [(2, s.2 ++ [n])] else p ++ [(2, [n])]
  | none => p ++ [(2, [n])]
theorem putS_cons {x : Sg} {p : List Sg} (h : p ≠ []) (n : Nat) : putS (x :: p) n = x :: putS p n := by
  unfold putS
  obtain ⟨y, q, rfl⟩ : ∃ y q, p = y :: q := by
    rcases p with _ | ⟨y, q⟩
    · exact absurd rfl h
    · exact ⟨y, q, rfl⟩
  rw [List.getLast?_cons_cons]
  rcases hl : (y :: q).getLast? with _ | s
  · rfl
  · dsimp only
    split
    · rfl
    · rfl
theorem putS_sgs (l : List Nat) (n : Nat) : putS (sgs 2 l) n = sgs 2 (l ++ [n]) := by
  refine ck_ind (P := fun l => putS (sgs 2 l) n = sgs 2 (l ++ [n])) ?_ (fun l h ih => ?_) l.length l (Nat.le_refl _)
  · rfl
  · have hp : 0 < l.length := List.length_pos_iff.2 h
    have hne : l ++ [n] ≠ [] := by simp
    by_cases hl : l.length < 255
    · have e1 : sgs 2 l = [(2, l)] := by unfold sgs; rw [ck_short h (by omega)]; rfl
      have e2 : sgs 2 (l ++ [n]) = [(2, l ++ [n])] := by unfold sgs; rw [ck_short hne (by rw [List.length_append, List.length_singleton]; omega)]; rfl
      rw [e1, e2]
      unfold putS
      simp [hl]
    · rw [sgs_cons 2 h, sgs_cons 2 hne, List.take_append_of_le_length (by omega), List.drop_append_of_le_length (by omega), ← ih]
      by_cases hd : l.drop 255 = []
      · rw [hd]
        have hl2 : (l.take 255).length = 255 := by
          have := congrArg List.length hd
          rw [List.length_drop] at this
          simp at this
          rw [List.length_take]; omega
        show putS [(2, l.take 255)] n = (2, l.take 255) :: putS [] n
        unfold putS
        simp
        omega
      · exact putS_cons (by rw [sgs_cons 2 hd]; simp) n
theorem puts_sgs : ∀ (xs l : List Nat), xs.foldl putS (sgs 2 l) = sgs 2 (l ++ xs)
  | [], l => by simp
  | x :: xs, l => by
    rw [List.foldl_cons, putS_sgs, puts_sgs xs (l ++ [x])]
    simp
theorem puts_all (xs : List Nat) : xs.foldl putS [] = sgs 2 xs := by
  have := puts_sgs xs []
  rwa [List.nil_append] at this

/-- the numbers of the sequences ahead -/
def leadP : List Sg → List Nat
  | [] => []
  | s :: p => if s.1 = 2 then s.2 ++ leadP p else []
def allP (p : List Sg) : List Nat := p.flatMap (·.2)
theorem leadP_seqs : ∀ (cs : List (List Nat)), leadP (cs.map fun c => ((2 : Int), c)) = cs.flatten
  | [] => rfl
  | c :: cs => by
    rw [List.map_cons]
    unfold leadP
    rw [if_pos rfl, leadP_seqs cs, List.flatten_cons]
theorem leadP_sgs (l : List Nat) : leadP (sgs 2 l) = l := by unfold sgs; rw [leadP_seqs, ck_flat]
theorem allP_sgs (k : Int) (l : List Nat) : allP (sgs k l) = l := by
  unfold allP sgs
  rw [List.flatMap_map]
  have : ((ck l).flatMap fun a => a) = (ck l).flatten := by simp [List.flatMap_id']
  exact this.trans (ck_flat l)
end Go.Proofs.Ytafepficapdepaa.pth
