/- How many prefixes fit, and how they are parted. Plain Lean. -/
import Derived.Test.YtajilbapjpfloaaNlriMath
namespace Go.Proofs.Ytajilbapjpfloaa.nlri
set_option linter.unusedVariables false

/-- how many fit, from the first on -/
def fitI : Int → List (Nat × Int) → Nat
  | _, [] => 0
  | r, p :: l => if r - (sizeP p : Int) < 0 then 0 else fitI (r - (sizeP p : Int)) l + 1
def sumP (l : List (Nat × Int)) : Nat := (l.map sizeP).sum
theorem sumP_cons (p : Nat × Int) (l : List (Nat × Int)) : sumP (p :: l) = sizeP p + sumP l := by simp [sumP]
theorem sumP_snoc (p : Nat × Int) (l : List (Nat × Int)) : sumP (l ++ [p]) = sumP l + sizeP p := by simp [sumP]
theorem fitI_le : ∀ (r : Int) (l : List (Nat × Int)), fitI r l ≤ l.length
  | _, [] => Nat.le_refl _
  | r, p :: l => by
    unfold fitI
    split
    · exact Nat.zero_le _
    · have := fitI_le (r - (sizeP p : Int)) l
      simp only [List.length_cons]; omega
theorem fitI_sum : ∀ (r : Int) (l : List (Nat × Int)), 0 ≤ r → (sumP (l.take (fitI r l)) : Int) ≤ r
  | r, [], h => by simpa [sumP] using h
  | r, p :: l, h => by
    unfold fitI
    split
    · simpa [sumP] using h
    · have := fitI_sum (r - (sizeP p : Int)) l (by omega)
      rw [List.take_succ_cons, sumP_cons]
      omega
theorem fitI_next : ∀ (r : Int) (l : List (Nat × Int)) (p : Nat × Int), l[fitI r l]? = some p → r < (sumP (l.take (fitI r l)) : Int) + (sizeP p : Int)
  | r, [], p, h => by simp at h
  | r, q :: l, p, h => by
    unfold fitI at h ⊢
    split at h
    · rename_i hc
      rw [if_pos hc]
      simp at h
      subst h
      simp [sumP]
      omega
    · rename_i hc
      rw [if_neg hc]
      have := fitI_next (r - (sizeP q : Int)) l p (by simpa using h)
      rw [List.take_succ_cons, sumP_cons]
      omega
/-- the first k fit -/
theorem fitI_at : ∀ (l : List (Nat × Int)) (r : Int) (k : Nat), k ≤ fitI r l → (k = fitI r l ↔ ∀ p, l[k]? = some p → r - (sumP (l.take k) : Int) - (sizeP p : Int) < 0)
  | [], r, k, h => by
    simp only [fitI] at h ⊢
    obtain rfl : k = 0 := by omega
    simp
  | q :: l, r, k, h => by
    unfold fitI at h ⊢
    split
    · rename_i hc
      rw [if_pos hc] at h
      obtain rfl : k = 0 := by omega
      simp [sumP]
      exact hc
    · rename_i hc
      rw [if_neg hc] at h
      rcases k with _ | k
      · simp [sumP]
        omega
      · have ih := fitI_at l (r - (sizeP q : Int)) k (by omega)
        rw [List.take_succ_cons, sumP_cons]
        simp only [List.getElem?_cons_succ]
        constructor
        · intro e p hp
          have := ih.1 (by omega) p hp
          omega
        · intro hh
          have := ih.2 fun p hp => by have := hh p hp; omega
          omega
theorem fitI_left {l : List (Nat × Int)} {r : Int} {k : Nat} (h : k ≤ fitI r l) (hr : 0 ≤ r) : (sumP (l.take k) : Int) ≤ r := by
  have h1 := fitI_sum r l hr
  have h2 : sumP (l.take k) ≤ sumP (l.take (fitI r l)) := by
    have e : l.take (fitI r l) = l.take k ++ (l.take (fitI r l)).drop k := by
      have := (List.take_append_drop k (l.take (fitI r l))).symm
      rwa [List.take_take, Nat.min_eq_left h] at this
    rw [e]
    unfold sumP
    rw [List.map_append, List.sum_append]
    omega
  omega
/-- those that may be packed -/
def okP (room : Int) (p : Nat × Int) : Bool := !(sizeP p == 0 || decide (room < (sizeP p : Int)))
theorem okP_iff (room : Int) (p : Nat × Int) : okP room p = true ↔ 0 < sizeP p ∧ (sizeP p : Int) ≤ room := by
  unfold okP
  simp only [Bool.not_eq_true', Bool.or_eq_false_iff, beq_eq_false_iff_ne, decide_eq_false_iff_not]
  omega
def packF : Nat → Int → List (Nat × Int) → List (List (Nat × Int))
  | 0, _, _ => []
  | f + 1, room, l => if l = [] then [] else l.take (fitI room l) :: packF f room (l.drop (fitI room l))
def packK (room : Int) (l : List (Nat × Int)) : List (List (Nat × Int)) := packF l.length room l
theorem fitI_pos {room : Int} {l : List (Nat × Int)} (h : l ≠ []) (hok : ∀ p ∈ l, okP room p = true) : 1 ≤ fitI room l := by
  rcases l with _ | ⟨p, l⟩
  · exact absurd rfl h
  · have := (okP_iff room p).1 (hok p (by simp))
    unfold fitI
    rw [if_neg (by omega)]
    omega
theorem packF_more : ∀ (f g : Nat) (room : Int) (l : List (Nat × Int)), (∀ p ∈ l, okP room p = true) → l.length ≤ f → l.length ≤ g → packF f room l = packF g room l
  | 0, g, room, l, hok, hf, hg => by
    have : l = [] := List.length_eq_zero_iff.1 (by omega)
    subst this
    cases g with
    | zero => rfl
    | succ g => simp [packF]
  | f + 1, 0, room, l, hok, hf, hg => by
    have : l = [] := List.length_eq_zero_iff.1 (by omega)
    subst this
    simp [packF]
  | f + 1, g + 1, room, l, hok, hf, hg => by
    unfold packF
    split
    · rfl
    · rename_i h
      have h1 := fitI_pos h hok
      have h2 : (l.drop (fitI room l)).length < l.length := by
        have : 0 < l.length := List.length_pos_iff.2 h
        rw [List.length_drop]; omega
      rw [packF_more f g room (l.drop (fitI room l)) (fun p hp => hok p (List.mem_of_mem_drop hp)) (by omega) (by omega)]
theorem packK_cons {room : Int} {l : List (Nat × Int)} (h : l ≠ []) (hok : ∀ p ∈ l, okP room p = true) : packK room l = l.take (fitI room l) :: packK room (l.drop (fitI room l)) := by
  have h1 := fitI_pos h hok
  have h3 : 0 < l.length := List.length_pos_iff.2 h
  obtain ⟨f, hf⟩ : ∃ f, l.length = f + 1 := ⟨l.length - 1, by omega⟩
  unfold packK
  rw [hf]
  conv => lhs; unfold packF
  rw [if_neg h, packF_more f (l.drop (fitI room l)).length room _ (fun p hp => hok p (List.mem_of_mem_drop hp)) (by rw [List.length_drop]; omega) (Nat.le_refl _)]
theorem packK_nil (room : Int) : packK room [] = [] := rfl
/-- what is told of each group -/
theorem packK_at : ∀ (n : Nat) (room : Int) (l : List (Nat × Int)), l.length ≤ n → (∀ p ∈ l, okP room p = true) → (packK room l).flatten = l ∧ (packK room l).length ≤ l.length ∧
    ∀ (i : Nat) (g : List (Nat × Int)), (packK room l)[i]? = some g → 1 ≤ g.length ∧ (sumP g : Int) ≤ room ∧ ∀ p, l[((packK room l).take (i + 1)).flatten.length]? = some p → room < (sumP g : Int) + (sizeP p : Int)
  | 0, room, l, hn, hok => by
    have : l = [] := List.length_eq_zero_iff.1 (by omega)
    subst this
    rw [packK_nil]
    exact ⟨rfl, Nat.le_refl _, fun i g h => by simp at h⟩
  | n + 1, room, l, hn, hok => by
    by_cases h : l = []
    · subst h
      rw [packK_nil]
      exact ⟨rfl, Nat.le_refl _, fun i g h => by simp at h⟩
    · have h1 := fitI_pos h hok
      have h3 : 0 < l.length := List.length_pos_iff.2 h
      have hle := fitI_le room l
      have hroom : 0 ≤ room := by
        rcases l with _ | ⟨p, l⟩
        · exact absurd rfl h
        · have := (okP_iff room p).1 (hok p (by simp)); omega
      obtain ⟨k1, k2, k3⟩ := packK_at n room (l.drop (fitI room l)) (by rw [List.length_drop]; omega) fun p hp => hok p (List.mem_of_mem_drop hp)
      rw [packK_cons h hok]
      refine ⟨?_, ?_, fun i g hg => ?_⟩
      · rw [List.flatten_cons, k1, List.take_append_drop]
      · rw [List.length_cons]
        rw [List.length_drop] at k2
        omega
      · rcases i with _ | i
        · simp at hg
          subst hg
          refine ⟨by rw [List.length_take]; omega, fitI_sum room l hroom, fun p hp => ?_⟩
          rw [List.take_succ_cons, List.take_zero, List.flatten_cons, List.flatten_nil, List.append_nil, List.length_take, Nat.min_eq_left hle] at hp
          exact fitI_next room l p hp
        · obtain ⟨m1, m2, m3⟩ := k3 i g (by simpa using hg)
          refine ⟨m1, m2, fun p hp => m3 p ?_⟩
          rw [List.take_succ_cons, List.flatten_cons, List.length_append, List.length_take, Nat.min_eq_left hle] at hp
          rw [List.getElem?_drop]
          exact hp
end Go.Proofs.Ytajilbapjpfloaa.nlri
