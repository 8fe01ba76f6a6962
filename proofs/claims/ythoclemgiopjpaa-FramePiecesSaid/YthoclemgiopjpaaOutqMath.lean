/- Messages that wait: what is taken of them, in plain Lean. No condition. -/
import Init
namespace Go.Proofs.Ythoclemgiopjpaa.outq

/-- the next n bytes, and what is left -/
def takeQ : List (List UInt8) → Nat → List (List UInt8) × List UInt8
  | [], _ => ([], [])
  | b :: r, n => if n = 0 then (b :: r, []) else if n < b.length then (b.drop n :: r, b.take n) else ((takeQ r (n - b.length)).1, b ++ (takeQ r (n - b.length)).2)
/-- the next bytes of the first message alone, at most n -/
def cutQ (b : List UInt8) (r : List (List UInt8)) (n : Nat) : List (List UInt8) := if n < b.length then b.drop n :: r else r

theorem takeQ_zero (l : List (List UInt8)) : takeQ l 0 = (l, []) := by cases l <;> simp [takeQ]
theorem takeQ_cut (b : List UInt8) (r : List (List UInt8)) (n : Nat) (hn : 0 < n) :
    takeQ (b :: r) n = ((takeQ (cutQ b r n) (n - (b.take n).length)).1, b.take n ++ (takeQ (cutQ b r n) (n - (b.take n).length)).2) := by
  unfold cutQ
  by_cases h : n < b.length
  · have e : (b.take n).length = n := by simp; omega
    rw [if_pos h, e, Nat.sub_self, takeQ_zero]
    simp [takeQ, h]; omega
  · have e : (b.take n).length = b.length := by simp; omega
    have e2 : b.take n = b := List.take_of_length_le (by omega)
    rw [if_neg h, e, e2]
    simp [takeQ, h]; omega
theorem takeQ_snd : ∀ (l : List (List UInt8)) (n : Nat), (takeQ l n).2 = l.flatten.take n
  | [], n => by simp [takeQ]
  | b :: r, n => by
    unfold takeQ
    by_cases h0 : n = 0
    · simp [h0]
    · by_cases h : n < b.length
      · simp only [h0, h, if_true, if_false, List.flatten_cons]
        rw [List.take_append_of_le_length (by omega)]
      · simp only [h0, h, if_false, List.flatten_cons]
        rw [takeQ_snd r, List.take_append, List.take_of_length_le (l := b) (by omega)]
theorem takeQ_fst : ∀ (l : List (List UInt8)) (n : Nat), (takeQ l n).1.flatten = l.flatten.drop n
  | [], n => by simp [takeQ]
  | b :: r, n => by
    unfold takeQ
    by_cases h0 : n = 0
    · simp [h0]
    · by_cases h : n < b.length
      · simp only [h0, h, if_true, if_false, List.flatten_cons]
        rw [List.drop_append_of_le_length (by omega)]
      · simp only [h0, h, if_false, List.flatten_cons]
        rw [takeQ_fst r, List.drop_append, List.drop_of_length_le (l := b) (by omega)]
        simp
theorem takeQ_ne : ∀ (l : List (List UInt8)) (n : Nat), (∀ x ∈ l, x ≠ []) → ∀ x ∈ (takeQ l n).1, x ≠ []
  | [], n, h => by simp [takeQ]
  | b :: r, n, h => by
    unfold takeQ
    by_cases h0 : n = 0
    · simpa [h0] using h
    · by_cases hb : n < b.length
      · simp only [h0, hb, if_true, if_false]
        intro x hx
        rcases List.mem_cons.1 hx with rfl | hx
        · intro e
          have : (b.drop n).length = 0 := by rw [e]; rfl
          simp at this; omega
        · exact h x (List.mem_cons_of_mem _ hx)
      · simp only [h0, hb, if_false]
        exact takeQ_ne r _ fun x hx => h x (List.mem_cons_of_mem _ hx)
theorem cutQ_ne (b : List UInt8) (r : List (List UInt8)) (n : Nat) (h : ∀ x ∈ b :: r, x ≠ []) : ∀ x ∈ cutQ b r n, x ≠ [] := by
  unfold cutQ
  split
  · intro x hx
    rcases List.mem_cons.1 hx with rfl | hx
    · intro e
      have : (b.drop n).length = 0 := by rw [e]; rfl
      simp at this; omega
    · exact h x (List.mem_cons_of_mem _ hx)
  · exact fun x hx => h x (List.mem_cons_of_mem _ hx)
theorem cutQ_flat (b : List UInt8) (r : List (List UInt8)) (n : Nat) : (cutQ b r n).flatten.length = (b :: r).flatten.length - min n b.length := by
  unfold cutQ
  split
  · simp; omega
  · simp; omega
theorem flat_pos (l : List (List UInt8)) (h : ∀ x ∈ l, x ≠ []) : l.flatten.length = 0 ↔ l = [] := by
  constructor
  · intro e
    cases l with
    | nil => rfl
    | cons b r =>
      simp at e
      exact absurd e.1 (h b (by simp))
  · rintro rfl; rfl
/-- what is told of a message: 0 OK, else why it may not wait -/
def pushE (l : List (List UInt8)) (most : Int) (b : List UInt8) : Int :=
  if b = [] then 1 else if most < b.length then 6 else if most < l.flatten.length + b.length then 3 else 0
def pushQ (l : List (List UInt8)) (most : Int) (b : List UInt8) : List (List UInt8) := if pushE l most b = 0 then l ++ [b] else l
theorem pushE_cases (l : List (List UInt8)) (most : Int) (b : List UInt8) : (pushE l most b = 0 ∧ b ≠ [] ∧ (l.flatten.length : Int) + b.length ≤ most) ∨ (pushE l most b ≠ 0) := by
  unfold pushE
  split
  · exact .inr (by omega)
  · split
    · exact .inr (by omega)
    · split
      · exact .inr (by omega)
      · exact .inl ⟨rfl, by assumption, by omega⟩
end Go.Proofs.Ythoclemgiopjpaa.outq
