/- What slices.Sort of integers leaves in a row of the call's own. Condition: fewer than 2^62 elements. -/
import Derived.Test.YtbhhkjkjihenoaaRows
import Derived.Test.YtbhhkjkjihenoaaFoot
import Derived.Test.YtbhhkjkjihenoaaShSort
namespace Go.Proofs.Ytbhhkjkjihenoaa.foot
open Go.RowKit Go.Proofs.Ytbhhkjkjihenoaa.kit Go.Proofs.Ytbhhkjkjihenoaa.mem
set_option linter.unusedVariables false
set_option linter.unusedSimpArgs false

/-- integers as cells -/
abbrev iv (zs : List Int) : List Value := zs.map (Value.int .i64)
/-- rising -/
abbrev sorted (zs : List Int) : List Int := zs.mergeSort fun x y => decide (x ≤ y)
theorem sorted_len (zs : List Int) : (sorted zs).length = zs.length := (List.mergeSort_perm _ _).length_eq
theorem iv_one (zs : List Int) : ∀ u ∈ iv zs, u.oneCell' = true := by
  intro u hu
  simp only [iv, List.mem_map] at hu
  obtain ⟨z, _, rfl⟩ := hu
  rfl
/-- the order of a list does not matter -/
theorem sorted_perm {a b : List Int} (h : a.Perm b) : sorted a = sorted b := by
  have tr : ∀ x y z : Int, decide (x ≤ y) = true → decide (y ≤ z) = true → decide (x ≤ z) = true := by
    intro x y z h1 h2; simp at *; omega
  have to : ∀ x y : Int, (decide (x ≤ y) || decide (y ≤ x)) = true := by intro x y; simp; omega
  refine List.Perm.eq_of_pairwise (le := fun x y => decide (x ≤ y) = true) ?_ (List.pairwise_mergeSort tr to a) (List.pairwise_mergeSort tr to b) (((List.mergeSort_perm a _).trans h).trans (List.mergeSort_perm b _).symm)
  intro x y _ _ h1 h2
  simp at h1 h2
  omega
theorem sorted_of {a : List Int} (h : a.Pairwise (· ≤ ·)) : sorted a = a := List.mergeSort_of_pairwise (h.imp fun h => by simpa using h)

theorem Sort_own (A : Option Addr) (n c : Nat) (zs : List Int) (w : World) (hl : zs.length = n) (hn : n < 4611686018427387904) (h : Own w 3 1 A n c (iv zs)) :
    Calls Try.prog 123 #[.slice A n c] w fun e w' => e = .returned (.tuple #[]) ∧ Own w' 3 1 A n c (iv (sorted zs)) ∧ Chg (sf A) w w' := by
  subst hl
  rcases Nat.eq_zero_or_pos zs.length with h0 | h0
  · have hz : zs = [] := List.length_eq_zero_iff.1 h0
    subst hz
    refine (Try.slices_Sort_int_none A c w).mono ?_
    rintro e w' ⟨rfl, rfl⟩
    exact ⟨rfl, by simpa using h, Chg.refl _ _⟩
  · obtain ⟨hlen, hr⟩ := h
    rcases hr with ⟨_, h1, _⟩ | ⟨g, off, cur, rfl, hb, h1, h2, h3, h4⟩
    · omega
    · have hH : Go.Sort.Holds (Value.int .i64) w g off zs.toArray := by
        intro j hj
        have hj' : j < zs.length := by simpa using hj
        refine ⟨?_, by rw [hb.free]⟩
        rw [hb.cell]
        rw [h4 j (.int .i64 zs[j]) (by simp [iv, hj'])]
        simp [hj']
      refine (Try.slices_Sort_int g off c zs w hH hb.lt hn).mono ?_
      rintro e w' ⟨rfl, m, os, rfl⟩
      have hg : g < w.heap.size := hb.lt
      refine ⟨rfl, ⟨by simp [iv, sorted_len], .inr ⟨g, off, Go.Sort.putCells (Value.int .i64) off (sorted zs).toArray cur, rfl, ?_, h1, h2, by simpa [Go.Sort.putCells] using h3, fun j u hu => ?_⟩⟩, ⟨rfl, rfl, rfl, by simp, fun k hk hf => ?_⟩⟩
      · unfold Bk at hb ⊢
        simp only [Go.Sort.grow, Go.Sort.putRow, Go.Sort.mapBlock, Go.Sort.ahead]
        rw [Array.getElem?_append_left (by simpa using hg), Array.getElem?_modify, hb]
        simp [Go.Sort.onCells]
      · have hj : j < zs.length := by
          have := (List.getElem?_eq_some_iff.1 hu).1
          simpa [iv, sorted_len] using this
        have hjs : j < (sorted zs).length := by rw [sorted_len]; exact hj
        have e1 : u = .int .i64 (sorted zs)[j] := by
          rw [List.getElem?_map, List.getElem?_eq_getElem hjs] at hu
          exact (Option.some.inj hu).symm
        have hcur : off + j < cur.size := by omega
        subst e1
        simp only [Go.Sort.putCells, Array.getElem?_mapIdx]
        rw [Array.getElem?_eq_getElem hcur]
        simp [hj, hjs, sorted_len]
      · simp only [Go.Sort.grow, Go.Sort.putRow, Go.Sort.mapBlock, Go.Sort.ahead]
        rw [Array.getElem?_append_left (by simpa using hk), Array.getElem?_modify]
        rw [sf_some] at hf
        simp [hf]
end Go.Proofs.Ytbhhkjkjihenoaa.foot
