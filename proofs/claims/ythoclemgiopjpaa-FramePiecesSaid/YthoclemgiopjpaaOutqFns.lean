/- What a queue's methods do: New, Len, Waits, Room, Sent, Clear, cut. Condition: at most 2^40 bytes in all. -/
import Derived.Test.YthoclemgiopjpaaRows
import Derived.Test.YthoclemgiopjpaaBodies
import Derived.Test.YthoclemgiopjpaaOutqMath
import Derived.Test.YthoclemgiopjpaaOwn
import Derived.Deep.RegionHeld3
namespace Go.Proofs.Ythoclemgiopjpaa.outq
open Go.RowKit Go.Proofs.Ythoclemgiopjpaa.kit Go.Proofs.Ythoclemgiopjpaa.mem Go.Proofs.Ythoclemgiopjpaa.foot Go.Proofs.Ythoclemgiopjpaa.octet
set_option linter.unusedVariables false

/-- block q is a queue of these messages; all its memory is F -/
def Qu (w : World) (F : Foot) (q : Nat) (l : List (List UInt8)) (most : Int) (sent : Nat) : Prop :=
  ∃ A c vs G, Bk w q 68 #[.slice A l.length c, .int .i64 (l.flatten.length : Int), .int .i64 most, .int .i64 (sent : Int)] ∧ Own w 23 1 A l.length c vs ∧ Bodies w G vs l ∧ (∀ x ∈ l, x ≠ []) ∧ F q ∧ (∀ k, sf A k → F k ∧ ¬ G k) ∧ (∀ k, G k → F k ∧ k ≠ q) ∧ (∀ k, F k → k < w.heap.size)

section
variable {F E : Foot} {w w' : World} {q sent : Nat} {l : List (List UInt8)} {most : Int}
theorem Qu.lt (h : Qu w F q l most sent) : ∀ k, F k → k < w.heap.size := by
  obtain ⟨A, c, vs, G, _, _, _, _, _, _, _, h⟩ := h; exact h
theorem Qu.ne (h : Qu w F q l most sent) : ∀ x ∈ l, x ≠ [] := by
  obtain ⟨A, c, vs, G, _, _, _, h, _⟩ := h; exact h
theorem Qu.chg (h : Qu w F q l most sent) (hc : Chg E w w') (hd : ∀ k, F k → ¬ E k) : Qu w' F q l most sent := by
  obtain ⟨A, c, vs, G, h1, h2, h3, h4, h5, h6, h7, h8⟩ := h
  exact ⟨A, c, vs, G, h1.chg hc (hd q h5), h2.chg hc (fun k _ hk => hd k (h6 k hk).1), h3.chg hc (fun k _ hk => hd k (h7 k hk).1), h4, h5, h6, h7, fun k hk => Nat.lt_of_lt_of_le (h8 k hk) hc.size⟩
theorem Qu.bel (h : Qu w F q l most sent) (hb : Below w.heap.size w w') : Qu w' F q l most sent := h.chg (E := fun _ => False) (Chg.of_below hb _) (fun _ _ e => e)
theorem Qu.drew (h : Qu w F q l most sent) : Qu w.drew F q l most sent := h.bel ((Below.refl _ _).drew)
theorem Qu.drewN (h : Qu w F q l most sent) (n : Nat) : Qu (w.drewN n) F q l most sent := h.bel (below_drewN (Below.refl _ _) n)
end

theorem New_yes (most : Int) (w : World) (h1 : 1 ≤ most) (h2 : most ≤ 16777216) :
    Calls Try.prog 10 #[.int .i64 most] w fun e w' => ∃ q F, e = .returned (.tuple #[.pointer (some ⟨q, 0, none⟩), .int .i64 0]) ∧ Qu w' F q [] most 0 ∧ (∀ k, F k → w.heap.size ≤ k) ∧ Below w.heap.size w w' := by
  have e1 : decide (most < 1) = false := by simp; omega
  have e2 : decide (16777216 < most) = false := by simp; omega
  go_enter Try.func10, Try.ntmps10
  go_wp2_with fail
  go_ret2
  refine ⟨w.heap.size, fun k => k = w.heap.size, rfl, ⟨none, 0, [], fun _ => False, Bk.new w _ _, Own.none_ _ _ _, trivial, (fun _ h => by cases h), rfl, fun k hk => absurd hk (sf_none k), fun _ h => h.elim, fun k hk => by subst hk; simp⟩, fun k hk => Nat.le_of_eq hk.symm, (Below.refl _ _).alloc (Nat.le_refl _) _⟩

theorem New_no (most : Int) (w : World) (h : most < 1 ∨ 16777216 < most) :
    Calls Try.prog 10 #[.int .i64 most] w fun e w' => e = .returned (.tuple #[.pointer none, .int .i64 1]) ∧ w = w' := by
  rcases h with h | h
  · have e1 : decide (most < 1) = true := by simpa using h
    go_enter Try.func10, Try.ntmps10
    go_wp2_with fail
    go_ret2
    exact ⟨rfl, rfl⟩
  · have e1 : decide (most < 1) = false := by simp; omega
    have e2 : decide (16777216 < most) = true := by simpa using h
    go_enter Try.func10, Try.ntmps10
    go_wp2_with fail
    go_ret2
    exact ⟨rfl, rfl⟩

theorem Len_any {F : Foot} {q sent : Nat} {l : List (List UInt8)} {most : Int} (w : World) (h : Qu w F q l most sent) :
    Calls Try.prog 22 #[.pointer (some ⟨q, 0, none⟩)] w fun e w' => e = .returned (.int .i64 (l.length : Int)) ∧ w = w' := by
  obtain ⟨A, c, vs, G, hk, _⟩ := h
  have k0 := hk.cell 0
  simp at k0
  clear hk
  go_enter Try.func22, Try.ntmps22
  go_wp2_with fail
  go_ret
  exact ⟨rfl, rfl⟩
theorem Waits_any {F : Foot} {q sent : Nat} {l : List (List UInt8)} {most : Int} (w : World) (h : Qu w F q l most sent) :
    Calls Try.prog 14 #[.pointer (some ⟨q, 0, none⟩)] w fun e w' => e = .returned (.int .i64 (l.flatten.length : Int)) ∧ w = w' := by
  obtain ⟨A, c, vs, G, hk, _⟩ := h
  generalize l.flatten.length = n at *
  have k0 := hk.cell 1
  simp at k0
  clear hk
  go_enter Try.func14, Try.ntmps14
  go_wp2_with fail
  go_ret
  exact ⟨rfl, rfl⟩
theorem Sent_any {F : Foot} {q sent : Nat} {l : List (List UInt8)} {most : Int} (w : World) (h : Qu w F q l most sent) :
    Calls Try.prog 15 #[.pointer (some ⟨q, 0, none⟩)] w fun e w' => e = .returned (.int .i64 (sent : Int)) ∧ w = w' := by
  obtain ⟨A, c, vs, G, hk, _⟩ := h
  have k0 := hk.cell 3
  simp at k0
  clear hk
  go_enter Try.func15, Try.ntmps15
  go_wp2_with fail
  go_ret
  exact ⟨rfl, rfl⟩
theorem Room_any {F : Foot} {q sent : Nat} {l : List (List UInt8)} {most : Int} (w : World) (hm : 0 ≤ most ∧ most ≤ 16777216) (hl : l.flatten.length ≤ 1099511627776) (h : Qu w F q l most sent) :
    Calls Try.prog 23 #[.pointer (some ⟨q, 0, none⟩)] w fun e w' => e = .returned (.int .i64 (most - (l.flatten.length : Int))) ∧ ∃ n, w' = w.drewN n := by
  obtain ⟨A, c, vs, G, hk, _⟩ := h
  generalize l.flatten.length = n at *
  have k0 := hk.cell 1
  have k1 := hk.cell 2
  simp at k0 k1
  clear hk
  go_enter Try.func23, Try.ntmps23
  go_wp2_with fail
  go_quiet (fail)
  go_wp2_with fail
  go_ret
  exact ⟨rfl, _, rfl⟩
end Go.Proofs.Ythoclemgiopjpaa.outq
