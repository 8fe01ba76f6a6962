/- A notice's name, by the program (from strconv.Itoa's contract) and by the document. Conditions as each lemma states. -/
import Derived.Test.YthoclemgiopjpaaDoorNoticeNum
import Derived.Deep.RegionHeld3
namespace Go.Proofs.YthoclemgiopjpaaDoor.notice
open Go.RowKit Go.Proofs.YthoclemgiopjpaaDoor.kit Go.Proofs.YthoclemgiopjpaaDoor.mem Go.Proofs.YthoclemgiopjpaaDoor.foot Go.Proofs.YthoclemgiopjpaaDoor.octet Go.Proofs.YthoclemgiopjpaaDoor.told
set_option linter.unusedVariables false
set_option linter.unusedSimpArgs false

/-- a code's word -/
def wordOf (c : Int) : List UInt8 :=
  if c = 1 then [104, 101, 97, 100] else if c = 2 then [111, 112, 101, 110] else if c = 3 then [117, 112, 100, 97, 116, 101] else if c = 4 then [104, 111, 108, 100] else if c = 5 then [115, 116, 97, 116, 101] else if c = 6 then [99, 101, 97, 115, 101] else [111, 116, 104, 101, 114]

theorem word_cases (c : Int) : (c = 1 ∨ c = 2 ∨ c = 3 ∨ c = 4 ∨ c = 5 ∨ c = 6) ∨ (c ≠ 1 ∧ c ≠ 2 ∧ c ≠ 3 ∧ c ≠ 4 ∧ c ≠ 5 ∧ c ≠ 6) := by omega
theorem wordOf_len (c : Int) : (wordOf c).length ≤ 6 := by
  rcases word_cases c with (rfl | rfl | rfl | rfl | rfl | rfl) | ⟨h1, h2, h3, h4, h5, h6⟩
  iterate 6 (· decide)
  · simp [wordOf, h1, h2, h3, h4, h5, h6]

theorem word_any (c : Int) (w : World) : Calls Tryd.prog 18 #[.int .i64 c] w fun e w' => e = .returned (.string ⟨(wordOf c).toArray⟩) ∧ w = w' := by
  rcases word_cases c with (rfl | rfl | rfl | rfl | rfl | rfl) | ⟨h1, h2, h3, h4, h5, h6⟩
  iterate 6
    · go_enter Tryd.func18, Tryd.ntmps18
      go_wp2_with fail
      go_ret
      exact ⟨rfl, rfl⟩
  · have e : wordOf c = [111, 116, 104, 101, 114] := by simp [wordOf, h1, h2, h3, h4, h5, h6]
    have HE := Lib.hid e
    have b1 : (c == 1) = false := by simp [h1]
    have b2 : (c == 2) = false := by simp [h2]
    have b3 : (c == 3) = false := by simp [h3]
    have b4 : (c == 4) = false := by simp [h4]
    have b5 : (c == 5) = false := by simp [h5]
    have b6 : (c == 6) = false := by simp [h6]
    clear e
    go_enter Tryd.func18, Tryd.ntmps18
    go_wp2_with fail
    go_ret
    exact ⟨by rw [HE.out]; rfl, rfl⟩

/-- a notice's name -/
def nameOf (c s : Int) : List UInt8 := if s = 0 then wordOf c else wordOf c ++ [32] ++ Lib.itoa s

theorem name_zero (c : Int) : nameOf c 0 = wordOf c := by simp [nameOf]
theorem name_ne (c s : Int) (h : s ≠ 0) : (⟨(nameOf c s).toArray⟩ : ByteArray) = ⟨(wordOf c).toArray⟩ ++ ⟨#[32]⟩ ++ ⟨(Lib.itoa s).toArray⟩ := by
  unfold nameOf
  rw [if_neg h, ← str_app, ← str_app]

set_option maxRecDepth 100000 in
set_option maxHeartbeats 4000000 in
theorem rName_any (c s : Int) (A : Option Addr) (n k : Nat) (w : World) (h0 : -9223372036854775808 ≤ s) (h1 : s ≤ 9223372036854775807) :
    Calls Tryd.prog 7 #[.agg #[.int .i64 c, .int .i64 s, .slice A n k]] w fun e w' => e = .returned (.string ⟨(nameOf c s).toArray⟩) ∧ Below w.heap.size w w' := by
  have HI := Lib.hid (fun w => Int_any s w h0 h1)
  have hl := Lib.itoa_length_le s h0 h1
  have hs : s = 0 ∨ (s ≠ 0 ∧ (s == 0) = false ∧ (s != 0) = true) := by
    by_cases h : s = 0
    · exact .inl h
    · exact .inr ⟨h, by simp [h], by simp [h]⟩
  rcases word_cases c with (rfl | rfl | rfl | rfl | rfl | rfl) | h6
  iterate 6
    · rcases hs with rfl | ⟨g1, g2, g3⟩
      · go_enter Tryd.func7, Tryd.ntmps7
        go_wp2_with fail
        go_ret
        exact ⟨rfl, ((Below.refl _ _).alloc (Nat.le_refl _) _).alloc (by simp) _⟩
      · have HN := Lib.hid (fun c => name_ne c s g1)
        have hl2 : (Lib.itoa s).length ≤ 21 := hl
        go_enter Tryd.func7, Tryd.ntmps7
        go_wp2_with fail
        refine (HI.out _).mono ?_; rintro e w1 ⟨rfl, rfl⟩
        go_wp2_with fail
        go_ret
        exact ⟨by rw [HN.out]; rfl, ((Below.refl _ _).alloc (Nat.le_refl _) _).alloc (by simp) _⟩
  · have hw : wordOf c = [111, 116, 104, 101, 114] := by simp [wordOf, h6]
    have HW := Lib.hid hw
    clear hw
    have hcc : decide (0 < c) = false ∨ (decide (0 < c) = true ∧ decide (c < 7) = false) := by
      by_cases h : 0 < c
      · exact .inr ⟨by simpa using h, by simp; omega⟩
      · exact .inl (by simpa using h)
    clear h6
    rcases hcc with d1 | ⟨d1, d2⟩
    all_goals
      rcases hs with rfl | ⟨g1, g2, g3⟩
      · have HN := Lib.hid (name_zero c)
        go_enter Tryd.func7, Tryd.ntmps7
        go_wp2_with fail
        go_ret
        exact ⟨by rw [HN.out, HW.out]; rfl, ((Below.refl _ _).alloc (Nat.le_refl _) _).alloc (by simp) _⟩
      · have HN := Lib.hid (name_ne c s g1)
        go_enter Tryd.func7, Tryd.ntmps7
        go_wp2_with fail
        refine (HI.out _).mono ?_; rintro e w1 ⟨rfl, rfl⟩
        go_wp2_with fail
        go_ret
        exact ⟨by rw [HN.out, HW.out]; rfl, ((Below.refl _ _).alloc (Nat.le_refl _) _).alloc (by simp) _⟩
end Go.Proofs.YthoclemgiopjpaaDoor.notice
