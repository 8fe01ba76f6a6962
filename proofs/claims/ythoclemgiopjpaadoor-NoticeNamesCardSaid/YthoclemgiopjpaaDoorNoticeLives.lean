/- confluencelaw11.lives returns true. No condition. -/
import Derived.Test.YthoclemgiopjpaaDoorNotice
namespace Go.Proofs.YthoclemgiopjpaaDoor.notice
open Go.RowKit Go.Proofs.YthoclemgiopjpaaDoor.kit Go.Proofs.YthoclemgiopjpaaDoor.mem Go.Proofs.YthoclemgiopjpaaDoor.foot Go.Proofs.YthoclemgiopjpaaDoor.octet Go.Proofs.YthoclemgiopjpaaDoor.told
set_option linter.unusedVariables false
set_option linter.unusedSimpArgs false

set_option maxRecDepth 100000 in
theorem small_two (w : World) : Calls Tryd.prog 38 #[.int .i64 2] w fun e w' => e = .returned (.string ⟨#[50]⟩) ∧ w = w' := by
  go_enter Tryd.func38, Tryd.ntmps38
  go_wp2_with fail
  go_ret
  exact ⟨rfl, rfl⟩
theorem format_two (w : World) : Calls Tryd.prog 37 #[.int .i64 2, .int .i64 10] w fun e w' => e = .returned (.string ⟨#[50]⟩) ∧ w = w' := by
  go_enter Tryd.func37, Tryd.ntmps37
  go_wp2_with fail
  refine (small_two w).mono ?_; rintro e w1 ⟨rfl, rfl⟩
  go_wp2_with fail
  go_ret
  exact ⟨rfl, rfl⟩
theorem itoa_two (w : World) : Calls Tryd.prog 30 #[.int .i64 2] w fun e w' => e = .returned (.string ⟨#[50]⟩) ∧ w = w' := by
  go_enter Tryd.func30, Tryd.ntmps30
  go_wp2_with fail
  refine (format_two w).mono ?_; rintro e w1 ⟨rfl, rfl⟩
  go_wp2_with fail
  go_ret
  exact ⟨rfl, rfl⟩
theorem Itoa_two (w : World) : Calls Tryd.prog 19 #[.int .i64 2] w fun e w' => e = .returned (.string ⟨#[50]⟩) ∧ w = w' := by
  go_enter Tryd.func19, Tryd.ntmps19
  go_wp2_with fail
  refine (itoa_two w).mono ?_; rintro e w1 ⟨rfl, rfl⟩
  go_wp2_with fail
  go_ret
  exact ⟨rfl, rfl⟩
theorem word_six (w : World) : Calls Tryd.prog 18 #[.int .i64 6] w fun e w' => e = .returned (.string ⟨#[99, 101, 97, 115, 101]⟩) ∧ w = w' := by
  go_enter Tryd.func18, Tryd.ntmps18
  go_wp2_with fail
  go_ret
  exact ⟨rfl, rfl⟩

set_option maxRecDepth 100000 in
set_option maxHeartbeats 1000000 in
theorem Name_two (w : World) : Calls Tryd.prog 6 #[.agg #[.int .i64 6, .int .i64 2, .slice none 0 0]] w fun e w' => e = .returned (.string ⟨#[99, 101, 97, 115, 101, 32, 50]⟩) ∧ Below w.heap.size w w' := by
  have HB0 : Hid (Below w.heap.size w (w.alloc (.cells #[.int .i64 6, .int .i64 2, .slice none 0 0] 24)).drew) := ((Below.refl _ _).alloc (Nat.le_refl _) _).drew
  go_enter Tryd.func6, Tryd.ntmps6
  go_wp2_with fail
  go_region_held3 (fun w' => w'.cell? ⟨w.heap.size, 0, none⟩ = some (.int .i64 6) ∧ w'.cell? ⟨w.heap.size, 1, none⟩ = some (.int .i64 2)) (exact ⟨by go_simp, by go_simp⟩) (first
    | (go_at_call 18; refine (word_six _).mono ?_; rintro e w1 ⟨rfl, rfl⟩)
    | (go_at_call 19; refine (Itoa_two _).mono ?_; rintro e w1 ⟨rfl, rfl⟩))
  all_goals
    go_wp2_with fail
    go_ret
    exact ⟨rfl, HB0.out⟩

theorem dec0 : goodB 6 2 ([] : List UInt8).length = true := by decide

set_option maxRecDepth 100000 in
theorem lives_any (w : World) : Calls Tryd.prog 10 #[] w fun e w' => e = .returned (.bool true) ∧ Below w.heap.size w w' := by
  go_enter Tryd.func10, Tryd.ntmps10
  go_wp2_with fail
  refine (Close_any 2 w).mono ?_; rintro e w1 ⟨rfl, hb1⟩
  have HB1 := Lib.hid hb1
  clear hb1
  go_wp2_with fail
  refine (Encode_yes 6 2 none 0 w1.heap.size [] w1 dec0 (fun _ => rfl) (Nat.le_refl _) (Rd.nil _ _ _ _)).mono ?_; rintro e w2 ⟨A', c', rfl, h1, h2, h3, h4, hb2⟩
  have hstr : (convert 22 9 (.slice A' 2 c')).run Tryd.prog w2 = .ok (.string ⟨#[6, 2]⟩) w2 := by have := run_str (c := c') h4; exact this
  have HB2 := Lib.hid (HB1.out.trans (hb2.mono HB1.out.size))
  clear h1 h2 h3 h4 hb2 HB1
  go_wp2_with fail
  refine (Name_two w2).mono ?_; rintro e w3 ⟨rfl, hb3⟩
  have HB3 := Lib.hid (HB2.out.trans (hb3.mono HB2.out.size))
  clear hb3
  go_wp2_with fail
  go_ret
  exact ⟨rfl, HB3.out⟩
end Go.Proofs.YthoclemgiopjpaaDoor.notice
