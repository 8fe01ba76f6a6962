/- A notice's name by the program, from what strconv.Itoa returns. Conditions as the lemma states. -/
import Derived.Test.YthoclemgiopjpaaDoorNoticeName
import Derived.Deep.DeepCutAuto
import Derived.Deep.RegionWith
namespace Go.Proofs.YthoclemgiopjpaaDoor.notice
open Go.RowKit Go.Proofs.YthoclemgiopjpaaDoor.kit Go.Proofs.YthoclemgiopjpaaDoor.mem Go.Proofs.YthoclemgiopjpaaDoor.foot Go.Proofs.YthoclemgiopjpaaDoor.octet Go.Proofs.YthoclemgiopjpaaDoor.told
set_option linter.unusedVariables false
set_option linter.unusedSimpArgs false

set_option maxRecDepth 100000 in
set_option maxHeartbeats 4000000 in
theorem Name_any (c s : Int) (A : Option Addr) (n k : Nat) (w : World) (h0 : -9223372036854775808 ≤ s) (h1 : s ≤ 9223372036854775807)
    (hI : ∀ w', Below w.heap.size w w' → Calls Tryd.prog 19 #[.int .i64 s] w' fun e w'' => e = .returned (.string ⟨(Lib.itoa s).toArray⟩) ∧ Below w'.heap.size w' w'') :
    Calls Tryd.prog 6 #[.agg #[.int .i64 c, .int .i64 s, .slice A n k]] w fun e w' => e = .returned (.string ⟨(nameOf c s).toArray⟩) ∧ Below w.heap.size w w' := by
  have hl := Lib.itoa_length_le s h0 h1
  have hl2 := wordOf_len c
  have hs : s = 0 ∨ (s ≠ 0 ∧ (s == 0) = false) := by
    by_cases h : s = 0
    · exact .inl h
    · exact .inr ⟨h, by simp [h]⟩
  have HW := Lib.hid (fun w => word_any c w)
  have hb : Below w.heap.size w (w.alloc (.cells #[.int .i64 c, .int .i64 s, .slice A n k] 24)) := (Below.refl _ _).alloc (Nat.le_refl _) _
  have hk : Bk (w.alloc (.cells #[.int .i64 c, .int .i64 s, .slice A n k] 24)) w.heap.size 24 #[.int .i64 c, .int .i64 s, .slice A n k] := Bk.new _ _ _
  rcases hs with rfl | ⟨g1, g2⟩
  · have HN := Lib.hid (name_zero c)
    have HB := Lib.hid hb
    clear hI hb hk
    go_enter Tryd.func6, Tryd.ntmps6
    go_wp2_with fail
    refine (HW.out _).mono ?_; rintro e w1 ⟨rfl, rfl⟩
    go_wp2_with fail
    go_ret
    exact ⟨by rw [HN.out]; rfl, HB.out⟩
  · have HN := Lib.hid (fun c => name_ne c s g1)
    have HI := Lib.hid hI
    have HX : Hid (Below w.heap.size w (w.alloc (.cells #[.int .i64 c, .int .i64 s, .slice A n k] 24)).drew) := hb.drew
    have HK := Lib.hid hk.drew
    have n0 := hk.drew.cell 0
    have n1 := hk.drew.cell 1
    simp only [List.getElem?_toArray, List.getElem?_cons_succ, List.getElem?_cons_zero] at n0 n1
    clear hI hb hk
    go_enter Tryd.func6, Tryd.ntmps6
    go_wp2_with fail
    go_cut [2] (fun s2 wx => s2 = .string ⟨(nameOf c s).toArray⟩ ∧ Below w.heap.size w wx)
    case first =>
      go_region_with (first
        | (go_at_call 18; refine (HW.out _).mono ?_; rintro e w1 ⟨rfl, rfl⟩)
        | (go_at_call 19; refine (HI.out _ HX.out).mono ?_; rintro e w2 ⟨rfl, hb2⟩; have HK2 := Lib.hid (HK.out.below hb2 HK.out.lt); have HX := Lib.hid (HX.out.trans (hb2.mono HX.out.size)); have HK := HK2; have n0 := HK2.out.cell 0; have n1 := HK2.out.cell 1; simp only [List.getElem?_toArray, List.getElem?_cons_succ, List.getElem?_cons_zero] at n0 n1; clear hb2))
      all_goals
        go_wp2_with fail
        go_meet
        exact ⟨by rw [HN.out], HX.out⟩
    case rest =>
      obtain ⟨rfl, hx⟩ := hcut
      go_wp2_with fail
      go_ret
      exact ⟨rfl, hx⟩
end Go.Proofs.YthoclemgiopjpaaDoor.notice
