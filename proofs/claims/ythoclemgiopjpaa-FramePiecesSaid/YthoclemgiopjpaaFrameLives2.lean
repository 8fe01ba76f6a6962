/- What confluencelaw12.lives returns; the nil stream. No condition. -/
import Derived.Test.YthoclemgiopjpaaFrameLives
import Derived.Test.YthoclemgiopjpaaOctRef
namespace Go.Proofs.Ythoclemgiopjpaa.frame
open Go.RowKit Go.Proofs.Ythoclemgiopjpaa.kit Go.Proofs.Ythoclemgiopjpaa.mem Go.Proofs.Ythoclemgiopjpaa.foot Go.Proofs.Ythoclemgiopjpaa.octet
set_option linter.unusedVariables false
set_option linter.unusedSimpArgs false

theorem feed_one : feed ([] ++ wrapF 4 []) = ([(4, [])], [], none) := by decide +kernel
theorem wrap_len : (wrapF 4 []).length = 19 := by decide +kernel

set_option maxRecDepth 100000 in
set_option maxHeartbeats 1000000 in
theorem lives_any (w : World) : Calls Try.prog 25 #[] w fun e w' => e = .returned (.bool true) ∧ Below w.heap.size w w' := by
  have HW := Lib.hid (Wrap_yes 4 none 0 0 [] w (by omega) (by omega) (by simp) (fun _ => rfl) (Nat.zero_le _) (Rd.nil _ _ _ _))
  have Hwl := Lib.hid wrap_len
  go_enter Try.func25, Try.ntmps25
  go_wp2_with fail
  refine HW.out.mono ?_; rintro e w1 ⟨A1, c1, rfl, hn1, hb1⟩
  have HN := Lib.hid (New_any' w1)
  have HB1 := Lib.hid hb1
  have H1 := Lib.hid hn1
  rw [Hwl.out]
  clear hn1 hb1 HW
  go_wp2_with fail
  refine HN.out.mono ?_; rintro e w2 ⟨s, F, rfl, hst, hF, hb2⟩
  have hfe := Feed_any (b := wrapF 4 []) (A0 := A1) (c0 := c1) w2 (by simp) (by rw [Hwl.out]; omega) H1.out.1 hb2.size (Rd.below H1.out.2.2.2.1 hb2 (Nat.le_refl _)) hst
  rw [Hwl.out, feed_one] at hfe
  have HFe := Lib.hid hfe
  have HB2 := Lib.hid (HB1.out.trans (hb2.mono HB1.out.size))
  have HF : Hid (∀ k, F k → w.heap.size ≤ k) := fun k hk => Nat.le_trans HB1.out.size (hF k hk)
  clear hfe hst hF hb2 HN H1 HB1
  go_wp2_with fail
  refine HFe.out.mono ?_; rintro e w3 ⟨A3, c3, At, ct, rfl, _, _, _, _, F', _, hc3, _, hel, _⟩
  obtain ⟨bb, off, cs, rfl, _, hlt, hr, hcell⟩ := hel.at_ keeps_fr (k := 0) (by simp [frs])
  obtain ⟨d1, d2, rfl, ⟨rfl, _⟩, _⟩ := hr
  have q0 := hcell 0 _ rfl
  simp only [Nat.zero_mul, Nat.add_zero] at q0
  have q1 : w3.cell? ⟨bb, off, none⟩ = some (.int .i64 4) := q0
  have HB3 := Lib.hid (HB2.out.trans (hc3.below HF.out HB2.out.size))
  clear hel hcell q0 hc3 HFe
  simp only [ntOf, List.length_cons, List.length_nil, Nat.zero_add]
  go_wp2_with fail
  go_ret
  exact ⟨by simp, HB3.out.alloc HB3.out.size _⟩

theorem Waits_nil (w : World) : Calls Try.prog 33 #[.pointer none] w fun e w' => e = .returned (.int .i64 0) ∧ w = w' := by
  go_enter Try.func33, Try.ntmps33
  go_wp2_with fail
  go_ret
  exact ⟨rfl, rfl⟩
theorem Broken_nil (w : World) : Calls Try.prog 34 #[.pointer none] w fun e w' => e = .returned (.bool false) ∧ w = w' := by
  go_enter Try.func34, Try.ntmps34
  go_wp2_with fail
  go_ret
  exact ⟨by simp, rfl⟩
theorem Reset_nil (w : World) : Calls Try.prog 35 #[.pointer none] w fun e w' => e = .returned (.tuple #[]) ∧ w = w' := by
  go_enter Try.func35, Try.ntmps35
  go_wp2_with fail
  go_end0
  exact ⟨rfl, rfl⟩
end Go.Proofs.Ythoclemgiopjpaa.frame
