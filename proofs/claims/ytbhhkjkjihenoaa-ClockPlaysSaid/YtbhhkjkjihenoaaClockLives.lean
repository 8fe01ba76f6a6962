/- What clock's Tick, Run, Next and Keys return at no clock; Tick at one; confluencelaw23.lives. Conditions as each lemma states. -/
import Derived.Test.YtbhhkjkjihenoaaClockTick
namespace Go.Proofs.Ytbhhkjkjihenoaa.clk
open Go.RowKit Go.Proofs.Ytbhhkjkjihenoaa.kit Go.Proofs.Ytbhhkjkjihenoaa.mem Go.Proofs.Ytbhhkjkjihenoaa.foot Go.Proofs.Ytbhhkjkjihenoaa.maps
set_option linter.unusedVariables false
set_option linter.unusedSimpArgs false

theorem Tick_none (w : World) : Calls Try.prog 47 #[.pointer none] w fun e w' => e = .returned (.slice none 0 0) ∧ w = w' := by
  go_enter Try.func47, Try.ntmps47
  go_wp2
  go_ret
  exact ⟨rfl, rfl⟩
theorem Run_none (n : Int) (w : World) : Calls Try.prog 55 #[.pointer none, .int .i64 n] w fun e w' => e = .returned (.slice none 0 0) ∧ w = w' := by
  go_enter Try.func55, Try.ntmps55
  go_wp2
  go_ret
  exact ⟨rfl, rfl⟩
theorem Keys_none (w : World) : Calls Try.prog 58 #[.pointer none] w fun e w' => e = .returned (.slice none 0 0) ∧ w = w' := by
  go_enter Try.func58, Try.ntmps58
  go_wp2
  go_ret
  exact ⟨rfl, rfl⟩
theorem Next_none (w : World) : Calls Try.prog 57 #[.pointer none] w fun e w' => e = .returned (.tuple #[.int .i64 0, .bool false]) ∧ w = w' := by
  go_enter Try.func57, Try.ntmps57
  go_wp2
  go_ret2
  exact ⟨rfl, rfl⟩

theorem Tick_any {F : Foot} {t : Nat} {now : Int} {es : KV} (w : World) (hw : 0 ≤ now ∧ now ≤ 1000000) (hl : es.length ≤ 10000) (h : Ck w F t now es) :
    Calls Try.prog 47 #[.pointer (some ⟨t, 0, none⟩)] w fun e w' => ∃ L A c, L = sorted (outK (now + 1) es) ∧ e = .returned (.slice A L.length c) ∧ Own w' 3 1 A L.length c (iv L) ∧ (∀ k, sf A k → w.heap.size ≤ k) ∧ Ck w' F t (now + 1) (stay (now + 1) es) ∧ Chg F w w' := by
  have HT := Lib.hid (tick_any w hw hl h)
  clear h hw hl
  generalize now + 1 = T at *
  go_enter Try.func47, Try.ntmps47
  go_wp2_with fail
  refine HT.out.mono ?_; rintro e w1 ⟨⟨A, c, rfl, ho, hlow⟩, hck, hch⟩
  obtain ⟨L, hL⟩ : ∃ L, L = sorted (outK T es) := ⟨_, rfl⟩
  rw [← hL] at ho ⊢
  have HE := Lib.hid (show L = sorted (outK T es) ∧ Own w1 3 1 A L.length c (iv L) ∧ (∀ k, sf A k → w.heap.size ≤ k) ∧ Ck w1 F t T (stay T es) ∧ Chg F w w1 from ⟨hL, ho, hlow, hck, hch⟩)
  clear ho hlow hck hch HT hL
  go_wp2_with fail
  go_ret
  obtain ⟨h1, h2, h3, h4, h5⟩ := HE.out
  exact ⟨L, A, c, h1, rfl, h2, h3, h4, h5⟩

set_option maxRecDepth 100000 in
theorem lives_any (w : World) : Calls Try.prog 49 #[] w fun e w' => e = .returned (.bool true) ∧ Below w.heap.size w w' := by
  have HN := Lib.hid (New_any w)
  go_enter Try.func49, Try.ntmps49
  go_wp2_with fail
  refine HN.out.mono ?_; rintro e w1 ⟨t, F, rfl, ht, hF, hb1⟩
  have HS := Lib.hid (Set_ok 7 2 w1 (by decide) (by omega) (by omega) (by omega) (by simp) ht)
  have HB1 := Lib.hid hb1
  have HF := Lib.hid hF
  clear ht hF hb1 HN
  go_wp2_with fail
  refine HS.out.mono ?_; rintro e w2 ⟨rfl, h2, hc2⟩
  rw [show put [] 7 ((0 : Int) + 2) = [((7 : Int), (2 : Int))] from by simp [put]] at h2
  have HT := Lib.hid (Tick_any w2 (by omega) (by simp) h2)
  have HB2 := Lib.hid (HB1.out.trans (hc2.below HF.out HB1.out.size))
  clear h2 hc2 HS HB1
  go_wp2_with fail
  refine HT.out.mono ?_; rintro e w3 ⟨L, A, c, hL, rfl, ho, hlow, h3, hc3⟩
  rw [show sorted (outK (0 + 1) [((7 : Int), (2 : Int))]) = [] from by simp [outK]] at hL
  rw [show stay (0 + 1) [((7 : Int), (2 : Int))] = [(7, 2)] from by simp [stay]] at h3
  subst hL
  have HT3 := Lib.hid (Tick_any w3 (by omega) (by simp) h3)
  have HB3 := Lib.hid (HB2.out.trans (hc3.below HF.out HB2.out.size))
  clear ho hlow h3 hc3 HT HB2
  rw [show ([] : List Int).length = 0 from rfl]
  go_wp2_with fail
  refine HT3.out.mono ?_; rintro e w4 ⟨L, A4, c4, hL, rfl, ho, hlow, h4, hc4⟩
  rw [show sorted (outK (0 + 1 + 1) [((7 : Int), (2 : Int))]) = [7] from by simp [outK]] at hL
  subst hL
  obtain ⟨g, off, rfl, hcell⟩ := clk.Own.cell1 (i := 0) ho rfl (by simp)
  have HNw := Lib.hid (Now_any w4 h4)
  have HB4 := Lib.hid (HB3.out.trans (hc4.below HF.out HB3.out.size))
  simp at hcell
  clear ho hlow h4 hc4 HT3 HB3
  rw [show ([7] : List Int).length = 1 from rfl]
  go_wp2_with fail
  refine HNw.out.mono ?_; rintro e w5 ⟨rfl, rfl⟩
  go_wp2_with fail
  go_ret
  exact ⟨rfl, HB4.out⟩
end Go.Proofs.Ytbhhkjkjihenoaa.clk
