/- What confluencelaw08.lives returns. No condition. -/
import Derived.Test.YtgpmkbpahnbhlaaGreatAttrDecode
import Derived.Test.YtgpmkbpahnbhlaaGreatOctLives
namespace Go.Proofs.YtgpmkbpahnbhlaaGreat.attr
open Go.RowKit Go.Proofs.YtgpmkbpahnbhlaaGreat.kit Go.Proofs.YtgpmkbpahnbhlaaGreat.mem Go.Proofs.YtgpmkbpahnbhlaaGreat.foot Go.Proofs.YtgpmkbpahnbhlaaGreat.nums Go.Proofs.YtgpmkbpahnbhlaaGreat.asn Go.Proofs.YtgpmkbpahnbhlaaGreat.pth Go.Proofs.YtgpmkbpahnbhlaaGreat.octet
set_option linter.unusedVariables false
set_option linter.unusedSimpArgs false
def atO (n : Int) : Atr := ⟨2, n, [], 0, 0, 0, 0, 0, []⟩
theorem am_atO (w : World) (G : Foot) (n : Int) (hn : (Lit.int .i64 n).wf = true) : Am w G (atO n) none 0 none 0 := ⟨⟨rfl, hn, rfl, rfl, rfl, rfl, rfl⟩, Sp.empty w G, Sn.empty w G, fun n hn => by cases hn⟩
theorem bits2 (k : Nat) : bitI 2 k = decide (k = 1) := by
  rcases Nat.lt_or_ge k 3 with h | h
  · have : k = 0 ∨ k = 1 ∨ k = 2 := by omega
    rcases this with rfl | rfl | rfl <;> decide
  · unfold bitI
    have e : (2 : Int) / 2 ^ k = 0 := by
      apply Int.ediv_eq_zero_of_lt (by decide)
      have : (2 : Int) ^ 3 ≤ 2 ^ k := by
        have : (2 : Nat) ^ 3 ≤ 2 ^ k := Nat.pow_le_pow_right (by omega) h
        exact_mod_cast this
      omega
    rw [e]
    have : ¬ k = 1 := by omega
    simp [this]
theorem norm_atO (n : Int) : normA (atO n) = atO n := by
  unfold normA atO
  simp [bits2, selI, selL]
theorem normS_nil : normS [] = [] := by
  unfold normS nrun sgs
  simp [ck_nil]
theorem good_nil : WaysS [] := ⟨⟨fun s hs => (by cases hs), by simp, normS_nil⟩, by simp [allP]⟩
theorem good_atO : GoodA (atO 0) := ⟨norm_atO 0, by decide, by decide, by simp [atO], fun h => by simp [atO, bits2] at h, good_nil⟩
theorem enc_atO : encB (atO 0) = [64, 1, 1, 0] := by
  unfold encB
  simp only [encU, atO, bits2]
  simp [attB, valB]
  decide
theorem wrong_atO : wrongS zeroA 64 1 [2] = (atO 2, 0) := by
  have h1 : flaggedB 64 1 = true := by decide
  have h2 : longB 1 1 = true := by decide
  have h3 : num [2] = 2 := by decide
  simp [wrongS, layS, h1, h2, h3, zeroA, atO]
theorem att_atO : att1 [64, 1, 1, 2] = some (⟨64, 1, [2], [64, 1, 1, 2]⟩, []) := by
  have h1 : ext 64 = false := by decide
  have h3 : num [1] = 1 := by decide
  simp [att1, lenN, h1, h3]
theorem dec_atO : decS [64, 1, 1, 2] = .ok (atO 2) := by
  show decQ [64, 1, 1, 2] [] zeroA = _
  rw [decQ_some att_atO]
  simp only [wrong_atO]
  simp [decQ_nil, norm_atO]
set_option maxRecDepth 100000 in
set_option maxHeartbeats 4000000 in
theorem lives_any (w : World) : Calls Tryz.prog 18 #[] w fun e w' => e = .returned (.bool true) ∧ Below w.heap.size w w' := by
  have HSz : Hid ((Tryz.prog.info? 26).map (·.size) = some 9) := info_atr
  have HSn : Hid ((Tryz.prog.info? 34).map (·.size) = some 3) := info_ntc
  have HE : Hid (Calls Tryz.prog 33 #[.agg #[.int .i64 2, .int .i64 0, .slice none 0 0, .int .u32 0, .int .u32 0, .int .u32 0, .int .u32 0, .int .u32 0, .slice none 0 0]] w fun e w' => ∃ A c, e = .returned (.tuple #[.slice A 4 c, .int .i64 0]) ∧ Bs w' w'.heap.size A [64, 1, 1, 0] ∧ Below w.heap.size w w') := by
    have h := Encode_yes (atO 0) none none 0 0 (fun _ => True) w (am_atO _ _ _ rfl) (by simp [atO, nsz]) (by simp [atO]) good_atO
    rw [enc_atO] at h
    refine h.mono ?_
    rintro e w' ⟨A, c, rfl, ho, _, hb⟩
    exact ⟨A, c, rfl, ho.rg.rd, hb⟩
  have HD : Hid (∀ w', Bs w' w'.heap.size (some ⟨w'.heap.size - 1, 0, none⟩) [64, 1, 1, 2] → Calls Tryz.prog 34 #[.slice (some ⟨w'.heap.size - 1, 0, none⟩) 4 4] w' fun e w2 => ∃ Ap cp Ac cc, e = .returned (.tuple #[.agg #[.int .i64 2, .int .i64 2, .slice Ap 0 cp, .int .u32 0, .int .u32 0, .int .u32 0, .int .u32 0, .int .u32 0, .slice Ac 0 cc], .agg #[.int .i64 0, .int .i64 0, .slice none 0 0]]) ∧ Below w'.heap.size w' w2) := fun w' h => by
    have h := Decode_any (some ⟨w'.heap.size - 1, 0, none⟩) 4 [64, 1, 1, 2] w' (by simp) (fun h => by cases h) h
    rw [dec_atO] at h
    refine h.mono ?_
    rintro e w2 ⟨Ap, cp, Ac, cc, rfl, _, hb⟩
    exact ⟨Ap, cp, Ac, cc, rfl, hb⟩
  go_enter Tryz.func18, Tryz.ntmps18
  go_wp2_with fail
  refine HE.out.mono ?_
  rintro e w1 ⟨A1, c1, rfl, hs1, hb1⟩
  have HS1 := Lib.hid hs1
  have HB1 := Lib.hid hb1
  clear hs1 hb1
  have HDx := Lib.hid (HD.out (w1.alloc (.cells #[.int .u8 64, .int .u8 1, .int .u8 1, .int .u8 2] 5)))
  have hbs := bs_new w1 [64, 1, 1, 2] #[.int .u8 64, .int .u8 1, .int .u8 1, .int .u8 2] (by simp [bv])
  rw [World.size_alloc, Nat.add_sub_cancel] at HDx
  have HDy := Lib.hid (HDx.out hbs)
  have HB2 := Lib.hid (HB1.out.alloc HB1.out.size (.cells #[.int .u8 64, .int .u8 1, .int .u8 1, .int .u8 2] 5))
  clear hbs HDx
  go_wp2_with fail
  refine HDy.out.mono ?_
  rintro e w2 ⟨Ap, cp, Ac, cc, rfl, hb2⟩
  have HB3 := Lib.hid (HB2.out.trans (hb2.mono (by have := HB1.out.size; omega)))
  have hstr : ∀ w', Below w2.heap.size w2 w' → (convert 32 9 (.slice A1 4 c1)).run Tryz.prog w' = .ok (.string ⟨#[64, 1, 1, 0]⟩) w' := fun w' hb' => run_str (l := [64, 1, 1, 0]) (c := c1) (((HS1.out.below (((Below.refl w1.heap.size w1).alloc (Nat.le_refl _) (.cells #[.int .u8 64, .int .u8 1, .int .u8 1, .int .u8 2] 5)).trans (hb2.mono (by simp))) (Nat.le_refl _))).below (hb'.mono (Nat.le_trans (by simp) hb2.size)) (Nat.le_refl _))
  have hst0 := hstr ((w2.alloc (.cells #[.int .i64 2, .int .i64 2, .slice Ap 0 cp, .int .u32 0, .int .u32 0, .int .u32 0, .int .u32 0, .int .u32 0, .slice Ac 0 cc] 26)).alloc (.cells #[.int .i64 0, .int .i64 0, .slice none 0 0] 34)) (((Below.refl _ _).alloc (Nat.le_refl _) _).alloc (by simp) _)
  have HB4 := Lib.hid ((HB3.out.alloc HB3.out.size (.cells #[.int .i64 2, .int .i64 2, .slice Ap 0 cp, .int .u32 0, .int .u32 0, .int .u32 0, .int .u32 0, .int .u32 0, .slice Ac 0 cc] 26)).alloc (Nat.le_trans HB3.out.size (by simp)) (.cells #[.int .i64 0, .int .i64 0, .slice none 0 0] 34))
  clear hb2 hstr HDy
  go_wp2_with fail
  go_ret
  exact ⟨rfl, HB4.out⟩
end Go.Proofs.YtgpmkbpahnbhlaaGreat.attr
