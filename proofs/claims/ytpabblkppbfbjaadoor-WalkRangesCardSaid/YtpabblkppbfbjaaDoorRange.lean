/- What prefix.Make, walk.Range and Ends return. Conditions as each lemma states. -/
import Derived.Test.YtpabblkppbfbjaaDoorTz
import Derived.Test.YtpabblkppbfbjaaDoorShLen64
import Derived.Test.YtpabblkppbfbjaaDoorKeyCommon
import Derived.Test.YtpabblkppbfbjaaDoorWalkLives
import Derived.Test.YtpabblkppbfbjaaDoorRefOf
import Derived.Test.YtpabblkppbfbjaaDoorRefSort
namespace Go.Proofs.YtpabblkppbfbjaaDoor.wlk
open Go.RowKit Go.Proofs.YtpabblkppbfbjaaDoor.kit Go.Proofs.YtpabblkppbfbjaaDoor.pfx Go.Proofs.YtpabblkppbfbjaaDoor.mem Go.Proofs.YtpabblkppbfbjaaDoor.foot Go.Proofs.YtpabblkppbfbjaaDoor.tri Go.Proofs.YtpabblkppbfbjaaDoor.srt
set_option linter.unusedVariables false
set_option linter.unusedSimpArgs false

set_option maxRecDepth 100000 in
theorem Make_any (a n : Nat) (ha : a < 4294967296) (hn : n ≤ 32) (hc : cutv a n = a) (w : World) :
    Calls Tryd.prog 16 #[.int .u32 (a : Int), .int .i64 (n : Int)] w fun e w' => e = .returned (.tuple #[.agg #[.int .u32 (a : Int), .int .i64 (n : Int)], .int .i64 0]) ∧ Below w.heap.size w w' := by
  have HM := Lib.hid (mask_any n hn)
  have hand := and_mask a n ha hn
  rw [hc] at hand
  have HB : Hid (Below w.heap.size w (w.alloc (.cells #[.int .u32 0, .int .i64 0] 24))) := (Below.refl _ _).alloc (Nat.le_refl _) _
  have HK : Hid (Bk (w.alloc (.cells #[.int .u32 0, .int .i64 0] 24)) w.heap.size 24 #[.int .u32 0, .int .i64 0]) := Bk.new w _ _
  have r := fun i => HK.out.cell i
  have rl := HK.out.lt
  have rf := fun i => HK.out.free i
  have h32 : ¬ (32 : Int) < (n : Int) := by omega
  have h0 : ¬ (n : Int) < 0 := by omega
  generalize maskv n = mk at *
  clear hc
  go_enter Tryd.func16, Tryd.ntmps16
  go_wp2_with fail
  refine (HM.out _).mono ?_; rintro e w1 ⟨rfl, rfl⟩
  go_wp2_with fail
  refine bodyPost_ret (res_cv rfl _ _ w.heap.size 24 _ #[.int .u32 (a : Int), .int .i64 (n : Int)] (0, 0) _ rfl rfl (Bk.new w _ _) Tryd.underlying24 rfl info_pf2) rfl ?_
  exact ⟨rfl, (Below.refl _ _).alloc (Nat.le_refl _) _⟩

/-- how a number of addresses is bounded by how many bits it has -/
theorem len_bounds {r : Nat} (h1 : 1 ≤ r) (h2 : r ≤ 4294967296) : 1 ≤ Lib.bitLen r ∧ Lib.bitLen r ≤ 33 ∧ 2 ^ (Lib.bitLen r - 1) ≤ r ∧ r < 2 ^ Lib.bitLen r := by
  obtain ⟨a, b, c⟩ := bitLenAux_spec 64 r (by omega)
  have e : Lib.bitLenAux 64 r = Lib.bitLen r := rfl
  rw [e] at a b c
  have hpos : 1 ≤ Lib.bitLen r := by
    rcases Nat.eq_zero_or_pos (Lib.bitLen r) with h | h
    · rw [h] at b; simp at b; omega
    · exact h
  refine ⟨hpos, ?_, c hpos, b⟩
  rcases Nat.lt_or_ge (Lib.bitLen r) 34 with h | h
  · omega
  · have h3 : 2 ^ 33 ≤ 2 ^ (Lib.bitLen r - 1) := Nat.pow_le_pow_right (by omega) (by omega)
    have := c hpos
    omega
/-- with how many noughts a number ends -/
theorem tz_ex (a : Nat) (ha : a < 4294967296) : ∃ t : Nat, t ≤ 32 ∧ (∀ w, Db w → Calls Tryd.prog 14 #[.int .u32 (a : Int)] w fun e w' => e = .returned (.int .i64 (t : Int)) ∧ w' = w) ∧ ∀ r, 1 ≤ r → r ≤ 4294967296 → IsGj a r (min (min t (Lib.bitLen r - 1)) 32) := by
  by_cases h : a = 0
  · subst h
    refine ⟨32, Nat.le_refl _, fun w _ => tz_zero w, fun r h1 h2 => ?_⟩
    obtain ⟨b1, b2, b3, b4⟩ := len_bounds h1 h2
    exact gj_zero h1 b3 b4 b1
  · obtain ⟨t, m, hm⟩ := odd_part a a (Nat.le_refl _) (by omega)
    refine ⟨t, ?_, fun w hw => ?_, fun r h1 h2 => ?_⟩
    · rcases Nat.lt_or_ge t 33 with h3 | h3
      · omega
      · have h4 : 2 ^ 33 ≤ 2 ^ t := Nat.pow_le_pow_right (by omega) h3
        have h5 : 2 ^ t * 1 ≤ 2 ^ t * (2 * m + 1) := Nat.mul_le_mul_left _ (by omega)
        omega
    · have := tz_any t m (by rw [← hm]; exact ha) w hw
      rw [← hm] at this
      exact this
    · obtain ⟨b1, b2, b3, b4⟩ := len_bounds h1 h2
      exact gj_min hm h1 b3 b4 b1

set_option maxRecDepth 100000 in
set_option maxHeartbeats 4000000 in
theorem Range_any (f l : Nat) (hf : f < 4294967296) (hl : l < 4294967296) (w : World) (hw : Db w) :
    Calls Tryd.prog 9 #[.int .u32 (f : Int), .int .u32 (l : Int)] w (RetF (gr f (l + 1 - f)) w) := by
  obtain ⟨i0, hi0, hz0, hz1, hz2⟩ := info_parts info_pf
  have Hi := Lib.hid hi0
  have Hz0 := Lib.hid hz0
  have Hz1 := Lib.hid hz1
  have Hz2 := Lib.hid hz2
  have HD := Lib.hid hw
  have hgl : (gr f (l + 1 - f)).length ≤ 65 := by
    rcases Nat.lt_or_ge l f with h | h
    · rw [show l + 1 - f = 0 by omega, gr_zero]; simp
    · exact gr_len (by omega)
  obtain ⟨T, hT⟩ : ∃ T, T = gr f (l + 1 - f) := ⟨_, rfl⟩
  rw [← hT] at hgl ⊢
  have HT := Lib.hid hT
  clear hi0 hz0 hz1 hz2 hw hT
  go_enter Tryd.func9, Tryd.ntmps9
  go_wp2_with fail
  go_loopw [5, 6, 7, 8, 9] (fun v5 v6 _ _ _ wr => ∃ (a r m : Nat) (A' : Option Addr) (c' : Nat) (o : List Pf), v6 = .int .u64 (a : Int) ∧ v5 = .slice A' m c' ∧ m = o.length ∧ r = l + 1 - a ∧ a ≤ 4294967296 ∧ T = o ++ gr a r ∧ Acc w 24 2 wr A' m c' (fv o)) (fun _ v6 _ _ _ _ => l + 1 - (intOf v6).toNat)
  case atStart => exact ⟨f, l + 1 - f, 0, none, 0, [], rfl, rfl, rfl, rfl, by omega, HT.out, Own.none_ _ _ _, Below.refl _ _, fun x hx => absurd hx (sf_none x)⟩
  case round =>
    obtain ⟨a, r, m, A1, c1, o, rfl, rfl, hm, hr, ha, hTo, hacc⟩ := hrel
    have HAcc := Lib.hid hacc
    have HO := Lib.hid (And.intro hm hTo)
    have hml : m ≤ 65 := by rw [hm]; rw [hTo, List.length_append] at hgl; omega
    clear hacc hm hTo
    by_cases hal : a ≤ l
    · have ha2 : a < 4294967296 := by omega
      have hr1 : 1 ≤ r := by omega
      have hr2 : r ≤ 4294967296 := by omega
      obtain ⟨t, ht32, htz, hgj⟩ := tz_ex a ha2
      have hj := hgj r hr1 hr2
      obtain ⟨b1, b2, b3, b4⟩ := len_bounds hr1 hr2
      have HTz := Lib.hid htz
      have HLn := Lib.hid (fun (w : World) => Tryd.bits_Len64 (r : Int) w (by omega) (by omega))
      simp only [Int.toNat_natCast] at HLn
      generalize Lib.bitLen r = bl at *
      obtain ⟨j, hjj⟩ : ∃ j, j = min (min t (bl - 1)) 32 := ⟨_, rfl⟩
      rw [← hjj] at hj
      have hj32 := hj.lt
      have hgs := gr_step hr1 hj
      have hcut : cutv a (32 - j) = a := (cutv_eq a (32 - j)).2 (by rw [show 32 - (32 - j) = j by omega]; exact hj.al)
      have HMk := Lib.hid (fun w => Make_any a (32 - j) ha2 (by omega) hcut w)
      have hP1 : 1 ≤ 2 ^ j := Nat.pow_pos (by decide)
      have hPr := hj.le
      have HG := Lib.hid (And.intro hgs (And.intro hP1 hPr))
      have hdw := HD.out.below HAcc.out.bel HD.out.pos
      have HDw := Lib.hid hdw
      have hsub : IntKind.u64.wrap (IntKind.u64.wrap ((l : Int) - (a : Int)) + 1) = (r : Int) := by
        simp only [IntKind.wrap, IntKind.bits, IntKind.signed, Bool.false_and, Bool.false_eq_true, if_false]
        omega
      have hsz : min (min (t : Int) ((bl : Int) - 1)) 32 = (j : Int) := by omega
      have hsz2 : (32 : Int) - (j : Int) = ((32 - j : Nat) : Int) := by omega
      have hr64 : IntKind.u64.wrap (r : Int) = (r : Int) := IntWalk.u64_in _ (by omega)
      have HJJ := Lib.hid hjj
      clear b3 b4 hj hgs hcut hdw htz hgj hjj
      go_wp2_with fail
      refine (HTz.out _ HDw.out).mono ?_; rintro e w3 ⟨rfl, rfl⟩
      go_wp2_with fail
      rw [show (l : Int) - (a : Int) + 1 = (r : Int) by omega]
      refine (HLn.out _).mono ?_; rintro e w4 ⟨rfl, rfl⟩
      go_wp2_with fail
      case' inr => rw [show (t : Int) = (j : Int) by have := HJJ.out; omega]
      case' inl => rw [show (bl : Int) - 1 = (j : Int) by have := HJJ.out; omega]
      all_goals
        rw [hsz2]
        refine (HMk.out _).mono ?_; rintro e w5 ⟨rfl, hb5⟩
        have HA5 := Lib.hid (HAcc.out.go hb5)
        clear hb5
        have hpj : (1 : Int) * 2 ^ j = ((2 ^ j : Nat) : Int) := by push_cast; omega
        obtain ⟨n, hn⟩ : ∃ n : Nat, n = 32 - j := ⟨_, rfl⟩
        rw [← hn]
        have HN := Lib.hid hn
        clear hn hsz hsz2
        have HA6 := Lib.hid (HA5.out.go (((Below.refl _ _).alloc (Nat.le_refl _) (.cells #[.int .u32 (a : Int), .int .i64 (n : Int)] 24)).alloc (by simp) (.cells #[.int .u32 (a : Int), .int .i64 (n : Int)] 24)))
        have HG6 : Hid (Rg ((w5.alloc (.cells #[.int .u32 (a : Int), .int .i64 (n : Int)] 24)).alloc (.cells #[.int .u32 (a : Int), .int .i64 (n : Int)] 24)) (fun k => k = w5.heap.size + 1) 2 (some ⟨w5.heap.size + 1, 0, none⟩) 1 [.int .u32 (a : Int), .int .i64 (n : Int)]) := by
          have h := Bk.new (w5.alloc (.cells #[.int .u32 (a : Int), .int .i64 (n : Int)] 24)) 24 #[.int .u32 (a : Int), .int .i64 (n : Int)]
          rw [World.size_alloc] at h
          exact rg_boxS h
        go_wp2_with (at_builtin; refine wpList_app _ rfl (.tmp 35) (.tmp 37) _ rfl 24 i0 _ 2 16 Tryd.underlying31 Hi.out Hz0.out Hz1.out Hz2.out rfl (by omega) _ _ c1 (fv o) rfl HA6.out.own _ (some ⟨w5.heap.size + 1, 0, none⟩) 1 1 (by intro h; cases h) [.int .u32 (a : Int), .int .i64 (n : Int)] rfl HG6.out (by intro u hu; simp at hu; rcases hu with rfl | rfl <;> rfl) (by unfold maxLen; omega) (by omega) ?_; intro A6 c6 w6 ho6 hc6 hf6; have H6 := Lib.hid (HA6.out.app ho6 hc6 hf6); clear ho6 hc6 hf6)
        go_roundw
        case rel =>
          obtain ⟨hgs, hP1, hPr⟩ := HG.out
          have h6 := H6.out
          rw [show [Value.int .u32 (a : Int), .int .i64 (n : Int)] = fv [(a, (n : Int))] from rfl, ← fv_app] at h6
          exact ⟨a + 2 ^ j, r - 2 ^ j, m + 1, A6, c6, o ++ [(a, (n : Int))], by congr 1, rfl, by rw [HO.out.1]; simp, by omega, by omega, by rw [HO.out.2, hgs, HN.out]; simp, h6⟩
        case measure =>
          obtain ⟨hgs, hP1, hPr⟩ := HG.out
          have e : (a : Int) + 2 ^ j = ((a + 2 ^ j : Nat) : Int) := by push_cast; rfl
          rw [e]
          simp only [intOf, Int.toNat_natCast]
          omega
    · have hO := HO.out
      rw [show r = 0 by omega, gr_zero, List.append_nil] at hO
      have HO2 := Lib.hid hO
      clear hO HO
      go_wp2_with fail
      go_ret
      obtain ⟨rfl, rfl⟩ := HO2.out
      exact ⟨A1, c1, rfl, HAcc.out.own, HAcc.out.low, HAcc.out.bel⟩

theorem Ends_bad (a : Nat) (n : Int) (ha : a < 4294967296) (hg : goodB a n = false) (w : World) : Calls Tryd.prog 4 #[.agg #[.int .u32 (a : Int), .int .i64 n]] w fun e w' => e = .returned (.tuple #[.int .u32 0, .int .u32 0, .bool false]) ∧ Below w.heap.size w w' := by
  have HG := good_any a n ha
  rw [hg] at HG
  have HGd := Lib.hid HG
  have HB : Hid (Below w.heap.size w (w.alloc (.cells #[.int .u32 (a : Int), .int .i64 n] 24))) := (Below.refl _ _).alloc (Nat.le_refl _) _
  clear HG hg ha
  go_enter Tryd.func4, Tryd.ntmps4
  go_wp2_with fail
  refine (HGd.out _).mono ?_; rintro e w1 ⟨rfl, hb⟩
  have HB1 := Lib.hid (HB.out.trans (hb.mono (by simp)))
  clear hb
  go_wp2_with fail
  go_ret3
  exact ⟨rfl, HB1.out⟩
theorem Mask_any (n : Nat) (hn : n ≤ 32) (w : World) : Calls Tryd.prog 12 #[.int .i64 n] w fun e w' => e = .returned (.int .u32 (maskv n : Int)) ∧ w = w' := by
  have HM := Lib.hid (mask_any n hn)
  go_enter Tryd.func12, Tryd.ntmps12
  go_wp2_with fail
  refine (HM.out _).mono ?_; rintro e w1 ⟨rfl, rfl⟩
  go_wp2_with fail
  go_ret
  exact ⟨rfl, rfl⟩
theorem not_nat (x : Nat) (h : x < 4294967296) : 4294967295 ^^^ x = 4294967295 - x := by
  apply Nat.eq_of_testBit_eq
  intro i
  have e : 4294967295 - x = 2 ^ 32 - (x + 1) := by omega
  rw [e, Nat.testBit_two_pow_sub_succ (by omega), Nat.testBit_xor, show (4294967295 : Nat) = 2 ^ 32 - 1 from rfl, Nat.testBit_two_pow_sub_one]
  by_cases hi : i < 32
  · simp [hi]
  · have : x.testBit i = false := Nat.testBit_lt_two_pow (Nat.lt_of_lt_of_le h (show 2 ^ 32 ≤ 2 ^ i from Nat.pow_le_pow_right (by omega) (by omega)))
    simp [hi, this]
theorem ends_or {k : Key} (hk : k.length ≤ 32) : adr k ||| (4294967295 - maskv k.length) = adr k + 2 ^ (32 - k.length) - 1 := by
  have hp := Nat.pow_pos (n := 32 - k.length) (show 0 < 2 by decide)
  have hle : 2 ^ (32 - k.length) ≤ 4294967296 := Nat.le_trans (Nat.pow_le_pow_right (by omega) (show 32 - k.length ≤ 32 by omega)) (by decide)
  have e : 4294967295 - maskv k.length = 2 ^ (32 - k.length) - 1 := by unfold maskv; omega
  rw [e]
  have h1 := Nat.two_pow_add_eq_or_of_lt (b := 2 ^ (32 - k.length) - 1) (i := 32 - k.length) (by omega) (num k)
  have e2 : adr k = 2 ^ (32 - k.length) * num k := by unfold adr; rw [Nat.mul_comm]
  rw [e2, ← h1]
  omega
set_option maxRecDepth 100000 in
theorem Ends_ok (k : Key) (hk : k.length ≤ 32) (w : World) : Calls Tryd.prog 4 #[.agg #[.int .u32 (adr k : Int), .int .i64 (k.length : Int)]] w fun e w' => e = .returned (.tuple #[.int .u32 ((endsP (kp k)).1 : Int), .int .u32 ((endsP (kp k)).2 : Int), .bool true]) ∧ Below w.heap.size w w' := by
  have HG := good_any (adr k) k.length (adr_lt hk)
  rw [good_adr hk] at HG
  have HGd := Lib.hid HG
  have ha := adr_lt hk
  have hor := ends_or hk
  have hml := maskv_le k.length
  have HM := Lib.hid (fun w => Mask_any k.length hk w)
  have HB : Hid (Below w.heap.size w (w.alloc (.cells #[.int .u32 (adr k : Int), .int .i64 (k.length : Int)] 24))) := (Below.refl _ _).alloc (Nat.le_refl _) _
  have HK : Hid (Bk (w.alloc (.cells #[.int .u32 (adr k : Int), .int .i64 (k.length : Int)] 24)) w.heap.size 24 #[.int .u32 (adr k : Int), .int .i64 (k.length : Int)]) := Bk.new w _ _
  have hE : endsP (kp k) = (adr k, adr k + 2 ^ (32 - k.length) - 1) := by simp [endsP, kp]
  rw [hE, ← hor]
  have hnot : bits .xor .u32 (if IntKind.u32.signed = true then -1 else IntKind.u32.max) (maskv k.length : Int) = ((4294967295 - maskv k.length : Nat) : Int) := by
    rw [show (if IntKind.u32.signed = true then (-1 : Int) else IntKind.u32.max) = ((4294967295 : Nat) : Int) from by decide, u32_xor_nat _ _ (by omega) (by omega), not_nat _ (by omega)]
  have hbor : bits .or .u32 (adr k : Int) ((4294967295 - maskv k.length : Nat) : Int) = ((adr k ||| (4294967295 - maskv k.length) : Nat) : Int) := u32_or_nat _ _ ha (by omega)
  clear hor hE HG hk
  generalize maskv k.length = mk at *
  generalize adr k = a at *
  generalize k.length = n at *
  go_enter Tryd.func4, Tryd.ntmps4
  go_wp2_with fail
  refine (HGd.out _).mono ?_; rintro e w1 ⟨rfl, hb⟩
  have HB1 := Lib.hid (HB.out.trans (hb.mono (by simp)))
  have hk1 := HK.out.below hb HK.out.lt
  have q0 := hk1.cell 0
  have q1 := hk1.cell 1
  have hgl := hk1.lt
  simp at q0 q1
  clear hb hk1 HB HK HGd
  go_wp2_with fail
  go_region_held3 (fun w' => w'.cell? ⟨w.heap.size, 0, none⟩ = some (.int .u32 (a : Int)) ∧ w'.cell? ⟨w.heap.size, 1, none⟩ = some (.int .i64 (n : Int))) (first | exact ⟨by go_simp, by go_simp⟩) (first
    | (go_at_call 12; refine (HM.out _).mono ?_; rintro e w3 ⟨rfl, rfl⟩))
  all_goals
    go_wp2_with fail
    go_ret3
    exact ⟨rfl, HB1.out.drew⟩
end Go.Proofs.YtpabblkppbfbjaaDoor.wlk
