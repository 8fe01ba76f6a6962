/- What prefix.Cmp returns of good prefixes, and that it only lays blocks and draws. Conditions as each lemma states. -/
import Derived.Test.YtbljhjfaimnieaaGreatPfxFns
import Derived.Test.YtbljhjfaimnieaaGreatSortMath
import Derived.Test.YtbljhjfaimnieaaGreatGround
import Derived.Sort.Grow
import Derived.Deep.RegionHeld3
namespace Go.Proofs.YtbljhjfaimnieaaGreat.srt
open Go.RowKit Go.Proofs.YtbljhjfaimnieaaGreat.kit Go.Proofs.YtbljhjfaimnieaaGreat.pfx Go.Proofs.YtbljhjfaimnieaaGreat.mem Go.Proofs.YtbljhjfaimnieaaGreat.foot
set_option linter.unusedVariables false
set_option linter.unusedSimpArgs false

/-- blocks laid and draws made, and no more -/
def Grown (w w' : World) : Prop := ∃ q os, w' = Sort.grow (w.drewN q) os
section
variable {w w1 w2 : World}
theorem Grown.refl (w : World) : Grown w w := ⟨0, #[], by simp [Sort.grow, World.drewN]⟩
theorem Grown.trans (h : Grown w w1) (k : Grown w1 w2) : Grown w w2 := by
  obtain ⟨q, os, rfl⟩ := h
  obtain ⟨q2, os2, rfl⟩ := k
  refine ⟨q + q2, os ++ os2, ?_⟩
  simp [Sort.grow, World.drewN, Nat.add_assoc, Array.append_assoc]
theorem Grown.drewN (h : Grown w w1) (n : Nat) : Grown w (w1.drewN n) := h.trans ⟨n, #[], by simp [Sort.grow, World.drewN]⟩
theorem Grown.drew (h : Grown w w1) : Grown w w1.drew := h.drewN 1
theorem Grown.alloc (h : Grown w w1) (o : Obj) : Grown w (w1.alloc o) := h.trans ⟨0, #[o], by rw [Sort.alloc_eq_grow]; rfl⟩
theorem Grown.below (h : Grown w w1) : Below w.heap.size w w1 := by
  obtain ⟨q, os, rfl⟩ := h
  refine ⟨rfl, rfl, rfl, by simp [Sort.grow, World.drewN], fun k hk => ?_⟩
  simp only [Sort.grow, World.drewN]
  rw [Array.getElem?_append_left hk]
end

theorem good_gr (a : Nat) (n : Int) (ha : a < 4294967296) (w : World) : Calls Tryz.prog 84 #[.agg #[.int .u32 a, .int .i64 n]] w fun e w' => e = .returned (.bool (goodB a n)) ∧ Grown w w' := by
  by_cases h1 : 0 ≤ n
  · by_cases h2 : n ≤ 32
    · obtain ⟨k, rfl⟩ := Int.eq_ofNat_of_zero_le h1
      have Hg : Hid (goodB a (k : Int) = (((a % 2 ^ (32 - k) : Nat) : Int) == 0)) := by
        rw [Hid, Bool.eq_iff_iff, goodB_iff, Int.toNat_natCast]
        generalize a % 2 ^ (32 - k) = r
        rw [beq_iff_eq]; omega
      have hand := andNot_mask a k ha
      generalize a % 2 ^ (32 - k) = r at *
      have d1 : decide ((0 : Int) ≤ (k : Int)) = true := by simp
      have d2 : decide ((k : Int) ≤ 32) = true := by simpa using h2
      have Hm := Lib.hid (mask_any k (by omega))
      generalize maskv k = m at *
      go_enter Tryz.func84, Tryz.ntmps84
      go_wp2_with fail
      go_quiet ((go_at_call 106; exact quiet_eq (Hm.out _)))
      go_wp2
      go_ret
      exact ⟨by rw [Hg.out]; rfl, ((Grown.refl _).alloc _).drewN _⟩
    · have d1 : decide (0 ≤ n) = true := by simpa using h1
      have d2 : decide (n ≤ 32) = false := by simpa using h2
      have Hg : Hid (goodB a n = false) := by rw [Hid]; rw [Bool.eq_false_iff, Ne, goodB_iff]; omega
      go_enter Tryz.func84, Tryz.ntmps84
      go_wp2_with fail
      go_quiet (fail)
      go_wp2
      go_ret
      exact ⟨by rw [Hg.out]; rfl, ((Grown.refl _).alloc _).drewN _⟩
  · have d1 : decide (0 ≤ n) = false := by simpa using h1
    have Hg : Hid (goodB a n = false) := by rw [Hid]; rw [Bool.eq_false_iff, Ne, goodB_iff]; omega
    go_enter Tryz.func84, Tryz.ntmps84
    go_wp2_with fail
    go_quiet (fail)
    go_wp2
    go_ret
    exact ⟨by rw [Hg.out]; rfl, ((Grown.refl _).alloc _).drewN _⟩
theorem isNaN_u32 (a : Int) (w : World) : Calls Tryz.prog 117 #[.int .u32 a] w fun e w' => e = .returned (.bool false) ∧ w' = w := by
  go_enter Tryz.func117, Tryz.ntmps117
  go_wp2
  go_ret
  exact ⟨by simp, rfl⟩
theorem isNaN_int (a : Int) (w : World) : Calls Tryz.prog 118 #[.int .i64 a] w fun e w' => e = .returned (.bool false) ∧ w' = w := by
  go_enter Tryz.func118, Tryz.ntmps118
  go_wp2
  go_ret
  exact ⟨by simp, rfl⟩
def icmp (a b : Int) : Int := if a < b then -1 else if b < a then 1 else 0
theorem Compare_u32 (a b : Int) (w : World) : Calls Tryz.prog 91 #[.int .u32 a, .int .u32 b] w fun e w' => e = .returned (.int .i64 (icmp a b)) ∧ w' = w := by
  have Ha := Lib.hid (isNaN_u32 a)
  have Hb := Lib.hid (isNaN_u32 b)
  unfold icmp
  by_cases h1 : a < b
  · rw [if_pos h1]
    have e1 : decide (a < b) = true := by simpa using h1
    go_enter Tryz.func91, Tryz.ntmps91
    go_wp2_with fail
    refine (Ha.out _).mono ?_; rintro e w1 ⟨rfl, hw⟩; subst hw
    go_wp2_with fail
    refine (Hb.out _).mono ?_; rintro e w1 ⟨rfl, hw⟩; subst hw
    go_wp2_with fail
    go_ret
    exact ⟨rfl, rfl⟩
  · rw [if_neg h1]
    have e1 : decide (a < b) = false := by simpa using h1
    by_cases h2 : b < a
    · rw [if_pos h2]
      have e2 : decide (b < a) = true := by simpa using h2
      go_enter Tryz.func91, Tryz.ntmps91
      go_wp2_with fail
      refine (Ha.out _).mono ?_; rintro e w1 ⟨rfl, hw⟩; subst hw
      go_wp2_with fail
      refine (Hb.out _).mono ?_; rintro e w1 ⟨rfl, hw⟩; subst hw
      go_wp2_with fail
      go_ret
      exact ⟨rfl, rfl⟩
    · rw [if_neg h2]
      have e2 : decide (b < a) = false := by simpa using h2
      go_enter Tryz.func91, Tryz.ntmps91
      go_wp2_with fail
      refine (Ha.out _).mono ?_; rintro e w1 ⟨rfl, hw⟩; subst hw
      go_wp2_with fail
      refine (Hb.out _).mono ?_; rintro e w1 ⟨rfl, hw⟩; subst hw
      go_wp2_with fail
      go_ret
      exact ⟨rfl, rfl⟩
theorem Compare_int (a b : Int) (w : World) : Calls Tryz.prog 92 #[.int .i64 a, .int .i64 b] w fun e w' => e = .returned (.int .i64 (icmp a b)) ∧ w' = w := by
  have Ha := Lib.hid (isNaN_int a)
  have Hb := Lib.hid (isNaN_int b)
  unfold icmp
  by_cases h1 : a < b
  · rw [if_pos h1]
    have e1 : decide (a < b) = true := by simpa using h1
    go_enter Tryz.func92, Tryz.ntmps92
    go_wp2_with fail
    refine (Ha.out _).mono ?_; rintro e w1 ⟨rfl, hw⟩; subst hw
    go_wp2_with fail
    refine (Hb.out _).mono ?_; rintro e w1 ⟨rfl, hw⟩; subst hw
    go_wp2_with fail
    go_ret
    exact ⟨rfl, rfl⟩
  · rw [if_neg h1]
    have e1 : decide (a < b) = false := by simpa using h1
    by_cases h2 : b < a
    · rw [if_pos h2]
      have e2 : decide (b < a) = true := by simpa using h2
      go_enter Tryz.func92, Tryz.ntmps92
      go_wp2_with fail
      refine (Ha.out _).mono ?_; rintro e w1 ⟨rfl, hw⟩; subst hw
      go_wp2_with fail
      refine (Hb.out _).mono ?_; rintro e w1 ⟨rfl, hw⟩; subst hw
      go_wp2_with fail
      go_ret
      exact ⟨rfl, rfl⟩
    · rw [if_neg h2]
      have e2 : decide (b < a) = false := by simpa using h2
      go_enter Tryz.func92, Tryz.ntmps92
      go_wp2_with fail
      refine (Ha.out _).mono ?_; rintro e w1 ⟨rfl, hw⟩; subst hw
      go_wp2_with fail
      refine (Hb.out _).mono ?_; rintro e w1 ⟨rfl, hw⟩; subst hw
      go_wp2_with fail
      go_ret
      exact ⟨rfl, rfl⟩

theorem Or2_in (b : Nat) (x y z : Int) (w : World) (hz0 : x = 0 → z = y) (hz1 : x ≠ 0 → z = x) (h0 : w.cell? ⟨b, 0, none⟩ = some (.int .i64 x)) (h1 : w.cell? ⟨b, 1, none⟩ = some (.int .i64 y)) :
    Calls Tryz.prog 90 #[.slice (some ⟨b, 0, none⟩) 2 2] w fun e w' => e = .returned (.int .i64 z) ∧ w' = w := by
  go_enter Tryz.func90, Tryz.ntmps90
  go_wp2_with fail
  go_loopw [5, 8] (fun _ v8 wr => ∃ k : Nat, k ≤ 2 ∧ v8 = .int .i64 k ∧ (0 < k → x = 0) ∧ (1 < k → y = 0) ∧ wr = w) (fun _ v8 _ => 2 - (intOf v8).toNat)
  case atStart => exact ⟨0, by omega, rfl, by omega, by omega, rfl⟩
  case round =>
    obtain ⟨k, hk, rfl, hx, hy, rfl⟩ := hrel
    rcases (show k = 0 ∨ k = 1 ∨ k = 2 from by omega) with rfl | rfl | rfl
    · by_cases hx0 : x = 0
      · subst hx0
        clear hz0 hz1
        go_wp2_with fail
        go_roundw
        case rel => exact ⟨1, by omega, rfl, by simp, by simp, by simp⟩
        case measure => simp [intOf]
      · have e1 : (x == 0) = false := by rw [beq_eq_false_iff_ne]; exact hx0
        have HZ := Lib.hid (hz1 hx0)
        clear hx hy hx0 hz0 hz1
        go_wp2_with fail
        go_ret
        exact ⟨by rw [HZ.out]; rfl, rfl⟩
    · have hx0 := hx (by omega)
      subst hx0
      have HZ := Lib.hid (hz0 rfl)
      clear hz0 hz1
      by_cases hy0 : y = 0
      · subst hy0
        go_wp2_with fail
        go_roundw
        case rel => exact ⟨2, by omega, rfl, by simp, by simp, by simp⟩
        case measure => simp [intOf]
      · have e1 : (y == 0) = false := by rw [beq_eq_false_iff_ne]; exact hy0
        clear hx hy hy0
        go_wp2_with fail
        go_ret
        exact ⟨by rw [HZ.out]; rfl, rfl⟩
    · have hx0 := hx (by omega)
      have hy0 := hy (by omega)
      subst hx0
      subst hy0
      have HZ := Lib.hid (hz0 rfl)
      clear hz0 hz1
      go_wp2_with fail
      go_ret
      exact ⟨by rw [HZ.out]; rfl, rfl⟩

theorem Or2_any (b : Nat) (x y : Int) (w : World) (h0 : w.cell? ⟨b, 0, none⟩ = some (.int .i64 x)) (h1 : w.cell? ⟨b, 1, none⟩ = some (.int .i64 y)) :
    Calls Tryz.prog 90 #[.slice (some ⟨b, 0, none⟩) 2 2] w fun e w' => e = .returned (.int .i64 (if x = 0 then y else x)) ∧ w' = w :=
  Or2_in b x y _ w (fun h => if_pos h) (fun h => if_neg h) h0 h1

theorem pcmp_or (x y : Pf) : (if icmp (x.1 : Int) (y.1 : Int) = 0 then icmp x.2 y.2 else icmp (x.1 : Int) (y.1 : Int)) = pcmp x y := by
  unfold icmp pcmp
  by_cases h1 : x.1 < y.1
  · have h1' : (x.1 : Int) < (y.1 : Int) := by omega
    simp [h1, h1']
  · have h1' : ¬ (x.1 : Int) < (y.1 : Int) := by omega
    by_cases h2 : y.1 < x.1
    · have h2' : (y.1 : Int) < (x.1 : Int) := by omega
      simp [h1, h1', h2, h2']
    · have h2' : ¬ (y.1 : Int) < (x.1 : Int) := by omega
      simp [h1, h1', h2, h2']

/-- two good ones compared -/
theorem Cmp_gr (x y : Pf) (hx : x.1 < 4294967296) (hy : y.1 < 4294967296) (gx : goodB x.1 x.2 = true) (gy : goodB y.1 y.2 = true) (w : World) :
    Calls Tryz.prog 68 #[.agg #[.int .u32 (x.1 : Int), .int .i64 x.2], .agg #[.int .u32 (y.1 : Int), .int .i64 y.2]] w fun e w' => e = .returned (.int .i64 (pcmp x y)) ∧ Grown w w' := by
  rw [← pcmp_or]
  obtain ⟨a, n⟩ := x
  obtain ⟨b, m⟩ := y
  dsimp only at hx hy gx gy ⊢
  have Hg1 := good_gr a n hx
  have Hg2 := good_gr b m hy
  rw [gx] at Hg1
  rw [gy] at Hg2
  have HG1 := Lib.hid Hg1
  have HG2 := Lib.hid Hg2
  have HC1 := Lib.hid (Compare_u32 (a : Int) (b : Int))
  have HC2 := Lib.hid (Compare_int n m)
  generalize icmp (a : Int) (b : Int) = c1 at *
  generalize icmp n m = c2 at *
  have hor : ∀ (b : Nat) (w : World), w.cell? ⟨b, 0, none⟩ = some (.int .i64 c1) → w.cell? ⟨b, 1, none⟩ = some (.int .i64 c2) → Calls Tryz.prog 90 #[.slice (some ⟨b, 0, none⟩) 2 2] w fun e w' => e = .returned (.int .i64 (if c1 = 0 then c2 else c1)) ∧ w' = w := fun b w h0 h1 => Or2_any b c1 c2 w h0 h1
  generalize (if c1 = 0 then c2 else c1) = z at hor ⊢
  have HOr := Lib.hid hor
  clear hor
  have hb1 : Bk ((w.alloc (.cells #[.int .u32 (a : Int), .int .i64 n] 56)).alloc (.cells #[.int .u32 (b : Int), .int .i64 m] 56)) w.heap.size 56 #[.int .u32 (a : Int), .int .i64 n] := (Bk.new w _ _).below ((Below.refl _ _).alloc (Nat.le_refl _) _) (by simp)
  have hb2 : Bk ((w.alloc (.cells #[.int .u32 (a : Int), .int .i64 n] 56)).alloc (.cells #[.int .u32 (b : Int), .int .i64 m] 56)) (w.heap.size + 1) 56 #[.int .u32 (b : Int), .int .i64 m] := by
    have h := Bk.new (w.alloc (.cells #[.int .u32 (a : Int), .int .i64 n] 56)) 56 #[.int .u32 (b : Int), .int .i64 m]
    simpa using h
  have HW0 : Hid (Grown w ((w.alloc (.cells #[.int .u32 (a : Int), .int .i64 n] 56)).alloc (.cells #[.int .u32 (b : Int), .int .i64 m] 56))) := ((Grown.refl _).alloc _).alloc _
  have HK := Lib.hid (And.intro hb1 hb2)
  clear Hg1 Hg2 gx gy hx hy hb1 hb2
  go_enter Tryz.func68, Tryz.ntmps68
  go_wp2_with fail
  refine (HG1.out _).mono ?_; rintro e w1 ⟨rfl, hw1⟩
  have HW1 := Lib.hid (HW0.out.trans hw1)
  have hk1 := And.intro (HK.out.1.below hw1.below HK.out.1.lt) (HK.out.2.below hw1.below HK.out.2.lt)
  have HK1 := Lib.hid hk1
  have kb := fun i => hk1.2.cell i
  have kl := hk1.2.lt
  clear hw1 HW0 HK hk1
  go_wp2_with fail
  refine (HG2.out _).mono ?_; rintro e w2 ⟨rfl, hw2⟩
  have HW2 := Lib.hid (HW1.out.trans hw2)
  have hk2 := And.intro (HK1.out.1.below hw2.below HK1.out.1.lt) (HK1.out.2.below hw2.below HK1.out.2.lt)
  clear kb kl
  have ka := fun i => hk2.1.cell i
  have kb := fun i => hk2.2.cell i
  have kl := hk2.2.lt
  have kl1 := hk2.1.lt
  clear hw2 HW1 HK1 hk2
  go_wp2_with fail
  go_region_held3 (fun w' => w'.cell? ⟨w.heap.size, 0, none⟩ = some (.int .u32 (a : Int)) ∧ w'.cell? ⟨w.heap.size, 1, none⟩ = some (.int .i64 n) ∧ w'.cell? ⟨w.heap.size + 1, 0, none⟩ = some (.int .u32 (b : Int)) ∧ w'.cell? ⟨w.heap.size + 1, 1, none⟩ = some (.int .i64 m)) (exact ⟨by go_simp, by go_simp, by go_simp, by go_simp⟩) (first
    | (go_at_call 91; refine (HC1.out _).mono ?_; rintro e w9 ⟨rfl, hw9⟩; subst hw9)
    | (go_at_call 92; refine (HC2.out _).mono ?_; rintro e w9 ⟨rfl, hw9⟩; subst hw9)
    | (go_at_call 90; refine (HOr.out _ _ (by go_simp) (by go_simp)).mono ?_; rintro e w9 ⟨rfl, hw9⟩; subst hw9))
  all_goals
    go_wp2_with fail
    go_ret
    exact ⟨rfl, (HW2.out.drew).alloc _⟩
end Go.Proofs.YtbljhjfaimnieaaGreat.srt
