/- What plane.span, plane.Box and confluenceref42.Box return, and within which bounds points lie. No condition beyond those that each lemma states. -/
import Derived.Test.YtpggdofleehmdaaPlaneFns4
import Derived.Test.YtpggdofleehmdaaPfxFns
import Derived.Test.YtpggdofleehmdaaPfxRef
namespace Go.Proofs.Ytpggdofleehmdaa.plane
open Go.RowKit Go.Proofs.Ytpggdofleehmdaa.flt Go.Proofs.Ytpggdofleehmdaa.kit Go.Proofs.Ytpggdofleehmdaa.pfx
set_option linter.unusedVariables false

def mn (x : Int) : Int := if 0 < x then 0 else x
def mx (x : Int) : Int := if x < 0 then 0 else x
def lo : Nat → Int × Int
  | 0 => (0, 0)
  | k + 1 => ((lo k).1 + mn (pw k).1, (lo k).2 + mn (pw k).2)
def hi : Nat → Int × Int
  | 0 => (0, 0)
  | k + 1 => ((hi k).1 + mx (pw k).1, (hi k).2 + mx (pw k).2)

theorem mn_neg {x : Int} (h : x < 0) : mn x = x := by unfold mn; rw [if_neg (by omega)]
theorem mn_pos {x : Int} (h : 0 ≤ x) : mn x = 0 := by unfold mn; split <;> omega
theorem mx_neg {x : Int} (h : x < 0) : mx x = 0 := by unfold mx; rw [if_pos h]
theorem mx_pos {x : Int} (h : 0 ≤ x) : mx x = x := by unfold mx; rw [if_neg (by omega)]
theorem bit_span (b : Nat) (hb : b < 2) (n : Int) : mn n ≤ (b : Int) * n ∧ (b : Int) * n ≤ mx n := by
  have : b = 0 ∨ b = 1 := by omega
  unfold mn mx
  rcases this with rfl | rfl <;> (split <;> split <;> simp <;> omega)

theorem pt_span (k a : Nat) : (lo k).1 ≤ (pt k a).1 ∧ (pt k a).1 ≤ (hi k).1 ∧ (lo k).2 ≤ (pt k a).2 ∧ (pt k a).2 ≤ (hi k).2 := by
  induction k with
  | zero => rw [pt]; simp [lo, hi]
  | succ k ih =>
    have h1 := bit_span (a / 2 ^ k % 2) (Nat.mod_lt _ (by omega)) (pw k).1
    have h2 := bit_span (a / 2 ^ k % 2) (Nat.mod_lt _ (by omega)) (pw k).2
    rw [pt_snoc]
    simp only [lo, hi]
    generalize ((a / 2 ^ k % 2 : Nat) : Int) * (pw k).1 = u at *
    generalize ((a / 2 ^ k % 2 : Nat) : Int) * (pw k).2 = v at *
    omega

theorem span_small (k : Nat) (h : k ≤ 32) : -200000 ≤ (lo k).1 ∧ (lo k).1 ≤ 0 ∧ -200000 ≤ (lo k).2 ∧ (lo k).2 ≤ 0 ∧ 0 ≤ (hi k).1 ∧ (hi k).1 ≤ 200000 ∧ 0 ≤ (hi k).2 ∧ (hi k).2 ≤ 200000 := by
  have h0 : ∀ k : Fin 33, -200000 ≤ (lo k.1).1 ∧ (lo k.1).1 ≤ 0 ∧ -200000 ≤ (lo k.1).2 ∧ (lo k.1).2 ≤ 0 ∧ 0 ≤ (hi k.1).1 ∧ (hi k.1).1 ≤ 200000 ∧ 0 ≤ (hi k.1).2 ∧ (hi k.1).2 ≤ 200000 := by decide +kernel
  exact h0 ⟨k, by omega⟩

attribute [irreducible] lo hi

/-- an address's point is that of its first bits, and that of the rest -/
theorem pt_split (c k : Nat) (a : Nat) (hc : c = a / 2 ^ k * 2 ^ k) : ∀ n, k ≤ n → pt n a = ((pt n c).1 + (pt k a).1, (pt n c).2 + (pt k a).2) := by
  intro n hn
  induction n with
  | zero =>
    have : k = 0 := by omega
    subst this
    simp only [pt, Int.add_zero]
  | succ n ih =>
    by_cases e : k = n + 1
    · have hz : pt (n + 1) c = (0, 0) := by
        rw [← pt_mod (n + 1) c, hc, e, Nat.mul_mod_left, pt_zero]
      rw [hz, e]; simp
    · have hi := ih (by omega)
      have hb : c / 2 ^ n % 2 = a / 2 ^ n % 2 := by
        rw [hc, show n = k + (n - k) from by omega, Nat.pow_add, ← Nat.div_div_eq_div_mul, Nat.mul_div_cancel _ (Nat.two_pow_pos k), ← Nat.div_div_eq_div_mul]
      rw [pt_snoc n a, pt_snoc n c, hb, hi]
      apply Prod.ext <;> dsimp only <;> omega

theorem span_any (n : Nat) (hn : n ≤ 32) (w : World) :
    Calls Try.prog 61 #[.int .i64 n] w fun e w' => e = .returned (.tuple #[.agg #[.int .i64 (lo n).1, .int .i64 (lo n).2], .agg #[.int .i64 (hi n).1, .int .i64 (hi n).2]]) ∧ Below w.heap.size w w' := by
  go_enter Try.func61, Try.ntmps61
  go_wp2_with fail
  go_loopw [4, 5, 6, 8] (fun z _ _ i wr => ∃ k : Nat, k ≤ n ∧ i = .int .i64 k ∧ Stands (pw k) z ∧ wr = (w.alloc (.cells #[.int .i64 (lo k).1, .int .i64 (lo k).2] 36)).alloc (.cells #[.int .i64 (hi k).1, .int .i64 (hi k).2] 36)) (fun _ _ _ i _ => n - (intOf i).toNat)
  case atStart => exact ⟨0, by omega, rfl, ⟨_, _, rfl, isF_pw0.1, isF_pw0.2⟩, by rw [lo, hi]⟩
  case round =>
    obtain ⟨k, hk, rfl, ⟨x, y, rfl, hx, hy⟩, rfl⟩ := hrel
    have hs := pw_small k (by omega)
    have hss := span_small k (by omega)
    by_cases hlt : k < n
    · obtain ⟨re, im, hm, hre, him⟩ := power_round k (by omega) hx hy
      have m1 := fun w => run_complex_mul (P := Try.prog) w 84 x y _ _ re im hm
      have Hs : Hid (Stands (pw (k + 1)) (.complex .f64 re im)) := ⟨_, _, rfl, hre, him⟩
      have Hc := Lib.hid (parts_any x y _ _ hx hy ⟨by omega, by omega⟩ ⟨by omega, by omega⟩)
      have Hl : Hid (lo (k + 1) = ((lo k).1 + mn (pw k).1, (lo k).2 + mn (pw k).2)) := by rw [Hid, lo]
      have Hh : Hid (hi (k + 1) = ((hi k).1 + mx (pw k).1, (hi k).2 + mx (pw k).2)) := by rw [Hid, hi]
      clear hm hre him hx hy
      generalize (pw k).1 = p1 at *
      generalize (pw k).2 = p2 at *
      generalize (lo k).1 = l1 at *
      generalize (lo k).2 = l2 at *
      generalize (hi k).1 = h1 at *
      generalize (hi k).2 = h2 at *
      by_cases c1 : p1 < 0
      · by_cases c2 : p2 < 0
        · go_wp2_with (go_at_call 52; refine (Hc.out _).mono ?_; rintro e w' ⟨rfl, rfl⟩)
          go_roundw
          case rel => exact ⟨k + 1, by omega, by go_num, Hs.out, by rw [Hl.out, Hh.out, mn_neg c1, mx_neg c1, mn_neg c2, mx_neg c2]; simp⟩
          case measure => simp [intOf]; omega
        · go_wp2_with (go_at_call 52; refine (Hc.out _).mono ?_; rintro e w' ⟨rfl, rfl⟩)
          go_roundw
          case rel => exact ⟨k + 1, by omega, by go_num, Hs.out, by rw [Hl.out, Hh.out, mn_neg c1, mx_neg c1, mx_pos c2]; simp [mn]⟩
          case measure => simp [intOf]; omega
      · by_cases c2 : p2 < 0
        · go_wp2_with (go_at_call 52; refine (Hc.out _).mono ?_; rintro e w' ⟨rfl, rfl⟩)
          go_roundw
          case rel => exact ⟨k + 1, by omega, by go_num, Hs.out, by rw [Hl.out, Hh.out, mx_pos c1, mn_neg c2, mx_neg c2]; simp [mn, show ¬ 0 < p2 from by omega]⟩
          case measure => simp [intOf]; omega
        · go_wp2_with (go_at_call 52; refine (Hc.out _).mono ?_; rintro e w' ⟨rfl, rfl⟩)
          go_roundw
          case rel => exact ⟨k + 1, by omega, by go_num, Hs.out, by rw [Hl.out, Hh.out, mx_pos c1, mx_pos c2]; simp [mn]⟩
          case measure => simp [intOf]; omega
    · obtain rfl : k = n := by omega
      go_wp2_with fail
      go_region
      all_goals go_wp2
      refine bodyPost_ret (v := .tuple #[.agg #[.int .i64 (lo k).1, .int .i64 (lo k).2], .agg #[.int .i64 (hi k).1, .int .i64 (hi k).2]]) (by simp [results, Try.results61, go_sem]) rfl ⟨rfl, ?_⟩
      exact (Go.Joins.below_alloc2 w _ _).drew

theorem box_bad (a : Nat) (n : Int) (ha : a < 4294967296) (hg : goodB a n = false) (w : World) :
    Calls Try.prog 35 #[.agg #[.int .u32 a, .int .i64 n]] w fun e w' => e = .returned (.tuple #[.int .i64 0, .int .i64 0, .int .i64 0, .int .i64 0, .bool false]) ∧ Below w.heap.size w w' := by
  have HG := Lib.hid (good_any a n ha)
  rw [hg] at HG
  clear hg
  go_enter Try.func35, Try.ntmps35
  go_wp2_with fail
  refine (HG.out _).mono ?_; rintro e w1 ⟨rfl, hb1⟩
  have Hb1 := Lib.hid hb1
  clear hb1
  go_wp2_with fail
  exact bodyPost_ret (v := .tuple #[.int .i64 0, .int .i64 0, .int .i64 0, .int .i64 0, .bool false]) (by simp [results, Try.results35, go_sem]) rfl ⟨rfl, ((Below.refl _ _).alloc (Nat.le_refl _) _).trans (Hb1.out.mono (by simp))⟩

set_option maxHeartbeats 400000 in
theorem box_good (a n : Nat) (ha : a < 4294967296) (hn : n ≤ 32) (hg : goodB a (n : Int) = true) (w : World) :
    Calls Try.prog 35 #[.agg #[.int .u32 a, .int .i64 n]] w fun e w' => e = .returned (.tuple #[.int .i64 ((pt 32 a).1 + (lo (32 - n)).1), .int .i64 ((pt 32 a).1 + (hi (32 - n)).1), .int .i64 ((pt 32 a).2 + (lo (32 - n)).2), .int .i64 ((pt 32 a).2 + (hi (32 - n)).2), .bool true]) ∧ Below w.heap.size w w' := by
  have HG := Lib.hid (good_any a n ha)
  rw [hg] at HG
  clear hg
  have hs := pt_small 32 a (by omega)
  have hss := span_small (32 - n) (by omega)
  have HP := Lib.hid (point_any a ha)
  have HS := Lib.hid (span_any (32 - n) (by omega))
  have Hsub : Hid ((32 : Int) - (n : Int) = ((32 - n : Nat) : Int)) := by rw [Hid]; omega
  generalize lo (32 - n) = L at *
  generalize hi (32 - n) = U at *
  generalize pt 32 a = p at *
  go_enter Try.func35, Try.ntmps35
  go_wp2_with fail
  refine (HG.out _).mono ?_; rintro e w1 ⟨rfl, hb1⟩
  have c0 := (hb1.cell (p := ⟨w.heap.size, 0, none⟩) (by simp)).trans (show _ = some (.int .u32 a) by go_simp)
  have c1 := (hb1.cell (p := ⟨w.heap.size, 1, none⟩) (by simp)).trans (show _ = some (.int .i64 n) by go_simp)
  have hz := hb1.size
  simp at hz
  have K1 := Lib.hid (((Below.refl w.heap.size w).alloc (Nat.le_refl _) _).trans (hb1.mono (by simp)))
  clear hb1
  go_wp2_with fail
  refine (HP.out _).mono ?_
  rintro e w' ⟨v, rfl, ⟨x, y, rfl, hx, hy⟩, rfl⟩
  have Hc := Lib.hid (parts_any x y _ _ hx hy ⟨by omega, by omega⟩ ⟨by omega, by omega⟩)
  clear hx hy
  go_wp2_with fail
  refine (Hc.out _).mono ?_; rintro e w' ⟨rfl, rfl⟩
  go_wp2_with fail
  rw [Hsub.out]
  refine (HS.out _).mono ?_; rintro e w2 ⟨rfl, hb2⟩
  have K2 := Lib.hid (K1.out.trans (hb2.mono K1.out.size))
  have hz2 := Nat.le_trans hz hb2.size
  clear hb2
  go_wp2_with fail
  go_quiet (fail)
  go_wp2
  refine bodyPost_ret (v := .tuple #[.int .i64 (p.1 + L.1), .int .i64 (p.1 + U.1), .int .i64 (p.2 + L.2), .int .i64 (p.2 + U.2), .bool true]) (by simp [results, Try.results35, go_sem]) rfl ⟨rfl, ?_⟩
  exact below_drewN ((K2.out.alloc K2.out.size _).alloc (by simp; have := K2.out.size; omega) _) _

theorem ref_Box (a n : Nat) (ha : a < 4294967296) (hn : n ≤ 32) (w : World) :
    Calls Try.prog 37 #[.int .u32 a, .int .i64 n] w fun e w' => e = .returned (.tuple #[.int .i64 ((pt 32 a).1 + (lo n).1), .int .i64 ((pt 32 a).1 + (hi n).1), .int .i64 ((pt 32 a).2 + (lo n).2), .int .i64 ((pt 32 a).2 + (hi n).2)]) ∧ w = w' := by
  have hs := pt_small 32 a (by omega)
  have HP := Lib.hid (ref_Point a ha)
  generalize pt 32 a = p at *
  go_enter Try.func37, Try.ntmps37
  go_wp2_with fail
  refine (HP.out _).mono ?_; rintro e w' ⟨rfl, rfl⟩
  go_wp2_with fail
  go_loop [10, 11, 12, 13, 14, 15, 16] (fun x1 x2 y1 y2 i _ _ => ∃ k : Nat, k ≤ n ∧ i = .int .i64 k ∧ x1 = .int .i64 (p.1 + (lo k).1) ∧ x2 = .int .i64 (p.1 + (hi k).1) ∧ y1 = .int .i64 (p.2 + (lo k).2) ∧ y2 = .int .i64 (p.2 + (hi k).2)) (fun _ _ _ _ i _ _ => n - (intOf i).toNat)
  case atStart => exact ⟨0, by omega, rfl, by rw [lo]; simp, by rw [hi]; simp, by rw [lo]; simp, by rw [hi]; simp⟩
  case round =>
    obtain ⟨k, hk, rfl, rfl, rfl, rfl, rfl⟩ := hrel
    have hw := pw_small k (by omega)
    have hss := span_small k (by omega)
    by_cases hlt : k < n
    · have HQ := Lib.hid (ref_Power k (by omega))
      have Hl : Hid (lo (k + 1) = ((lo k).1 + mn (pw k).1, (lo k).2 + mn (pw k).2)) := by rw [Hid, lo]
      have Hh : Hid (hi (k + 1) = ((hi k).1 + mx (pw k).1, (hi k).2 + mx (pw k).2)) := by rw [Hid, hi]
      generalize (pw k).1 = p1 at *
      generalize (pw k).2 = p2 at *
      generalize (lo k).1 = l1 at *
      generalize (lo k).2 = l2 at *
      generalize (hi k).1 = h1 at *
      generalize (hi k).2 = h2 at *
      by_cases c1 : p1 < 0
      · by_cases c2 : p2 < 0
        · go_wp2_with (go_at_call 25; refine (HQ.out _).mono ?_; rintro e w' ⟨rfl, rfl⟩)
          go_round
          case rel => exact ⟨k + 1, by omega, by go_num, by rw [Hl.out, mn_neg c1]; congr 1; omega, by rw [Hh.out, mx_neg c1]; congr 1; omega, by rw [Hl.out, mn_neg c2]; congr 1; omega, by rw [Hh.out, mx_neg c2]; congr 1; omega⟩
          case measure => simp [intOf]; omega
        · have c2' : 0 ≤ p2 := by omega
          go_wp2_with (go_at_call 25; refine (HQ.out _).mono ?_; rintro e w' ⟨rfl, rfl⟩)
          go_round
          case rel => exact ⟨k + 1, by omega, by go_num, by rw [Hl.out, mn_neg c1]; congr 1; omega, by rw [Hh.out, mx_neg c1]; congr 1; omega, by rw [Hl.out, mn_pos c2']; congr 1; omega, by rw [Hh.out, mx_pos c2']; congr 1; omega⟩
          case measure => simp [intOf]; omega
      · have c1' : 0 ≤ p1 := by omega
        by_cases c2 : p2 < 0
        · go_wp2_with (go_at_call 25; refine (HQ.out _).mono ?_; rintro e w' ⟨rfl, rfl⟩)
          go_round
          case rel => exact ⟨k + 1, by omega, by go_num, by rw [Hl.out, mn_pos c1']; congr 1; omega, by rw [Hh.out, mx_pos c1']; congr 1; omega, by rw [Hl.out, mn_neg c2]; congr 1; omega, by rw [Hh.out, mx_neg c2]; congr 1; omega⟩
          case measure => simp [intOf]; omega
        · have c2' : 0 ≤ p2 := by omega
          go_wp2_with (go_at_call 25; refine (HQ.out _).mono ?_; rintro e w' ⟨rfl, rfl⟩)
          go_round
          case rel => exact ⟨k + 1, by omega, by go_num, by rw [Hl.out, mn_pos c1']; congr 1; omega, by rw [Hh.out, mx_pos c1']; congr 1; omega, by rw [Hl.out, mn_pos c2']; congr 1; omega, by rw [Hh.out, mx_pos c2']; congr 1; omega⟩
          case measure => simp [intOf]; omega
    · obtain rfl : k = n := by omega
      go_wp2_with fail
      exact bodyPost_ret (v := .tuple #[.int .i64 (p.1 + (lo k).1), .int .i64 (p.1 + (hi k).1), .int .i64 (p.2 + (lo k).2), .int .i64 (p.2 + (hi k).2)]) (by simp [results, Try.results37, go_sem]) rfl ⟨rfl, rfl⟩

end Go.Proofs.Ytpggdofleehmdaa.plane
