/- What the functions of the packages plane and confluenceref42, and prefix.Bit, return: points, powers, addresses of points. No condition beyond those that each lemma states. -/
import Derived.Test.YtpggdofleehmdaaRows
import Derived.Test.YtpggdofleehmdaaFlt
import Derived.Test.YtpggdofleehmdaaPlaneMath
import Derived.WalkKit
import Derived.ProofKit
import Derived.Below
import Derived.BigQuiet
import Derived.Deep.QuietTactic
import Derived.WalkLawsBesides
import Derived.WalkSpells
import Derived.Outline
import Derived.Lib.Hide
namespace Go.Proofs.Ytpggdofleehmdaa.plane
open Go.RowKit Go.Proofs.Ytpggdofleehmdaa.flt
set_option linter.unusedVariables false

theorem ret_int {k : IntKind} {a b : Int} (h : a = b) : Ending.returned (.int k a) = .returned (.int k b) := by rw [h]

theorem u32_and1 (x : Int) (h₀ : 0 ≤ x) (h₁ : x < 4294967296) : bits .and .u32 x 1 = x % 2 := by
  have := u32_and x 1 h₀ h₁ (by omega) (by omega)
  rw [this]
  have e : (x.toNat &&& (1 : Int).toNat) = x.toNat % 2 := by
    show x.toNat &&& 1 = _
    exact Nat.and_one_is_mod _
  rw [e]; omega

theorem bit_any (a i : Nat) (ha : (a : Int) < 4294967296) (hi : i < 32) (w : World) : Calls Try.prog 67 #[.int .u32 a, .int .i64 i] w fun e w' => e = .returned (.int .i64 ((a / 2 ^ (31 - i) % 2 : Nat) : Int)) ∧ w = w' := by
  have h1 : decide ((i : Int) < 0) = false := by simp
  have h2 : decide ((32 : Int) ≤ (i : Int)) = false := by simp; omega
  go_enter Try.func67, Try.ntmps67
  go_wp2
  go_ret
  have hlt : a / 2 ^ (31 - i) ≤ a := Nat.div_le_self _ _
  have e : (a : Int) / 2 ^ (31 - i) = ((a / 2 ^ (31 - i) : Nat) : Int) := by simp
  refine ⟨ret_int ?_, rfl⟩
  rw [e]
  clear e
  generalize a / 2 ^ (31 - i) = q at *
  rw [u32_and1 _ (by omega) (by omega)]
  rw [IntWalk.wrap64_in _ ⟨by omega, by omega⟩]
  omega

/-- the base's bits, as the program's text has them -/
theorem isF_m1 : IsF 13830554455654793216 (-1) 2200 := by
  have h := of_int (-1) (by decide)
  have e : floatOfInt .f64 (-1) = 13830554455654793216 := by decide +kernel
  rw [e] at h; exact h
theorem isF_p1 : IsF 4607182418800017408 1 2200 := by
  have h := of_int 1 (by decide)
  have e : floatOfInt .f64 1 = 4607182418800017408 := by decide +kernel
  rw [e] at h; exact h
theorem isF_mhalf : IsF 13826050856027422720 (-1) 2199 := by
  obtain ⟨k, hk⟩ : ∃ k : Nat, k = 2147 := ⟨_, rfl⟩
  obtain ⟨o, ho⟩ : ∃ o : Nat, o = 2199 := ⟨_, rfl⟩
  rw [← ho]
  refine ⟨true, 4503599627370496, k, by omega, by omega, ?_, ?_⟩
  · rw [hk]; decide +kernel
  · rw [show o = 52 + k from by omega, Int.pow_add, show sg true 4503599627370496 = -1 * 2 ^ 52 from by decide, Int.mul_assoc]

theorem parts_any (x y : Nat) (a b : Int) (hx : IsF x a 2200) (hy : IsF y b 2200) (ha : -9007199254740992 ≤ a ∧ a ≤ 9007199254740992) (hb : -9007199254740992 ≤ b ∧ b ≤ 9007199254740992) (w : World) :
    Calls Try.prog 52 #[.complex .f64 x y] w fun e w' => e = .returned (.tuple #[.int .i64 a, .int .i64 b]) ∧ w = w' := by
  have h1 := to_int hx (by omega) (by omega)
  have h2 := to_int hy (by omega) (by omega)
  have c1 := fun w => run_convert_float_int (P := Try.prog) w 96 3 .f64 .i64 x a (by rw [Try.underlying96]; rfl) Try.underlying3 h1
  have c2 := fun w => run_convert_float_int (P := Try.prog) w 96 3 .f64 .i64 y b (by rw [Try.underlying96]; rfl) Try.underlying3 h2
  clear hx hy h1 h2
  go_enter Try.func52, Try.ntmps52
  go_wp2
  go_ret2
  exact ⟨rfl, rfl⟩

theorem number_any (a b : Int) (w : World) :
    Calls Try.prog 53 #[.int .i64 a, .int .i64 b] w fun e w' => e = .returned (.complex .f64 (floatOfInt .f64 a) (floatOfInt .f64 b)) ∧ w = w' := by
  go_enter Try.func53, Try.ntmps53
  go_wp2
  go_ret
  exact ⟨rfl, rfl⟩

/-- a number with two parts that stand for a point -/
def Stands (p : Int × Int) (v : Value) : Prop := ∃ x y, v = .complex .f64 x y ∧ IsF x p.1 2200 ∧ IsF y p.2 2200

/-- one step: times the base, and a bit more -/
theorem step_base {x y : Nat} {p : Int × Int} (hx : IsF x p.1 2200) (hy : IsF y p.2 2200) (h : -1000000000000 ≤ p.1 ∧ p.1 ≤ 1000000000000 ∧ -1000000000000 ≤ p.2 ∧ p.2 ≤ 1000000000000) :
    ∃ re im, cMulBits x y 13830554455654793216 4607182418800017408 = some (re, im) ∧ IsF re (mb p).1 2200 ∧ IsF im (mb p).2 2200 := by
  obtain ⟨re, im, h1, h2, h3⟩ := cmul_exact hx hy isF_m1 isF_p1 (by omega) (by omega) (by omega) (by omega) (by omega) (by omega) (by omega) (by omega)
  refine ⟨re, im, h1, ?_, ?_⟩
  · have e : (mb p).1 = p.1 * -1 - p.2 * 1 := by unfold mb; dsimp only; omega
    rw [e]; exact h2
  · have e : (mb p).2 = p.1 * 1 + p.2 * -1 := by unfold mb; dsimp only; omega
    rw [e]; exact h3

theorem step_bit {x y : Nat} {p : Int × Int} (b : Nat) (hb : b < 2) (hx : IsF x p.1 2200) (hy : IsF y p.2 2200) (h : -1000000000000 ≤ p.1 ∧ p.1 ≤ 1000000000000 ∧ -1000000000000 ≤ p.2 ∧ p.2 ≤ 1000000000000) :
    ∃ re im, cSumBits .add .f64 x y (floatOfInt .f64 (b : Int)) 0 = some (re, im) ∧ IsF re (p.1 + b) 2200 ∧ IsF im p.2 2200 := by
  obtain ⟨re, im, h1, h2, h3⟩ := csum_exact hx hy (of_int (b : Int) (by omega)) isF_zero (by omega) (by omega)
  exact ⟨re, im, h1, h2, by simpa using h3⟩

theorem mb_small (p : Int × Int) (h : -200000 ≤ p.1 ∧ p.1 ≤ 200000 ∧ -200000 ≤ p.2 ∧ p.2 ≤ 200000) : -1000000000000 ≤ (mb p).1 ∧ (mb p).1 ≤ 1000000000000 ∧ -1000000000000 ≤ (mb p).2 ∧ (mb p).2 ≤ 1000000000000 := by
  unfold mb; dsimp only; omega

theorem pt_round (a k : Nat) (hk : k < 32) : pt (k + 1) (a / 2 ^ (32 - (k + 1))) = ((mb (pt k (a / 2 ^ (32 - k)))).1 + ((a / 2 ^ (31 - k) % 2 : Nat) : Int), (mb (pt k (a / 2 ^ (32 - k)))).2) := by
  rw [pt, Nat.div_div_eq_div_mul, show 2 ^ (32 - (k + 1)) * 2 = 2 ^ (32 - k) from by rw [← Nat.pow_succ]; congr 1; omega, show 32 - (k + 1) = 31 - k from by omega]

theorem point_any (a : Nat) (ha : a < 4294967296) (w : World) :
    Calls Try.prog 57 #[.int .u32 a] w fun e w' => ∃ v, e = .returned v ∧ Stands (pt 32 a) v ∧ w = w' := by
  have ha' : (a : Int) < 4294967296 := by omega
  clear ha
  go_enter Try.func57, Try.ntmps57
  go_wp2
  go_loop [3, 5] (fun z i => ∃ k : Nat, k ≤ 32 ∧ i = .int .i64 k ∧ Stands (pt k (a / 2 ^ (32 - k))) z) (fun _ i => 32 - (intOf i).toNat)
  case atStart => exact ⟨0, by omega, rfl, 0, 0, rfl, by rw [pt]; exact isF_zero, by rw [pt]; exact isF_zero⟩
  case round =>
    obtain ⟨k, hk, rfl, x, y, rfl, hx, hy⟩ := hrel
    by_cases hlt : k < 32
    · have hs := pt_small k (a / 2 ^ (32 - k)) hk
      have hr := pt_round a k hlt
      have hb2 : a / 2 ^ (31 - k) % 2 < 2 := by omega
      generalize hp2 : pt (k + 1) (a / 2 ^ (32 - (k + 1))) = p2 at hr
      have Hp2 := Lib.hid hp2
      clear hp2
      generalize pt k (a / 2 ^ (32 - k)) = p1 at *
      have Bc := Lib.hid (bit_any a k ha' hlt)
      generalize hb : a / 2 ^ (31 - k) % 2 = b at *
      clear hb ha'
      obtain ⟨re, im, hm, hre, him⟩ := step_base hx hy (by omega)
      obtain ⟨re2, im2, hm2, hre2, him2⟩ := step_bit b hb2 hre him (mb_small p1 hs)
      have m1 := fun w => run_complex_mul (P := Try.prog) w 84 x y _ _ re im hm
      have m2 := fun w => run_complex_sum (P := Try.prog) w .add (.inl rfl) 84 .f64 re im _ _ re2 im2 hm2
      have Hst : Hid (Stands p2 (.complex .f64 re2 im2)) := ⟨re2, im2, rfl, by rw [hr]; exact hre2, by rw [hr]; exact him2⟩
      clear hm hm2 hre him hre2 him2 hx hy hr hs
      go_wp2_with (go_at_call 67; refine (Bc.out _).mono ?_; rintro e w' ⟨rfl, rfl⟩)
      go_round
      case rel => exact ⟨k + 1, by omega, by go_num, by rw [Hp2.out]; exact Hst.out⟩
      case measure => simp [intOf]; omega
    · obtain rfl : k = 32 := by omega
      have hst : Hid (Stands (pt 32 a) (.complex .f64 x y)) := ⟨x, y, rfl, by simpa using hx, by simpa using hy⟩
      clear hx hy
      go_wp2
      go_ret
      exact ⟨_, rfl, hst.out, rfl⟩

theorem plane_Point (a : Nat) (ha : a < 4294967296) (w : World) :
    Calls Try.prog 23 #[.int .u32 a] w fun e w' => e = .returned (.tuple #[.int .i64 (pt 32 a).1, .int .i64 (pt 32 a).2]) ∧ w = w' := by
  have hs := pt_small 32 a (by omega)
  go_enter Try.func23, Try.ntmps23
  go_wp2_with fail
  refine (point_any a ha w).mono ?_
  rintro e w' ⟨v, rfl, ⟨x, y, rfl, hx, hy⟩, rfl⟩
  have Hc := Lib.hid (parts_any x y _ _ hx hy ⟨by omega, by omega⟩ ⟨by omega, by omega⟩)
  clear hx hy
  go_wp2_with (go_at_call 52; refine (Hc.out _).mono ?_; rintro e w' ⟨rfl, rfl⟩)
  go_ret2
  exact ⟨rfl, rfl⟩

theorem ref_Power (n : Nat) (hn : n ≤ 32) (w : World) :
    Calls Try.prog 25 #[.int .i64 n] w fun e w' => e = .returned (.tuple #[.int .i64 (pw n).1, .int .i64 (pw n).2]) ∧ w = w' := by
  go_enter Try.func25, Try.ntmps25
  go_wp2
  go_loop [4, 5, 6] (fun x y i => ∃ k : Nat, k ≤ n ∧ i = .int .i64 k ∧ x = .int .i64 (pw k).1 ∧ y = .int .i64 (pw k).2) (fun _ _ i => n - (intOf i).toNat)
  case atStart => exact ⟨0, by omega, rfl, by rw [pw], by rw [pw]⟩
  case round =>
    obtain ⟨k, hk, rfl, rfl, rfl⟩ := hrel
    have hs := pw_small k (by omega)
    by_cases hlt : k < n
    · have Hp : Hid (pw (k + 1) = mb (pw k)) := by rw [Hid, pw]
      generalize pw k = p at *
      go_wp2
      go_round
      case rel => exact ⟨k + 1, by omega, by go_num, by rw [Hp.out]; rfl, by rw [Hp.out]; rfl⟩
      case measure => simp [intOf]; omega
    · obtain rfl : n = k := by omega
      go_wp2
      go_ret2
      exact ⟨rfl, rfl⟩


theorem bit_cases (b : Nat) (h : b < 2) : b = 0 ∨ b = 1 := by omega

theorem ref_Point (a : Nat) (ha : a < 4294967296) (w : World) :
    Calls Try.prog 19 #[.int .u32 a] w fun e w' => e = .returned (.tuple #[.int .i64 (pt 32 a).1, .int .i64 (pt 32 a).2]) ∧ w = w' := by
  go_enter Try.func19, Try.ntmps19
  go_wp2
  go_loop [0, 4, 5, 6, 7, 8] (fun u x y i _ _ => ∃ k : Nat, k ≤ 32 ∧ i = .int .i64 k ∧ u = .int .u32 ((a / 2 ^ k : Nat) : Int) ∧ x = .int .i64 (pt k a).1 ∧ y = .int .i64 (pt k a).2) (fun _ _ _ i _ _ => 32 - (intOf i).toNat)
  case atStart => exact ⟨0, by omega, rfl, by simp, by rw [pt], by rw [pt]⟩
  case round =>
    obtain ⟨k, hk, rfl, rfl, rfl, rfl⟩ := hrel
    have hs := pt_small k a hk
    by_cases hlt : k < 32
    · have hw := pw_small k hk
      have Hsn := Lib.hid (pt_snoc k a)
      have Hpw := Lib.hid (ref_Power k hk)
      have hal : a / 2 ^ k ≤ a := Nat.div_le_self _ _
      have Hdiv : Hid (a / 2 ^ (k + 1) = a / 2 ^ k / 2) := by rw [Hid, Nat.div_div_eq_div_mul, Nat.pow_succ]
      generalize hq : pt k a = q at *
      generalize hp : pw k = p at *
      generalize hu : a / 2 ^ k = u at *
      have HU := Lib.hid hu
      clear hq hp hu
      have hb := bit_cases (u % 2) (by omega)
      rcases hb with hb | hb
      · have h0 : ((u : Int) % 2 == 1) = false := by simp; omega
        have Hb := Lib.hid hb
        clear hb
        go_wp2
        go_round
        case rel => exact ⟨k + 1, by omega, by go_num, by rw [Hdiv.out]; simp, by rw [Hsn.out, Hb.out]; simp, by rw [Hsn.out, Hb.out]; simp⟩
        case measure => simp [intOf]; omega
      · have h0 : ((u : Int) % 2 == 1) = true := by simp; omega
        have Hb := Lib.hid hb
        clear hb
        go_wp2_with (go_at_call 25; refine (Hpw.out _).mono ?_; rintro e w' ⟨rfl, rfl⟩)
        go_round
        case rel => exact ⟨k + 1, by omega, by go_num, by rw [Hdiv.out]; simp, by rw [Hsn.out, Hb.out]; simp, by rw [Hsn.out, Hb.out]; simp⟩
        case measure => simp [intOf]; omega
    · obtain rfl : k = 32 := by omega
      go_wp2
      go_ret2
      exact ⟨rfl, rfl⟩

theorem near_any (b : Nat) (l : List Int) (w : World) (hl : l.length ≤ 4) (hc : ∀ i : Nat, i < l.length → w.cell? ⟨b, i, none⟩ = some (.int .i64 (l.getD i 0))) :
    Calls Try.prog 51 #[.slice (some ⟨b, 0, none⟩) l.length l.length] w fun e w' => e = .returned (.bool (l.all isNear)) ∧ w = w' := by
  have Hc := Lib.hid hc
  clear hc
  go_enter Try.func51, Try.ntmps51
  go_wp2
  go_loop [4, 7] (fun _ i => ∃ k : Nat, k ≤ l.length ∧ i = .int .i64 k ∧ (l.take k).all isNear = true) (fun _ i => l.length - (intOf i).toNat)
  case atStart => exact ⟨0, by omega, rfl, rfl⟩
  case round =>
    obtain ⟨k, hk, rfl, hall⟩ := hrel
    have Ha := Lib.hid hall
    clear hall
    by_cases hlt : k < l.length
    · have hcell := Hc.out k hlt
      have hv : l.getD k 0 = l[k] := by simp [hlt]
      rw [hv] at hcell
      have hmem : l[k] ∈ l := List.getElem_mem hlt
      have htk : l.take (k + 1) = l.take k ++ [l[k]] := by rw [List.take_succ_eq_append_getElem hlt]
      have Hm := Lib.hid hmem
      have Ht := Lib.hid htk
      clear hv hmem htk
      generalize l[k] = v at *
      by_cases h1 : v < -1048576
      · have e1 : decide (v < -1048576) = true := by simpa using h1
        have Hr : Hid (l.all isNear = false) := by
          rw [Hid, List.all_eq_false]; exact ⟨v, Hm.out, by simp [isNear]; omega⟩
        go_wp2
        go_ret
        exact ⟨by rw [Hr.out]; rfl, rfl⟩
      · have e1 : decide (v < -1048576) = false := by simpa using h1
        by_cases h2 : 1048576 < v
        · have e2 : decide (1048576 < v) = true := by simpa using h2
          have Hr : Hid (l.all isNear = false) := by
            rw [Hid, List.all_eq_false]; exact ⟨v, Hm.out, by simp [isNear]; omega⟩
          go_wp2
          go_ret
          exact ⟨by rw [Hr.out]; rfl, rfl⟩
        · have e2 : decide (1048576 < v) = false := by simpa using h2
          have Hn : Hid (isNear v = true) := by simp [Hid, isNear]; omega
          go_wp2
          go_round
          case rel => exact ⟨k + 1, by omega, by go_num, by rw [Ht.out, List.all_append, Ha.out]; simp [Hn.out]⟩
          case measure => simp [intOf]; omega
    · have Hr : Hid (l.all isNear = true) := by have := Ha.out; rwa [List.take_of_length_le (by omega)] at this
      go_wp2
      go_ret
      exact ⟨by rw [Hr.out]; rfl, rfl⟩

theorem i64_and1 (n : Int) : bits .and .i64 n 1 = n % 2 := by
  have h1 : (BitVec.ofInt 64 1).toNat = 2 ^ 1 - 1 := by decide
  have key : (BitVec.ofInt 64 n &&& BitVec.ofInt 64 1).toNat = (n % ((2 ^ 64 : Nat) : Int)).toNat % 2 ^ 1 := by
    rw [BitVec.toNat_and, BitVec.toNat_ofInt, h1, Nat.and_two_pow_sub_one_eq_mod]
  show IntKind.i64.wrap ((BitVec.ofInt 64 n &&& BitVec.ofInt 64 1).toNat : Nat) = n % 2
  rw [key, IntKind.wrap_i64]
  omega

theorem or_pow (a k : Nat) (ha : a < 2 ^ k) (hk : k < 32) : bits BinOp.or IntKind.u32 (a : Int) (2 ^ k % 4294967296) = (a : Int) + 2 ^ k := by
  have h1 : (2 : Nat) ^ k ≤ 2 ^ 31 := Nat.pow_le_pow_right (by omega) (by omega)
  have e : ((2 : Int) ^ k % 4294967296) = ((2 ^ k : Nat) : Int) := by
    have : ((2 : Int) ^ k) = ((2 ^ k : Nat) : Int) := by simp
    rw [this]; omega
  rw [e, u32_or_nat _ _ (by omega) (by omega)]
  have h2 : a ||| 2 ^ k = a + 2 ^ k := by
    rw [Nat.or_comm, Nat.add_comm]
    have := Nat.two_pow_add_eq_or_of_lt ha 1
    simpa using this.symm
  rw [h2]; simp

theorem step_half (u v : Int) (h : -2000000 ≤ u ∧ u ≤ 2000000 ∧ -2000000 ≤ v ∧ v ≤ 2000000) (he : (u + v) % 2 = 0) :
    ∃ re im, cMulBits (floatOfInt .f64 u) (floatOfInt .f64 v) 13826050856027422720 13826050856027422720 = some (re, im) ∧ IsF re ((v - u) / 2) 2200 ∧ IsF im ((-u - v) / 2) 2200 := by
  obtain ⟨re, im, h1, h2, h3⟩ := cmul_exact (of_int u (by omega)) (of_int v (by omega)) isF_mhalf isF_mhalf (by omega) (by omega) (by omega) (by omega) (by omega) (by omega) (by omega) (by omega)
  refine ⟨re, im, h1, ?_, ?_⟩
  · have e : u * -1 - v * -1 = (v - u) / 2 * 2 ^ 1 := by omega
    rw [e] at h2
    exact IsF.up 1 h2
  · have e : u * -1 + v * -1 = (-u - v) / 2 * 2 ^ 1 := by omega
    rw [e] at h3
    exact IsF.up 1 h3

theorem addr_any (x y : Int) (hx : -9223372036854775808 ≤ x ∧ x ≤ 9223372036854775807) (hy : -9223372036854775808 ≤ y ∧ y ≤ 9223372036854775807) (w : World) :
    Calls Try.prog 18 #[.int .i64 x, .int .i64 y] w fun e w' => e = .returned (.tuple #[.int .u32 ((find (x, y)).1 : Int), .bool (find (x, y)).2]) ∧ Below w.heap.size w w' := by
  by_cases hn : (isNear x && isNear y) = true
  · have hx1 : -1048576 ≤ x ∧ x ≤ 1048576 ∧ -1048576 ≤ y ∧ y ≤ 1048576 := by simp [isNear] at hn; omega
    have Hn := Lib.hid hn
    clear hn
    go_enter Try.func18, Try.ntmps18
    go_wp2_with fail
    refine (near_any w.heap.size [x, y] _ (by simp) ?_).mono ?_
    · intro i hi
      have : i = 0 ∨ i = 1 := by simp at hi; omega
      rcases this with rfl | rfl <;> simp
    rintro e w' ⟨rfl, rfl⟩
    have hb : [x, y].all isNear = true := by simpa using Hn.out
    rw [hb]
    clear hb
    generalize hp : (x, y) = p at *
    go_wp2_with fail
    go_loop [0, 1, 6, 13] (fun u v a i => ∃ k : Nat, k ≤ 32 ∧ i = .int .i64 k ∧ u = .int .i64 (dvs k p).2.1 ∧ v = .int .i64 (dvs k p).2.2 ∧ a = .int .u32 ((dvs k p).1 : Int)) (fun _ _ _ i => 32 - (intOf i).toNat)
    case atStart => exact ⟨0, by omega, rfl, by rw [dvs, ← hp], by rw [dvs, ← hp], by rw [dvs]; rfl⟩
    case round =>
      obtain ⟨k, hk, rfl, rfl, rfl, rfl⟩ := hrel
      have hs := dvs_small k p (by rw [← hp]; omega)
      by_cases hlt : k < 32
      · have hl := dvs_lt k p
        have Hst : Hid (dvs (k + 1) p = ((dvs k p).1 + (par (dvs k p).2).toNat * 2 ^ k, half (dvs k p).2)) := by rw [Hid, dvs]
        generalize (dvs k p).1 = a at *
        generalize hq : (dvs k p).2 = q at *
        obtain ⟨u, v⟩ := q
        have ha := i64_and1 (u + v)
        have hpar := par_01 (u, v)
        have Hpe : Hid (par (u, v) = (u + v) % 2) := rfl
        generalize par (u, v) = b at *
        rw [← Hpe.out] at ha
        clear hq hp
        dsimp only at hs
        have hb : b = 0 ∨ b = 1 := by omega
        rcases hb with rfl | rfl
        · obtain ⟨re, im, hm, hre, him⟩ := step_half u v (by omega) (by have := Hpe.out; omega)
          have m1 := fun w => run_complex_mul (P := Try.prog) w 84 _ _ _ _ re im hm
          have Hc := Lib.hid (parts_any re im _ _ hre him ⟨by omega, by omega⟩ ⟨by omega, by omega⟩)
          have Hh : Hid (half (u, v) = ((v - u) / 2, (-u - v) / 2)) := by
            rw [Hid]; unfold half; rw [show par (u, v) = 0 from Hpe.out.symm]; dsimp only; apply Prod.ext <;> dsimp only <;> omega
          clear hm hre him
          generalize (v - u) / 2 = g1 at *
          generalize (-u - v) / 2 = g2 at *
          go_wp2_with (first | (go_at_call 53; refine (number_any _ _ _).mono ?_; rintro e w' ⟨rfl, rfl⟩) | (go_at_call 52; refine (Hc.out _).mono ?_; rintro e w' ⟨rfl, rfl⟩))
          go_round
          case rel => exact ⟨k + 1, by omega, by go_num, by rw [Hst.out, Hh.out], by rw [Hst.out, Hh.out], by rw [Hst.out]; simp⟩
          case measure => simp [intOf]; omega
        · obtain ⟨re, im, hm, hre, him⟩ := step_half (u - 1) v (by omega) (by have := Hpe.out; omega)
          have m1 := fun w => run_complex_mul (P := Try.prog) w 84 _ _ _ _ re im hm
          have Hc := Lib.hid (parts_any re im _ _ hre him ⟨by omega, by omega⟩ ⟨by omega, by omega⟩)
          have Hh : Hid (half (u, v) = ((v - (u - 1)) / 2, (-(u - 1) - v) / 2)) := by
            rw [Hid]; unfold half; rw [show par (u, v) = 1 from Hpe.out.symm]
          clear hm hre him
          generalize (v - (u - 1)) / 2 = g1 at *
          generalize (-(u - 1) - v) / 2 = g2 at *
          go_wp2_with (first | (go_at_call 53; refine (number_any _ _ _).mono ?_; rintro e w' ⟨rfl, rfl⟩) | (go_at_call 52; refine (Hc.out _).mono ?_; rintro e w' ⟨rfl, rfl⟩))
          go_round
          case rel => exact ⟨k + 1, by omega, by go_num, by rw [Hst.out, Hh.out], by rw [Hst.out, Hh.out], by rw [Hst.out]; rw [or_pow a k hl hlt]; simp⟩
          case measure => simp [intOf]; omega
      · obtain rfl : k = 32 := by omega
        have hl := dvs_lt 32 p
        have Hf : Hid (find (x, y) = if (dvs 32 p).2 = (0, 0) then ((dvs 32 p).1, true) else (0, false)) := by
          rw [Hid, find]; dsimp only; rw [if_pos Hn.out, hp]
        generalize (dvs 32 p).1 = a at *
        generalize (dvs 32 p).2 = q at *
        obtain ⟨u, v⟩ := q
        clear hp
        dsimp only at hs
        by_cases h1 : u = 0
        · by_cases h2 : v = 0
          · subst h1; subst h2
            go_wp2
            go_ret2
            exact ⟨by rw [Hf.out]; rfl, (Below.refl _ _).alloc (Nat.le_refl _) _⟩
          · have e1 : (u != 0) = false := by simpa using h1
            have e2 : (v != 0) = true := by simpa using h2
            have Hr : Hid (find (x, y) = (0, false)) := by rw [Hid, Hf.out, if_neg (by simp [h2])]
            clear h1 h2
            go_wp2
            go_ret2
            exact ⟨by rw [Hr.out]; rfl, (Below.refl _ _).alloc (Nat.le_refl _) _⟩
        · have e1 : (u != 0) = true := by simpa using h1
          have Hr : Hid (find (x, y) = (0, false)) := by rw [Hid, Hf.out, if_neg (by simp [h1])]
          clear h1
          go_wp2
          go_ret2
          exact ⟨by rw [Hr.out]; rfl, (Below.refl _ _).alloc (Nat.le_refl _) _⟩
  · have Hn := Lib.hid hn
    clear hn
    go_enter Try.func18, Try.ntmps18
    go_wp2_with fail
    refine (near_any w.heap.size [x, y] _ (by simp) ?_).mono ?_
    · intro i hi
      have : i = 0 ∨ i = 1 := by simp at hi; omega
      rcases this with rfl | rfl <;> simp
    rintro e w' ⟨rfl, rfl⟩
    have hb : [x, y].all isNear = false := by have := Hn.out; simpa using this
    rw [hb]
    clear hb
    have Hr : Hid (find (x, y) = (0, false)) := by rw [Hid, find]; dsimp only; rw [if_neg Hn.out]
    go_wp2
    go_ret2
    exact ⟨by rw [Hr.out]; rfl, (Below.refl _ _).alloc (Nat.le_refl _) _⟩

theorem lives_any (w : World) :
    Calls Try.prog 20 #[] w fun e w' => e = .returned (.bool true) ∧ Below w.heap.size w w' := by
  have hp : pt 32 2 = (-1, 1) := by decide +kernel
  have hf : find (0, 1) = (3, true) := by decide +kernel
  have Hp := Lib.hid (plane_Point 2 (by omega))
  have Ha := Lib.hid (addr_any 0 1 (by omega) (by omega))
  rw [hp] at Hp
  rw [hf] at Ha
  clear hp hf
  go_enter Try.func20, Try.ntmps20
  go_wp2_with (first | (go_at_call 23; refine (Hp.out _).mono ?_; rintro e w' ⟨rfl, rfl⟩) | (go_at_call 18; refine (Ha.out _).mono ?_; rintro e w1 ⟨rfl, hb1⟩))
  go_ret
  exact ⟨rfl, hb1⟩

end Go.Proofs.Ytpggdofleehmdaa.plane
