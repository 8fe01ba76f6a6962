/- What tally.near, pair, parts, square, Far and Apart return. No condition beyond those that each lemma states. -/
import Derived.Test.YtafepficapdepaaRows
import Derived.Test.YtafepficapdepaaFlt
import Derived.Test.YtafepficapdepaaKit
namespace Go.Proofs.Ytafepficapdepaa.tally
open Go.RowKit Go.Proofs.Ytafepficapdepaa.flt Go.Proofs.Ytafepficapdepaa.kit
set_option linter.unusedVariables false

def isNear (n : Int) : Bool := decide (-1048576 ≤ n) && decide (n ≤ 1048576)

theorem near1_any (n : Int) (w : World) : Calls Try.prog 143 #[.int .i64 n] w fun e w' => e = .returned (.bool (!isNear n)) ∧ w = w' := by
  by_cases h1 : n < -1048576
  · have e1 : decide (n < -1048576) = true := by simpa using h1
    have Hr : Hid ((!isNear n) = true) := by simp [Hid, isNear]; omega
    go_enter Try.func143, Try.ntmps143
    go_wp2
    go_ret
    exact ⟨by rw [Hr.out]; rfl, rfl⟩
  · have e1 : decide (n < -1048576) = false := by simpa using h1
    have Hr : Hid ((!isNear n) = decide (1048576 < n)) := by
      rw [Hid, Bool.eq_iff_iff]; simp [isNear]; omega
    go_enter Try.func143, Try.ntmps143
    go_wp2
    go_ret
    exact ⟨by rw [Hr.out]; rfl, rfl⟩

/-- where the first number stands that is not near; below 0: all are -/
theorem index_any (b : Nat) (l : List Int) (w : World) (hl : l.length ≤ 4) (hc : ∀ i : Nat, i < l.length → w.cell? ⟨b, i, none⟩ = some (.int .i64 (l.getD i 0))) :
    Calls Try.prog 167 #[.slice (some ⟨b, 0, none⟩) l.length l.length, .func (.func 143) #[] #[]] w fun e w' => (∃ k : Int, e = .returned (.int .i64 k) ∧ decide (0 ≤ k) = !(l.all isNear)) ∧ w = w' := by
  have Hc := Lib.hid hc
  clear hc
  go_enter Try.func167, Try.ntmps167
  go_wp2_with fail
  go_loop [5, 8] (fun _ i => ∃ k : Nat, k ≤ l.length ∧ i = .int .i64 k ∧ (l.take k).all isNear = true) (fun _ i => l.length - (intOf i).toNat)
  case atStart => exact ⟨0, by omega, rfl, rfl⟩
  case round =>
    obtain ⟨k, hk, rfl, hall⟩ := hrel
    have Ha := Lib.hid hall
    clear hall
    by_cases hlt : k < l.length
    · have hcell := Hc.out k hlt
      have hv : l.getD k 0 = l[k] := by simp [hlt]
      rw [hv] at hcell
      have hmem : l[k] ∈ l := List.getElem_mem hlt
      have htk : l.take (k + 1) = l.take k ++ [l[k]] := by rw [List.take_succ_eq_append_getElem hlt]
      have Hm := Lib.hid hmem
      have Ht := Lib.hid htk
      clear hv hmem htk
      generalize l[k] = v at *
      have HN := Lib.hid (near1_any v)
      by_cases h1 : isNear v = true
      · rw [h1] at HN
        have Hn := Lib.hid h1
        clear h1
        go_wp2_with (go_at_call 143; refine (HN.out _).mono ?_; rintro e w' ⟨rfl, rfl⟩)
        go_round
        case rel => exact ⟨k + 1, by omega, by go_num, by rw [Ht.out, List.all_append, Ha.out]; simp [Hn.out]⟩
        case measure => simp [intOf]; omega
      · have h1 : isNear v = false := by simpa using h1
        rw [h1] at HN
        have Hr : Hid (l.all isNear = false) := by
          rw [Hid, List.all_eq_false]; exact ⟨v, Hm.out, by simp [h1]⟩
        clear h1
        go_wp2_with (go_at_call 143; refine (HN.out _).mono ?_; rintro e w' ⟨rfl, rfl⟩)
        go_ret
        exact ⟨⟨_, rfl, by rw [Hr.out]; simp⟩, rfl⟩
    · have Hr : Hid (l.all isNear = true) := by have := Ha.out; rwa [List.take_of_length_le (by omega)] at this
      go_wp2
      go_ret
      exact ⟨⟨_, rfl, by rw [Hr.out]; rfl⟩, rfl⟩

theorem contains_any (b : Nat) (l : List Int) (w : World) (hl : l.length ≤ 4) (hc : ∀ i : Nat, i < l.length → w.cell? ⟨b, i, none⟩ = some (.int .i64 (l.getD i 0))) :
    Calls Try.prog 142 #[.slice (some ⟨b, 0, none⟩) l.length l.length, .func (.func 143) #[] #[]] w fun e w' => e = .returned (.bool (!(l.all isNear))) ∧ w = w' := by
  have HI := Lib.hid (index_any b l w hl hc)
  clear hc
  go_enter Try.func142, Try.ntmps142
  go_wp2_with fail
  refine HI.out.mono ?_; rintro e w' ⟨⟨k, rfl, hk⟩, rfl⟩
  have Hk := Lib.hid hk
  clear hk
  go_wp2_with fail
  go_ret
  exact ⟨by rw [← Hk.out]; rfl, rfl⟩

theorem near_any (b : Nat) (l : List Int) (w : World) (hl : l.length ≤ 4) (hc : ∀ i : Nat, i < l.length → w.cell? ⟨b, i, none⟩ = some (.int .i64 (l.getD i 0))) :
    Calls Try.prog 97 #[.slice (some ⟨b, 0, none⟩) l.length l.length] w fun e w' => e = .returned (.bool (l.all isNear)) ∧ w = w' := by
  have HI := Lib.hid (contains_any b l w hl hc)
  clear hc
  go_enter Try.func97, Try.ntmps97
  go_wp2_with fail
  refine HI.out.mono ?_; rintro e w' ⟨rfl, rfl⟩
  go_wp2_with fail
  go_ret
  exact ⟨by simp, rfl⟩

theorem negFloat_exact {x : Nat} {n : Int} {p : Nat} (h : IsF x n p) : IsF (Op.negFloat .f64 x) (-n) p := by
  obtain ⟨s, m, e, h1, h2, h3, h4⟩ := h
  refine ⟨!s, m, e, h1, h2, ?_, by rw [sg_not, Int.neg_mul, h4, Int.neg_mul]⟩
  have e1 : (Op.negFloat .f64 x) % 9223372036854775808 = x % 9223372036854775808 := by
    show (x ^^^ 2 ^ 63) % 2 ^ 63 = x % 2 ^ 63
    rw [Nat.xor_mod_two_pow, Nat.mod_self, Nat.xor_zero]
  have e2 : ((Op.negFloat .f64 x) / 9223372036854775808 % 2 == 1) = !(x / 9223372036854775808 % 2 == 1) := by
    show ((x ^^^ 2 ^ 63) / 2 ^ 63 % 2 == 1) = !(x / 2 ^ 63 % 2 == 1)
    rw [Nat.xor_div_two_pow, Nat.div_self (Nat.two_pow_pos 63)]
    have : (x / 2 ^ 63 ^^^ 1) % 2 = (x / 2 ^ 63 % 2 + 1) % 2 := by
      have := Nat.xor_mod_two_pow (a := x / 2 ^ 63) (b := 1) (n := 1)
      rw [Nat.pow_one] at this
      rw [this]
      have h : x / 2 ^ 63 % 2 = 0 ∨ x / 2 ^ 63 % 2 = 1 := by omega
      rcases h with h | h <;> rw [h] <;> rfl
    rw [this]
    have h : x / 2 ^ 63 % 2 = 0 ∨ x / 2 ^ 63 % 2 = 1 := by omega
    rcases h with h | h <;> rw [h] <;> rfl
  have hr : ∀ y z : Nat, y % 9223372036854775808 = z % 9223372036854775808 → ∀ t, (y / 9223372036854775808 % 2 == 1) = (!(z / 9223372036854775808 % 2 == 1)) → Ieee.double.read z = .number s m t → Ieee.double.read y = .number (!s) m t := by
    intro y z hyz t hb hz
    unfold Ieee.Format.read at hz ⊢
    simp only [double_sign, double_binade, double_inf, double_least] at hz ⊢
    rw [hyz, hb]
    split
    · rename_i c
      rw [if_pos c] at hz
      simp only [Ieee.Datum.number.injEq] at hz ⊢
      exact ⟨by rw [hz.1], hz.2⟩
    · rename_i c
      rw [if_neg c] at hz
      split
      · rename_i c2
        rw [if_pos c2] at hz
        simp only [Ieee.Datum.number.injEq] at hz ⊢
        exact ⟨by rw [hz.1], hz.2⟩
      · rename_i c2
        rw [if_neg c2] at hz
        split at hz <;> cases hz
  exact hr _ _ e1 _ e2 h3

theorem pair_any (a b : Int) (w : World) :
    Calls Try.prog 55 #[.int .i64 a, .int .i64 b] w fun e w' => e = .returned (.complex .f64 (floatOfInt .f64 a) (floatOfInt .f64 b)) ∧ w = w' := by
  go_enter Try.func55, Try.ntmps55
  go_wp2
  go_ret
  exact ⟨rfl, rfl⟩

theorem parts_any (x y : Nat) (a b : Int) (hx : IsF x a 2200) (hy : IsF y b 2200) (ha : -9007199254740992 ≤ a ∧ a ≤ 9007199254740992) (hb : -9007199254740992 ≤ b ∧ b ≤ 9007199254740992) (w : World) :
    Calls Try.prog 57 #[.complex .f64 x y] w fun e w' => e = .returned (.tuple #[.int .i64 a, .int .i64 b]) ∧ w = w' := by
  have h1 := to_int hx (by omega) (by omega)
  have h2 := to_int hy (by omega) (by omega)
  have c1 := fun w => run_convert_float_int (P := Try.prog) w 114 3 .f64 .i64 x a (by rw [Try.underlying114]; rfl) Try.underlying3 h1
  have c2 := fun w => run_convert_float_int (P := Try.prog) w 114 3 .f64 .i64 y b (by rw [Try.underlying114]; rfl) Try.underlying3 h2
  clear hx hy h1 h2
  go_enter Try.func57, Try.ntmps57
  go_wp2
  go_ret2
  exact ⟨rfl, rfl⟩

theorem sq_bound (a : Int) (B : Nat) (ha : a.natAbs ≤ B) : (a * a).natAbs ≤ B * B := by rw [Int.natAbs_mul]; exact Nat.mul_le_mul ha ha
theorem sq_nonneg (a : Int) : 0 ≤ a * a := by
  rcases Int.le_total 0 a with h | h
  · exact Int.mul_nonneg h h
  · exact Int.mul_nonneg_of_nonpos_of_nonpos h h

/-- a number times its mirror: its parts' squares together -/
theorem square_any (x y : Nat) (a b : Int) (hx : IsF x a 2200) (hy : IsF y b 2200) (ha : a.natAbs ≤ 4194304) (hb : b.natAbs ≤ 4194304) (w : World) :
    Calls Try.prog 98 #[.complex .f64 x y] w fun e w' => e = .returned (.int .i64 (a * a + b * b)) ∧ w = w' := by
  have h1 := sq_bound a 4194304 ha
  have h2 := sq_bound b 4194304 hb
  have h3 : (a * b).natAbs ≤ 4194304 * 4194304 := by rw [Int.natAbs_mul]; exact Nat.mul_le_mul ha hb
  have n1 := sq_nonneg a
  have n2 := sq_nonneg b
  have hn := negFloat_exact hy
  have e1 : b * -b = -(b * b) := by rw [Int.mul_neg]
  have e2 : a * -b = -(a * b) := by rw [Int.mul_neg]
  have e3 : b * a = a * b := Int.mul_comm b a
  obtain ⟨re, im, hm, hre, him⟩ := cmul_exact hx hy hx hn (by omega) (by omega) (by omega) (by rw [e1]; omega) (by rw [e2]; omega) (by rw [e3]; omega) (by rw [e1]; omega) (by rw [e2, e3]; omega)
  have m1 := fun w => run_complex_mul (P := Try.prog) w 112 _ _ _ _ re im hm
  rw [e1, show a * a - -(b * b) = a * a + b * b from by omega] at hre
  have h4 := to_int hre (by omega) (by omega)
  have c1 := fun w => run_convert_float_int (P := Try.prog) w 114 3 .f64 .i64 re (a * a + b * b) (by rw [Try.underlying114]; rfl) Try.underlying3 h4
  have hneg : ∀ (x : Nat) (w : World), (Op.unary .neg (.float .f64 x)).run Try.prog w = .ok (.float .f64 (Op.negFloat .f64 x)) w := fun _ _ => rfl
  clear hx hy hn hm hre him h4 e1 e2 e3 h1 h2 h3 n1 n2
  generalize a * a + b * b = s at *
  go_enter Try.func98, Try.ntmps98
  go_wp2
  go_ret
  exact ⟨rfl, rfl⟩

theorem isNear_iff {a : Int} (h : isNear a = true) : -1048576 ≤ a ∧ a ≤ 1048576 := by simpa [isNear] using h

/-- how far a point lies from the middle -/
def farv (a b : Int) : Int := if (isNear a && isNear b) = true then a * a + b * b else 0

theorem far_any (a b : Int) (w : World) :
    Calls Try.prog 58 #[.int .i64 a, .int .i64 b] w fun e w' => e = .returned (.int .i64 (farv a b)) ∧ Below w.heap.size w w' := by
  have hcells : ∀ i : Nat, i < [a, b].length → (w.alloc (.cells #[.int .i64 a, .int .i64 b] 3)).cell? ⟨w.heap.size, i, none⟩ = some (.int .i64 ([a, b].getD i 0)) := by
    intro i hi
    have : i = 0 ∨ i = 1 := by simp at hi; omega
    rcases this with rfl | rfl <;> go_simp
  have HN := Lib.hid (near_any w.heap.size [a, b] _ (by simp) hcells)
  clear hcells
  by_cases hn : (isNear a && isNear b) = true
  · have hf : farv a b = a * a + b * b := by unfold farv; rw [if_pos hn]
    have hl : [a, b].all isNear = true := by simpa using hn
    have h1 := isNear_iff (show isNear a = true by simp at hn; exact hn.1)
    have h2 := isNear_iff (show isNear b = true by simp at hn; exact hn.2)
    rw [hl] at HN
    rw [hf]
    have HS := Lib.hid (square_any _ _ a b (of_int a (by omega)) (of_int b (by omega)) (by omega) (by omega))
    clear hn hf hl
    go_enter Try.func58, Try.ntmps58
    go_wp2_with fail
    refine HN.out.mono ?_; rintro e w' ⟨rfl, rfl⟩
    go_wp2_with fail
    refine (pair_any _ _ _).mono ?_; rintro e w' ⟨rfl, rfl⟩
    go_wp2_with fail
    refine (HS.out _).mono ?_; rintro e w' ⟨rfl, rfl⟩
    go_wp2_with fail
    go_ret
    exact ⟨rfl, (Below.refl _ _).alloc (Nat.le_refl _) _⟩
  · have hf : farv a b = 0 := by unfold farv; rw [if_neg hn]
    have hl : [a, b].all isNear = false := by simpa using hn
    rw [hl] at HN
    rw [hf]
    clear hn hf hl
    go_enter Try.func58, Try.ntmps58
    go_wp2_with fail
    refine HN.out.mono ?_; rintro e w' ⟨rfl, rfl⟩
    go_wp2_with fail
    go_ret
    exact ⟨rfl, (Below.refl _ _).alloc (Nat.le_refl _) _⟩

def apartv (a b c d : Int) : Int := if (isNear a && isNear b && isNear c && isNear d) = true then (a - c) * (a - c) + (b - d) * (b - d) else 0

end Go.Proofs.Ytafepficapdepaa.tally
