/- Exact arithmetic of doubles on small whole numbers and halves: read, write, sums, products, comparisons. No condition beyond the bounds that each lemma states. -/
import Derived.Laws.ComplexArith
namespace Go.Proofs.Ytafepficapdepaa.flt
open Ieee

theorem log2_pow (m a : Nat) (hm : m ≠ 0) (N b : Nat) (hN : N ≠ 0) (h : m * 2 ^ a = N * 2 ^ b) : m.log2 + a = N.log2 + b := by
  have h1 : 2 ^ (m.log2 + a) ≤ m * 2 ^ a := by rw [Nat.pow_add]; exact Nat.mul_le_mul_right _ (Nat.log2_self_le hm)
  have h2 : m * 2 ^ a < 2 ^ (m.log2 + a + 1) := by
    have := (Nat.log2_lt hm).1 (Nat.lt_succ_self m.log2)
    rw [show m.log2 + a + 1 = (m.log2 + 1) + a from by omega, Nat.pow_add]
    exact Nat.mul_lt_mul_of_pos_right this (Nat.two_pow_pos a)
  have h3 : 2 ^ (N.log2 + b) ≤ N * 2 ^ b := by rw [Nat.pow_add]; exact Nat.mul_le_mul_right _ (Nat.log2_self_le hN)
  have h4 : N * 2 ^ b < 2 ^ (N.log2 + b + 1) := by
    have := (Nat.log2_lt hN).1 (Nat.lt_succ_self N.log2)
    rw [show N.log2 + b + 1 = (N.log2 + 1) + b from by omega, Nat.pow_add]
    exact Nat.mul_lt_mul_of_pos_right this (Nat.two_pow_pos b)
  rw [h] at h1 h2
  have e1 := (Nat.pow_lt_pow_iff_right (a := 2) (by omega)).1 (Nat.lt_of_le_of_lt h1 h4)
  have e2 := (Nat.pow_lt_pow_iff_right (a := 2) (by omega)).1 (Nat.lt_of_le_of_lt h3 h2)
  omega

/-- the magnitude that is kept is the whole one where nothing need be dropped -/
theorem cut_exact (neg : Bool) (mag a l K : Nat) (hmag : mag ≠ 0) (h : mag * 2 ^ a = K * 2 ^ l) :
    Toward.even.cut neg (mag <<< ((a : Int) - l).toNat) ((l : Int) - a).toNat = K := by
  have hK : K ≠ 0 := by
    rintro rfl
    have : 0 < mag * 2 ^ a := Nat.mul_pos (by omega) (Nat.two_pow_pos a)
    omega
  by_cases c : l ≤ a
  · have e1 : ((a : Int) - l).toNat = a - l := by omega
    have e2 : ((l : Int) - a).toNat = 0 := by omega
    have e3 : mag * 2 ^ (a - l) = K := by
      have : mag * 2 ^ (a - l) * 2 ^ l = K * 2 ^ l := by rw [Nat.mul_assoc, ← Nat.pow_add, Nat.sub_add_cancel c]; exact h
      exact Nat.eq_of_mul_eq_mul_right (Nat.two_pow_pos l) this
    rw [e1, e2, Nat.shiftLeft_eq, e3]
    simp [Toward.cut, Nat.mod_one]
  · have e1 : ((a : Int) - l).toNat = 0 := by omega
    have e2 : ((l : Int) - a).toNat = l - a := by omega
    have e3 : mag = K * 2 ^ (l - a) := by
      have : mag * 2 ^ a = K * 2 ^ (l - a) * 2 ^ a := by rw [h, Nat.mul_assoc, ← Nat.pow_add, Nat.sub_add_cancel (by omega)]
      exact Nat.eq_of_mul_eq_mul_right (Nat.two_pow_pos a) this
    have hl := log2_pow mag 0 hmag K (l - a) hK (by simpa using e3)
    rw [e1, e2, Nat.shiftLeft_zero]
    have e4 : min (l - a) (mag.log2 + 2) = l - a := by omega
    have e5 : mag / 2 ^ (l - a) = K := by rw [e3]; exact Nat.mul_div_cancel _ (Nat.two_pow_pos _)
    have e6 : mag % 2 ^ (l - a) = 0 := by rw [e3]; exact Nat.mul_mod_left _ _
    have e7 : (1 : Nat) <<< (l - a) = 2 ^ (l - a) := by rw [Nat.shiftLeft_eq, Nat.one_mul]
    simp only [Toward.cut, e4, e7, e5, e6]
    simp

theorem double_binade : double.binade = 4503599627370496 := by decide
theorem double_inf : double.infRung = 9218868437227405312 := by decide
theorem double_sign : double.signWeight = 9223372036854775808 := by decide
theorem double_least : double.leastPlace = -1074 := by decide

theorem read_word (neg : Bool) (rung : Nat) (h : rung < 9218868437227405312) :
    double.read (double.word neg rung) = if rung < 4503599627370496 then .number neg rung (-1074) else .number neg (4503599627370496 + rung % 4503599627370496) (-1074 + (rung / 4503599627370496 - 1 : Nat)) := by
  have e1 : (double.word neg rung) % 9223372036854775808 = rung := by unfold Format.word; rw [double_sign]; split <;> omega
  have e2 : ((double.word neg rung) / 9223372036854775808 % 2 == 1) = neg := by
    unfold Format.word; rw [double_sign]
    cases neg
    · rw [if_neg (by simp)]
      have : rung / 9223372036854775808 % 2 = 0 := by omega
      rw [this]; rfl
    · rw [if_pos rfl]
      have : (9223372036854775808 + rung) / 9223372036854775808 % 2 = 1 := by omega
      rw [this]; rfl
  unfold Format.read
  simp only [double_sign, double_binade, double_inf, double_least, e1, e2]
  rw [if_pos h]

theorem num_eq {s : Bool} {m m' : Nat} {e e' : Int} (h : m = m') (h' : e = e') : Datum.number s m e = .number s m' e' := by rw [h, h']

theorem nearest_exact (neg : Bool) (mag N a b : Nat) (hmag : mag ≠ 0) (hN : N < 9007199254740992) (hb : 1126 ≤ b) (hb2 : b ≤ 3100) (h : mag * 2 ^ a = N * 2 ^ b) :
    ∃ m e : Nat, 1126 ≤ e ∧ e ≤ 3100 ∧ double.read (double.nearest neg mag ((a : Int) - 2200)) = .number neg m ((e : Int) - 2200) ∧ m * 2 ^ e = N * 2 ^ b := by
  have hN0 : N ≠ 0 := by
    rintro rfl
    have : 0 < mag * 2 ^ a := Nat.mul_pos (by omega) (Nat.two_pow_pos a)
    omega
  have hl := log2_pow mag a hmag N b hN0 h
  have hNl : N.log2 < 53 := (Nat.log2_lt hN0).2 hN
  -- the place of the last digit
  obtain ⟨l, hlast⟩ : ∃ l : Nat, max ((a : Int) - 2200 + mag.log2 - 52) (-1074) = (l : Int) - 2200 := ⟨(max ((a : Int) - 2200 + mag.log2 - 52) (-1074) + 2200).toNat, by omega⟩
  have hl1 : 1126 ≤ l := by omega
  have hlb : l ≤ b := by omega
  obtain ⟨K, hK⟩ : ∃ K, K = N * 2 ^ (b - l) := ⟨_, rfl⟩
  have hKl : K * 2 ^ l = N * 2 ^ b := by rw [hK, Nat.mul_assoc, ← Nat.pow_add, Nat.sub_add_cancel hlb]
  have hKm : mag * 2 ^ a = K * 2 ^ l := by rw [hKl, h]
  have hK0 : K ≠ 0 := by rw [hK]; exact Nat.mul_ne_zero hN0 (by have := Nat.two_pow_pos (b - l); omega)
  have hKg := log2_pow mag a hmag K l hK0 hKm
  have hK53 : K < 9007199254740992 := (Nat.log2_lt hK0 (k := 53)).1 (by omega)
  have hK52 : l ≠ 1126 → 4503599627370496 ≤ K := by
    intro hne
    have : 52 = K.log2 := by omega
    have h2 := Nat.log2_self_le hK0
    rw [← this] at h2
    exact h2
  have hcut := cut_exact neg mag a l K hmag hKm
  have hcut' : Toward.even.cut neg (mag <<< ((a : Int) - 2200 - ((l : Int) - 2200)).toNat) ((l : Int) - 2200 - ((a : Int) - 2200)).toNat = K := by
    rw [show (a : Int) - 2200 - ((l : Int) - 2200) = (a : Int) - l from by omega, show (l : Int) - 2200 - ((a : Int) - 2200) = (l : Int) - a from by omega]
    exact hcut
  have hr : double.nearest neg mag ((a : Int) - 2200) = double.word neg ((l - 1126) * 4503599627370496 + K) := by
    unfold Format.nearest
    rw [if_neg hmag]
    have hfb : (double.fractionBits : Int) = 52 := rfl
    simp only [hfb, double_least, double_binade, double_inf, hlast, hcut']
    have e1 : ((l : Int) - 2200 - (-1074)).toNat = l - 1126 := by omega
    rw [e1, Nat.min_eq_left (by omega)]
  rw [hr, read_word neg _ (by omega)]
  by_cases c : l = 1126
  · refine ⟨K, l, by omega, by omega, ?_, hKl⟩
    split
    · exact num_eq (by omega) (by omega)
    · exact num_eq (by omega) (by omega)
  · have hk := hK52 c
    refine ⟨K, l, hl1, by omega, ?_, hKl⟩
    rw [if_neg (by omega)]
    exact num_eq (by omega) (by omega)

/-- the signed magnitude -/
def sg (s : Bool) (m : Nat) : Int := if s then -(m : Int) else m

theorem sg_natAbs (s : Bool) (m : Nat) : (sg s m).natAbs = m := by unfold sg; split <;> omega

/-- the double x is n * 2 ^ (p - 2200); p: the place, moved up by 2200 so that it is a natural number -/
def IsF (x : Nat) (n : Int) (p : Nat) : Prop := ∃ s m e, 1126 ≤ e ∧ e ≤ 3100 ∧ double.read x = .number s m ((e : Nat) - 2200 : Int) ∧ sg s m * 2 ^ e = n * 2 ^ p

theorem IsF.up {x : Nat} {n : Int} {p : Nat} (k : Nat) (h : IsF x (n * 2 ^ k) p) : IsF x n (p + k) := by
  obtain ⟨s, m, e, h1, h1', h2, h3⟩ := h
  exact ⟨s, m, e, h1, h1', h2, by rw [h3, Int.mul_assoc, ← Int.pow_add, Nat.add_comm k p]⟩

theorem IsF.down {x : Nat} {n : Int} {p : Nat} (k : Nat) (h : IsF x n (p + k)) : IsF x (n * 2 ^ k) p := by
  obtain ⟨s, m, e, h1, h1', h2, h3⟩ := h
  exact ⟨s, m, e, h1, h1', h2, by rw [h3, Int.mul_assoc, ← Int.pow_add, Nat.add_comm k p]⟩

/-- writing a number that fits: what is read again is that number. -/
theorem write_exact (neg : Bool) (mag a : Nat) (n : Int) (b : Nat) (hn : n.natAbs < 9007199254740992) (hb : 1126 ≤ b) (hb2 : b ≤ 3100) (h : sg neg mag * 2 ^ a = n * 2 ^ b) :
    IsF (double.nearest neg mag ((a : Int) - 2200)) n b := by
  by_cases hm : mag = 0
  · subst hm
    have hn0 : n = 0 := by
      have : n * 2 ^ b = 0 := by rw [← h]; simp [sg]
      have hp : (0 : Int) < 2 ^ b := Int.pow_pos (by omega)
      rcases Int.mul_eq_zero.1 this with h | h
      · exact h
      · omega
    subst hn0
    obtain ⟨e, he⟩ : ∃ e : Nat, e = 1126 := ⟨_, rfl⟩
    refine ⟨neg, 0, e, by omega, by omega, ?_, by rw [show sg neg 0 = 0 from by cases neg <;> rfl, Int.zero_mul, Int.zero_mul]⟩
    unfold Format.nearest
    rw [if_pos rfl, read_word neg 0 (by omega), if_pos (by omega)]
    exact num_eq rfl (by omega)
  · have habs : mag * 2 ^ a = n.natAbs * 2 ^ b := by
      have := congrArg Int.natAbs h
      rw [Int.natAbs_mul, Int.natAbs_mul, sg_natAbs, Int.natAbs_pow, Int.natAbs_pow] at this
      exact this
    obtain ⟨m, e, h1, h1', h2, h3⟩ := nearest_exact neg mag n.natAbs a b hm hn hb hb2 habs
    refine ⟨neg, m, e, h1, h1', h2, ?_⟩
    have h4 : (m : Int) * 2 ^ e = (n.natAbs : Int) * 2 ^ b := by exact_mod_cast h3
    cases neg
    · simp only [sg] at h ⊢
      rw [if_neg (by simp)] at h ⊢
      rw [h4]
      have : (0 : Int) ≤ n * 2 ^ b := by rw [← h]; exact Int.mul_nonneg (by omega) (Int.le_of_lt (Int.pow_pos (by omega)))
      have hn0 : 0 ≤ n := by
        rcases Int.lt_or_le n 0 with hh | hh
        · have := Int.mul_neg_of_neg_of_pos hh (Int.pow_pos (n := 2) (m := b) (by omega)); omega
        · exact hh
      rw [Int.natAbs_of_nonneg hn0]
    · simp only [sg] at h ⊢
      simp only [if_true] at h ⊢
      rw [Int.neg_mul, h4]
      have : n * 2 ^ b ≤ 0 := by
        rw [← h, Int.neg_mul]
        have : (0 : Int) ≤ (mag : Int) * 2 ^ a := Int.mul_nonneg (by omega) (Int.le_of_lt (Int.pow_pos (by omega)))
        omega
      have hn0 : n ≤ 0 := by
        rcases Int.lt_or_le 0 n with hh | hh
        · have := Int.mul_pos hh (Int.pow_pos (n := 2) (m := b) (by omega)); omega
        · exact hh
      rw [show (n.natAbs : Int) = -n from by omega, Int.neg_mul, Int.neg_neg]

theorem of_int (n : Int) (h : n.natAbs < 9007199254740992) : IsF (floatOfInt .f64 n) n 2200 := by
  refine write_exact (n < 0) n.natAbs 2200 n 2200 h (by omega) (by omega) ?_
  congr 1
  unfold sg
  by_cases c : n < 0
  · rw [if_pos (by simpa using c)]; omega
  · rw [if_neg (by simpa using c)]; omega

theorem sg_xor (s t : Bool) (m n : Nat) : sg (s ^^ t) (m * n) = sg s m * sg t n := by
  cases s <;> cases t <;> simp [sg, Int.neg_mul, Int.mul_neg]

theorem mul_exact {x y : Nat} {n k : Int} {p q : Nat} (hx : IsF x n p) (hy : IsF y k q) (h : (n * k).natAbs < 9007199254740992) (hp : 3326 ≤ p + q) (hp2 : p + q ≤ 5300) :
    ∃ r, floatBits .mul .f64 x y = some r ∧ IsF r (n * k) (p + q - 2200) := by
  obtain ⟨s, m, e, h1, h1', h2, h3⟩ := hx
  obtain ⟨t, l, f, g1, g1', g2, g3⟩ := hy
  refine ⟨double.nearest (s ^^ t) (m * l) ((e : Int) - 2200 + ((f : Int) - 2200)), ?_, ?_⟩
  · show (Format.mul double x y) = _
    unfold Format.mul
    rw [h2, g2]
    rfl
  · obtain ⟨o, ho⟩ : ∃ o : Nat, o = 2200 := ⟨_, rfl⟩
    have : (e : Int) - 2200 + ((f : Int) - 2200) = ((e + f - o : Nat) : Int) - 2200 := by omega
    rw [this, ← ho]
    refine write_exact _ _ _ _ _ h (by omega) (by omega) ?_
    have e1 : sg s m * 2 ^ e * (sg t l * 2 ^ f) = n * 2 ^ p * (k * 2 ^ q) := by rw [h3, g3]
    have e2 : sg (s ^^ t) (m * l) * 2 ^ (e + f - o) * 2 ^ o = n * k * 2 ^ (p + q - o) * 2 ^ o := by
      rw [Int.mul_assoc, ← Int.pow_add, Int.mul_assoc (n * k), ← Int.pow_add, show e + f - o + o = e + f from by omega, show p + q - o + o = p + q from by omega, sg_xor, Int.pow_add, Int.pow_add]
      calc sg s m * sg t l * (2 ^ e * 2 ^ f) = sg s m * 2 ^ e * (sg t l * 2 ^ f) := by ac_rfl
        _ = n * 2 ^ p * (k * 2 ^ q) := e1
        _ = n * k * (2 ^ p * 2 ^ q) := by ac_rfl
    exact Int.eq_of_mul_eq_mul_right (by have : (0 : Int) < 2 ^ o := Int.pow_pos (by omega); omega) e2

theorem signed_eq (s : Bool) (m a : Nat) : signed s m a = sg s m * 2 ^ a := by
  unfold signed sg
  rw [Nat.shiftLeft_eq]
  split <;> simp [Int.neg_mul]

/-- the sum's own datum: sign, magnitude -/
theorem sum_sg (a : Int) (z : Bool) : sg (if a = 0 then z else decide (a < 0)) a.natAbs = a := by
  unfold sg
  by_cases h : a = 0
  · subst h; cases z <;> simp
  · rw [if_neg h]
    by_cases c : a < 0
    · rw [if_pos (by simpa using c)]; omega
    · rw [if_neg (by simpa using c)]; omega

theorem sum_core {s t : Bool} {m l e f : Nat} {n k : Int} {p : Nat} (h3 : sg s m * 2 ^ e = n * 2 ^ p) (g3 : sg t l * 2 ^ f = k * 2 ^ p) (h : (n + k).natAbs < 9007199254740992) (hp : 1126 ≤ p) (hp2 : p ≤ 3100) :
    ∃ d, Datum.sum (.number s m ((e : Int) - 2200)) (.number t l ((f : Int) - 2200)) = some d ∧ IsF (double.write d) (n + k) p := by
  refine ⟨_, rfl, ?_⟩
  obtain ⟨b, hb⟩ : ∃ b : Nat, min ((e : Int) - 2200) ((f : Int) - 2200) = (b : Int) - 2200 := ⟨min e f, by omega⟩
  have hbe : b ≤ e := by omega
  have hbf : b ≤ f := by omega
  simp only [hb]
  rw [show ((e : Int) - 2200 - ((b : Int) - 2200)).toNat = e - b from by omega, show ((f : Int) - 2200 - ((b : Int) - 2200)).toNat = f - b from by omega, signed_eq, signed_eq]
  show IsF (double.nearest _ _ _) _ _
  refine write_exact _ _ _ _ _ h hp hp2 ?_
  rw [sum_sg, Int.add_mul, Int.mul_assoc, Int.mul_assoc, ← Int.pow_add, ← Int.pow_add, show e - b + b = e from by omega, show f - b + b = f from by omega, h3, g3, Int.add_mul]

theorem add_exact {x y : Nat} {n k : Int} {p : Nat} (hx : IsF x n p) (hy : IsF y k p) (h : (n + k).natAbs < 9007199254740992) (hp : 1126 ≤ p) (hp2 : p ≤ 3100) :
    ∃ r, floatBits .add .f64 x y = some r ∧ IsF r (n + k) p := by
  obtain ⟨s, m, e, h1, h1', h2, h3⟩ := hx
  obtain ⟨t, l, f, g1, g1', g2, g3⟩ := hy
  obtain ⟨d, hd, hf⟩ := sum_core h3 g3 h hp hp2
  refine ⟨double.write d, ?_, hf⟩
  show (Format.add double x y) = _
  unfold Format.add
  rw [h2, g2, hd]
  rfl

theorem sg_not (s : Bool) (m : Nat) : sg (!s) m = - sg s m := by cases s <;> simp [sg]

theorem sub_exact {x y : Nat} {n k : Int} {p : Nat} (hx : IsF x n p) (hy : IsF y k p) (h : (n - k).natAbs < 9007199254740992) (hp : 1126 ≤ p) (hp2 : p ≤ 3100) :
    ∃ r, floatBits .sub .f64 x y = some r ∧ IsF r (n - k) p := by
  obtain ⟨s, m, e, h1, h1', h2, h3⟩ := hx
  obtain ⟨t, l, f, g1, g1', g2, g3⟩ := hy
  obtain ⟨d, hd, hf⟩ := sum_core (t := !t) (k := -k) h3 (by rw [sg_not, Int.neg_mul, g3, Int.neg_mul]) (by simpa [Int.sub_eq_add_neg] using h) hp hp2
  refine ⟨double.write d, ?_, by simpa [Int.sub_eq_add_neg] using hf⟩
  show (Format.sub double x y) = _
  unfold Format.sub
  rw [h2, g2]
  show Option.map double.write (Datum.sum (.number s m ((e : Int) - 2200)) (.number (!t) l ((f : Int) - 2200))) = _
  rw [hd]
  rfl

/-- a double that is a whole number, as an int -/
theorem to_int' {x : Nat} {n : Int} (o : Nat) (ho : o = 2200) (hx : IsF x n o) (h1 : -9223372036854775808 ≤ n) (h2 : n ≤ 9223372036854775807) : floatToIntVal .f64 x .i64 = some n := by
  obtain ⟨s, m, e, g1, g1', g2, g3⟩ := hx
  have hd : (FloatKind.f64.decode x) = .number s m ((e : Int) - 2200) := g2
  have hcut : Toward.zero.cut s (m <<< ((e : Int) - 2200).toNat) (-((e : Int) - 2200)).toNat = n.natAbs := by
    have habs : m * 2 ^ e = n.natAbs * 2 ^ o := by
      have := congrArg Int.natAbs g3
      rw [Int.natAbs_mul, Int.natAbs_mul, sg_natAbs, Int.natAbs_pow, Int.natAbs_pow] at this
      exact this
    by_cases c : o ≤ e
    · rw [show ((e : Int) - 2200).toNat = e - o from by omega, show (-((e : Int) - 2200)).toNat = 0 from by omega, Nat.shiftLeft_eq]
      have : m * 2 ^ (e - o) = n.natAbs := by
        have : m * 2 ^ (e - o) * 2 ^ o = n.natAbs * 2 ^ o := by rw [Nat.mul_assoc, ← Nat.pow_add, Nat.sub_add_cancel c]; exact habs
        exact Nat.eq_of_mul_eq_mul_right (Nat.two_pow_pos o) this
      rw [this]
      simp [Toward.cut]
    · rw [show ((e : Int) - 2200).toNat = 0 from by omega, show (-((e : Int) - 2200)).toNat = o - e from by omega, Nat.shiftLeft_zero]
      have e3 : m = n.natAbs * 2 ^ (o - e) := by
        have : m * 2 ^ e = n.natAbs * 2 ^ (o - e) * 2 ^ e := by rw [habs, Nat.mul_assoc, ← Nat.pow_add, Nat.sub_add_cancel (by omega)]
        exact Nat.eq_of_mul_eq_mul_right (Nat.two_pow_pos e) this
      by_cases hz : n.natAbs = 0
      · rw [hz] at e3 ⊢
        rw [e3]
        simp [Toward.cut]
      · have hm0 : m ≠ 0 := by rw [e3]; exact Nat.mul_ne_zero hz (by have := Nat.two_pow_pos (o - e); omega)
        have hl := log2_pow m 0 hm0 n.natAbs (o - e) hz (by simpa using e3)
        have e4 : min (o - e) (m.log2 + 2) = o - e := by omega
        have e5 : m / 2 ^ (o - e) = n.natAbs := by
          conv => lhs; rw [e3]
          exact Nat.mul_div_cancel _ (Nat.two_pow_pos _)
        have e7 : (1 : Nat) <<< (o - e) = 2 ^ (o - e) := by rw [Nat.shiftLeft_eq, Nat.one_mul]
        simp only [Toward.cut, e4, e7, e5]
        simp
  have hs : sg s n.natAbs = n := by
    have hpos : (0 : Int) < 2 ^ o := Int.pow_pos (by omega)
    have hpe : (0 : Int) < 2 ^ e := Int.pow_pos (by omega)
    cases s
    · have : 0 ≤ n := by
        have h0 : (0 : Int) ≤ n * 2 ^ o := by rw [← g3]; simp only [sg]; exact Int.mul_nonneg (by simp) (Int.le_of_lt hpe)
        rcases Int.lt_or_le n 0 with hh | hh
        · have := Int.mul_neg_of_neg_of_pos hh hpos; omega
        · exact hh
      simp only [sg]
      rw [if_neg (by simp)]
      omega
    · have : n ≤ 0 := by
        have h0 : n * 2 ^ o ≤ 0 := by
          rw [← g3]; simp only [sg, if_pos]
          rw [Int.neg_mul]
          have : (0 : Int) ≤ (m : Int) * 2 ^ e := Int.mul_nonneg (by omega) (Int.le_of_lt hpe)
          omega
        rcases Int.lt_or_le 0 n with hh | hh
        · have := Int.mul_pos hh hpos; omega
        · exact hh
      simp only [sg, if_pos]
      omega
  have hi : (FloatKind.f64.decode x).toInt .zero = some n := by
    rw [hd]
    simp only [Datum.toInt, Datum.integral, hcut]
    rw [signed_eq]
    simp [hs]
  unfold floatToIntVal
  rw [hi]
  simp only
  rw [if_pos ⟨h1, h2⟩]

theorem to_int {x : Nat} {n : Int} (hx : IsF x n 2200) (h1 : -9223372036854775808 ≤ n) (h2 : n ≤ 9223372036854775807) : floatToIntVal .f64 x .i64 = some n :=
  to_int' 2200 rfl hx h1 h2

/-- order of two doubles -/
theorem order_exact {x y : Nat} {n k : Int} {p : Nat} (hx : IsF x n p) (hy : IsF y k p) : Format.order double x y = some (compare n k) := by
  obtain ⟨s, m, e, h1, h1', h2, h3⟩ := hx
  obtain ⟨t, l, f, g1, g1', g2, g3⟩ := hy
  unfold Format.order
  rw [h2, g2]
  simp only [Datum.order]
  obtain ⟨b, hb⟩ : ∃ b : Nat, min ((e : Int) - 2200) ((f : Int) - 2200) = (b : Int) - 2200 := ⟨min e f, by omega⟩
  have hbe : b ≤ e := by omega
  have hbf : b ≤ f := by omega
  rw [hb, show ((e : Int) - 2200 - ((b : Int) - 2200)).toNat = e - b from by omega, show ((f : Int) - 2200 - ((b : Int) - 2200)).toNat = f - b from by omega, signed_eq, signed_eq]
  have e1 : sg s m * 2 ^ (e - b) * 2 ^ b = n * 2 ^ p := by rw [Int.mul_assoc, ← Int.pow_add, Nat.sub_add_cancel hbe]; exact h3
  have e2 : sg t l * 2 ^ (f - b) * 2 ^ b = k * 2 ^ p := by rw [Int.mul_assoc, ← Int.pow_add, Nat.sub_add_cancel hbf]; exact g3
  have hb0 : (0 : Int) < 2 ^ b := Int.pow_pos (by omega)
  have hp0 : (0 : Int) < 2 ^ p := Int.pow_pos (by omega)
  generalize sg s m * 2 ^ (e - b) = u at *
  generalize sg t l * 2 ^ (f - b) = v at *
  have hlt : u < v ↔ n < k := by
    rw [← Int.mul_lt_mul_right (a := 2 ^ b) hb0, e1, e2]; exact Int.mul_lt_mul_right hp0
  have heq : u = v ↔ n = k := by
    constructor
    · rintro rfl
      exact Int.eq_of_mul_eq_mul_right (by omega) (e1.symm.trans e2)
    · rintro rfl
      exact Int.eq_of_mul_eq_mul_right (by omega) (e1.trans e2.symm)
  congr 1
  simp only [compare, compareOfLessAndEq, hlt, heq]

/-- a product of two numbers with two parts each -/
theorem cmul_exact {a b c d : Nat} {x y u v : Int} {p q : Nat} (ha : IsF a x p) (hb : IsF b y p) (hc : IsF c u q) (hd : IsF d v q) (hp : 3326 ≤ p + q) (hp2 : p + q ≤ 5300)
    (h1 : (x * u).natAbs < 9007199254740992) (h2 : (y * v).natAbs < 9007199254740992) (h3 : (x * v).natAbs < 9007199254740992) (h4 : (y * u).natAbs < 9007199254740992)
    (h5 : (x * u - y * v).natAbs < 9007199254740992) (h6 : (x * v + y * u).natAbs < 9007199254740992) :
    ∃ re im, cMulBits a b c d = some (re, im) ∧ IsF re (x * u - y * v) (p + q - 2200) ∧ IsF im (x * v + y * u) (p + q - 2200) := by
  obtain ⟨r1, e1, f1⟩ := mul_exact ha hc h1 hp hp2
  obtain ⟨r2, e2, f2⟩ := mul_exact hb hd h2 hp hp2
  obtain ⟨r3, e3, f3⟩ := mul_exact ha hd h3 hp hp2
  obtain ⟨r4, e4, f4⟩ := mul_exact hb hc h4 hp hp2
  obtain ⟨re, e5, f5⟩ := sub_exact f1 f2 h5 (by omega) (by omega)
  obtain ⟨im, e6, f6⟩ := add_exact f3 f4 h6 (by omega) (by omega)
  exact ⟨re, im, by simp [cMulBits, e1, e2, e3, e4, e5, e6], f5, f6⟩

theorem csum_exact {a b c d : Nat} {x y u v : Int} (ha : IsF a x 2200) (hb : IsF b y 2200) (hc : IsF c u 2200) (hd : IsF d v 2200) (h1 : (x + u).natAbs < 9007199254740992) (h2 : (y + v).natAbs < 9007199254740992) :
    ∃ re im, cSumBits .add .f64 a b c d = some (re, im) ∧ IsF re (x + u) 2200 ∧ IsF im (y + v) 2200 := by
  obtain ⟨re, e5, f5⟩ := add_exact ha hc h1 (by omega) (by omega)
  obtain ⟨im, e6, f6⟩ := add_exact hb hd h2 (by omega) (by omega)
  exact ⟨re, im, by simp [cSumBits, e5, e6], f5, f6⟩

theorem cdiff_exact {a b c d : Nat} {x y u v : Int} (ha : IsF a x 2200) (hb : IsF b y 2200) (hc : IsF c u 2200) (hd : IsF d v 2200) (h1 : (x - u).natAbs < 9007199254740992) (h2 : (y - v).natAbs < 9007199254740992) :
    ∃ re im, cSumBits .sub .f64 a b c d = some (re, im) ∧ IsF re (x - u) 2200 ∧ IsF im (y - v) 2200 := by
  obtain ⟨re, e5, f5⟩ := sub_exact ha hc h1 (by omega) (by omega)
  obtain ⟨im, e6, f6⟩ := sub_exact hb hd h2 (by omega) (by omega)
  exact ⟨re, im, by simp [cSumBits, e5, e6], f5, f6⟩

theorem isF_zero : IsF 0 0 2200 := by
  obtain ⟨e, he⟩ : ∃ e : Nat, e = 1126 := ⟨_, rfl⟩
  refine ⟨false, 0, e, by omega, by omega, ?_, by rw [show sg false 0 = 0 from rfl, Int.zero_mul, Int.zero_mul]⟩
  rw [he]; rfl

end Go.Proofs.Ytafepficapdepaa.flt
