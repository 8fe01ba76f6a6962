/- Keys and addresses: the address of a key, the key of an address; covering, order, common part by numbers. Plain Lean; no program. -/
import Derived.Test.YtpabblkppbfbjaaDoorTrieMath2
import Derived.Test.YtpabblkppbfbjaaDoorPfxMath
namespace Go.Proofs.YtpabblkppbfbjaaDoor.tri
open Go.Proofs.YtpabblkppbfbjaaDoor.pfx
set_option linter.unusedVariables false

def num (k : Key) : Nat := k.foldl (fun n b => 2 * n + if b = true then 1 else 0) 0
/-- a key's address -/
def adr (k : Key) : Nat := num k * 2 ^ (32 - k.length)
/-- the first n bits of an address -/
def bitsOf (a n : Nat) : Key := (List.range n).map fun i => decide (a / 2 ^ (31 - i) % 2 = 1)
theorem bitsOf_len (a n : Nat) : (bitsOf a n).length = n := by simp [bitsOf]
theorem num_from : ∀ (k : Key) (s : Nat), k.foldl (fun n b => 2 * n + if b = true then 1 else 0) s = s * 2 ^ k.length + num k
  | [], s => by simp [num]
  | b :: k, s => by
    have h1 := num_from k (2 * s + if b = true then 1 else 0)
    have h2 := num_from k (2 * 0 + if b = true then 1 else 0)
    unfold num at h1 h2 ⊢
    rw [List.foldl_cons, h1, List.foldl_cons, h2, List.length_cons, Nat.pow_succ, Nat.add_mul, Nat.add_mul]
    have : 2 * s * 2 ^ k.length = s * (2 ^ k.length * 2) := by rw [Nat.mul_comm 2 s, Nat.mul_assoc, Nat.mul_comm 2]
    omega
theorem num_app (x y : Key) : num (x ++ y) = num x * 2 ^ y.length + num y := by
  unfold num; rw [List.foldl_append, num_from]; rfl
theorem num_one (b : Bool) : num [b] = if b = true then 1 else 0 := by cases b <;> rfl
theorem num_lt (k : Key) : num k < 2 ^ k.length := by
  induction k with
  | nil => simp [num]
  | cons b k ih =>
    rw [show b :: k = [b] ++ k from rfl, num_app, num_one, List.length_append, List.length_singleton, Nat.pow_add]
    have := Nat.two_pow_pos k.length
    cases b <;> simp <;> omega
theorem num_inj : ∀ {x y : Key}, x.length = y.length → num x = num y → x = y
  | [], [], _, _ => rfl
  | [], _ :: _, h, _ => by simp at h
  | _ :: _, [], h, _ => by simp at h
  | a :: x, b :: y, h, e => by
    have hl : x.length = y.length := by simpa using h
    rw [show a :: x = [a] ++ x from rfl, show b :: y = [b] ++ y from rfl, num_app, num_app, num_one, num_one, hl] at e
    have h1 := num_lt x
    have h2 := num_lt y
    rw [hl] at h1
    have hab : a = b := by cases a <;> cases b <;> simp at e ⊢ <;> omega
    subst hab
    rw [num_inj hl (by omega)]
theorem num_bits (a : Nat) (ha : a < 4294967296) : ∀ n, n ≤ 32 → num (bitsOf a n) = a / 2 ^ (32 - n)
  | 0, _ => by
    have : a / 2 ^ (32 - 0) = 0 := Nat.div_eq_of_lt (by simpa using ha)
    rw [this]; rfl
  | n + 1, h => by
    have ih := num_bits a ha n (by omega)
    have e : bitsOf a (n + 1) = bitsOf a n ++ [decide (a / 2 ^ (31 - n) % 2 = 1)] := by simp [bitsOf, List.range_succ]
    rw [e, num_app, ih, num_one, List.length_singleton]
    have h1 : 32 - n = (31 - n) + 1 := by omega
    have h2 : 32 - (n + 1) = 31 - n := by omega
    rw [h1, h2, Nat.pow_succ, ← Nat.div_div_eq_div_mul]
    generalize a / 2 ^ (31 - n) = q
    have hm := Nat.mod_lt q (show 2 > 0 by omega)
    split <;> rename_i hh <;> simp at hh <;> omega
theorem adr_bits (a : Nat) (ha : a < 4294967296) (n : Nat) (hn : n ≤ 32) : adr (bitsOf a n) = cutv a n := by
  unfold adr; rw [num_bits a ha n hn, bitsOf_len, cutv]
theorem adr_lt {k : Key} (h : k.length ≤ 32) : adr k < 4294967296 := by
  unfold adr
  have h1 := num_lt k
  have h2 : 2 ^ k.length * 2 ^ (32 - k.length) = 4294967296 := by rw [← Nat.pow_add, show k.length + (32 - k.length) = 32 from by omega]
  have h3 := Nat.mul_lt_mul_of_pos_right h1 (Nat.two_pow_pos (32 - k.length))
  omega
theorem adr_div {k : Key} : adr k / 2 ^ (32 - k.length) = num k := by
  unfold adr; exact Nat.mul_div_cancel _ (Nat.two_pow_pos _)
theorem bits_adr {k : Key} (h : k.length ≤ 32) : bitsOf (adr k) k.length = k :=
  num_inj (bitsOf_len _ _) (by rw [num_bits _ (adr_lt h) _ h, adr_div])
theorem adr_inj {x y : Key} (h : x.length = y.length) (e : adr x = adr y) : x = y :=
  num_inj h (by have a := @adr_div x; have b := @adr_div y; rw [e, h] at a; rw [a] at b; exact b)
theorem good_adr {k : Key} (h : k.length ≤ 32) : goodB (adr k) (k.length : Int) = true := by
  rw [goodB_iff]
  refine ⟨by omega, by omega, ?_⟩
  rw [Int.toNat_natCast]
  unfold adr
  exact Nat.mul_mod_left _ _
theorem good_bits {a : Nat} {n : Int} (ha : a < 4294967296) (h : goodB a n = true) : adr (bitsOf a n.toNat) = a ∧ ((bitsOf a n.toNat).length : Int) = n ∧ (bitsOf a n.toNat).length ≤ 32 := by
  rw [goodB_iff] at h
  refine ⟨?_, by rw [bitsOf_len]; omega, by rw [bitsOf_len]; omega⟩
  rw [adr_bits a ha _ (by omega), cutv_eq]
  exact h.2.2
theorem bits_take (a : Nat) {m n : Nat} (h : m ≤ n) : (bitsOf a n).take m = bitsOf a m := by
  unfold bitsOf; rw [← List.map_take, List.take_range, Nat.min_eq_left h]
theorem bits_at (a n i : Nat) (h : i < n) : (bitsOf a n).getD i false = decide (a / 2 ^ (31 - i) % 2 = 1) := by
  simp [bitsOf, List.getD, h]
/-- covering, by numbers -/
theorem pre_iff {k : Key} {b m : Nat} (hb : b < 4294967296) (hk : k.length ≤ 32) : (k.length ≤ m ∧ cutv b k.length = adr k) ↔ k <+: bitsOf b m := by
  constructor
  · rintro ⟨h1, h2⟩
    rw [← adr_bits b hb _ hk] at h2
    rw [List.prefix_iff_eq_take, bits_take b h1]
    exact (adr_inj (bitsOf_len _ _) h2).symm
  · intro h
    have hl := h.length_le
    rw [bitsOf_len] at hl
    refine ⟨hl, ?_⟩
    rw [List.prefix_iff_eq_take, bits_take b hl] at h
    rw [← adr_bits b hb _ hk, ← h]
/-- order, by numbers -/
theorem adr_lo {c x : Key} (h : c <+: x) (hx : x.length ≤ 32) : num c * 2 ^ (32 - c.length) ≤ adr x ∧ adr x < (num c + 1) * 2 ^ (32 - c.length) := by
  obtain ⟨t, rfl⟩ := h
  have ht := num_lt t
  rw [List.length_append] at hx
  have e : 2 ^ (32 - c.length) = 2 ^ t.length * 2 ^ (32 - (c.length + t.length)) := by rw [← Nat.pow_add]; congr 1; omega
  unfold adr
  rw [num_app, List.length_append, e, ← Nat.mul_assoc, ← Nat.mul_assoc, Nat.add_mul (num c) 1]
  have hp := Nat.two_pow_pos (32 - (c.length + t.length))
  exact ⟨Nat.mul_le_mul_right _ (by omega), Nat.mul_lt_mul_of_pos_right (by omega) hp⟩
theorem lt_num {x y : Key} (hx : x.length ≤ 32) (hy : y.length ≤ 32) (h : lt x y = true) : adr x < adr y ∨ (adr x = adr y ∧ x.length < y.length) := by
  by_cases h1 : x <+: y
  · have hl := h1.length_le
    have hne : x.length ≠ y.length := fun e => by rw [h1.eq_of_length e, lt_irr] at h; cases h
    have := (adr_lo h1 hy).1
    unfold adr at this ⊢
    omega
  · by_cases h2 : y <+: x
    · have := lt_pre h2 (fun e => h1 (e ▸ List.prefix_refl y))
      rw [lt_asymm h] at this; cases this
    · obtain ⟨p1, p2, p3⟩ := lcp_part h1 h2
      have a := pre_side (lcp_left x y) p1
      have b := pre_side (lcp_right x y) p2
      rcases hs : side (lcp x y) x with _ | _
      · rw [hs] at a p3
        rw [show side (lcp x y) y = true by simpa using p3.symm] at b
        have ha := (adr_lo a hx).2
        have hb := (adr_lo b hy).1
        rw [num_app, num_one, List.length_append] at ha hb
        simp at ha hb
        omega
      · rw [hs] at a p3
        rw [show side (lcp x y) y = false by simpa using p3.symm] at b
        have := lt_half b a
        rw [lt_asymm h] at this; cases this
theorem lt_iff {x y : Key} (hx : x.length ≤ 32) (hy : y.length ≤ 32) : lt x y = true ↔ (adr x < adr y ∨ (adr x = adr y ∧ x.length < y.length)) := by
  refine ⟨lt_num hx hy, fun h => ?_⟩
  rcases lt_tri x y with e | e | e
  · exact e
  · subst e; omega
  · have := lt_num hy hx e; omega
theorem key_eq {x y : Key} : x = y ↔ (adr x = adr y ∧ x.length = y.length) := ⟨fun e => by subst e; exact ⟨rfl, rfl⟩, fun h => adr_inj h.2 h.1⟩
/-- the common part -/
theorem lcp_char {c x y : Key} (hx : c <+: x) (hy : c <+: y) (h : c = x ∨ c = y ∨ side c x ≠ side c y) : lcp x y = c := by
  have h1 := lcp_max hx hy
  by_cases e : c = lcp x y
  · exact e.symm
  · have h2 := pre_side h1 e
    rcases h with rfl | rfl | h
    · have := h2.trans (lcp_left _ _); have := this.length_le; rw [List.length_append, List.length_singleton] at this; omega
    · have := h2.trans (lcp_right _ _); have := this.length_le; rw [List.length_append, List.length_singleton] at this; omega
    · rw [side_of (h2.trans (lcp_left _ _)), side_of (h2.trans (lcp_right _ _))] at h
      exact absurd rfl h
theorem xor_div (a b j : Nat) : (a ^^^ b) / 2 ^ j = a / 2 ^ j ^^^ b / 2 ^ j := by
  rw [← Nat.shiftRight_eq_div_pow, ← Nat.shiftRight_eq_div_pow, ← Nat.shiftRight_eq_div_pow, Nat.shiftRight_xor_distrib]
theorem xor_zero {a b : Nat} : a ^^^ b = 0 ↔ a = b := by
  constructor
  · intro h
    apply Nat.eq_of_testBit_eq
    intro i
    have := congrArg (fun n => n.testBit i) h
    simp [Nat.testBit_xor] at this
    exact this
  · rintro rfl; exact Nat.xor_self a
/-- z is how many of the highest 32 bits of x are none -/
def Lz (x z : Nat) : Prop := z ≤ 32 ∧ x < 2 ^ (32 - z) ∧ (z < 32 → 2 ^ (31 - z) ≤ x)
theorem common_key {a b n m z : Nat} (ha : a < 4294967296) (hb : b < 4294967296) (hn : n ≤ 32) (hm : m ≤ 32) (hz : Lz (a ^^^ b) z) : lcp (bitsOf a n) (bitsOf b m) = bitsOf a (min z (min n m)) := by
  obtain ⟨z1, z2, z3⟩ := hz
  have heq : a / 2 ^ (32 - z) = b / 2 ^ (32 - z) := by
    have := xor_div a b (32 - z)
    rw [Nat.div_eq_of_lt z2] at this
    exact xor_zero.1 this.symm
  have hzz : bitsOf a z = bitsOf b z := num_inj (by rw [bitsOf_len, bitsOf_len]) (by rw [num_bits a ha z z1, num_bits b hb z z1, heq])
  have hmin : bitsOf a (min z (min n m)) = bitsOf b (min z (min n m)) := by
    rw [← bits_take a (Nat.min_le_left z _), ← bits_take b (Nat.min_le_left z _), hzz]
  refine lcp_char ?_ ?_ ?_
  · rw [← bits_take a (show min z (min n m) ≤ n by omega)]; exact List.take_prefix _ _
  · rw [hmin, ← bits_take b (show min z (min n m) ≤ m by omega)]; exact List.take_prefix _ _
  · by_cases h1 : min z (min n m) = n
    · rw [h1]; exact .inl rfl
    · by_cases h2 : min z (min n m) = m
      · rw [hmin, h2]; exact .inr (.inl rfl)
      · have h3 : min z (min n m) = z := by omega
        rw [h3]
        refine .inr (.inr ?_)
        unfold side
        rw [bitsOf_len, bits_at a n z (by omega), bits_at b m z (by omega)]
        intro e
        have hlt : z < 32 := by omega
        have h4 := z3 hlt
        have hda : a / 2 ^ (31 - z) = b / 2 ^ (31 - z) := by
          have ea : a / 2 ^ (31 - z) / 2 = b / 2 ^ (31 - z) / 2 := by
            rw [Nat.div_div_eq_div_mul, Nat.div_div_eq_div_mul, ← Nat.pow_succ, show (31 - z).succ = 32 - z from by omega]; exact heq
          have h5 := Nat.mod_lt (a / 2 ^ (31 - z)) (show 2 > 0 by omega)
          have h6 := Nat.mod_lt (b / 2 ^ (31 - z)) (show 2 > 0 by omega)
          rw [decide_eq_decide] at e
          omega
        have h7 := xor_div a b (31 - z)
        rw [hda, Nat.xor_self] at h7
        have h8 := (Nat.div_eq_zero_iff).1 h7
        have := Nat.two_pow_pos (31 - z)
        omega
end Go.Proofs.YtpabblkppbfbjaaDoor.tri
