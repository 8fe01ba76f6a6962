/- The bytes of prefixes as lists: written, and read. No program in sight. -/
import Derived.Test.YtaeeeinpelfppaaGreatPfxMath
import Derived.Test.YtaeeeinpelfppaaGreatOctLives
namespace Go.Proofs.YtaeeeinpelfppaaGreat.nlri
open Go.Proofs.YtaeeeinpelfppaaGreat.pfx Go.Proofs.YtaeeeinpelfppaaGreat.octet
set_option linter.unusedVariables false

/-- how many bytes so many bits take -/
def bodyN (n : Nat) : Nat := (n + 7) / 8
theorem bodyN_le (n : Nat) (h : n ≤ 32) : bodyN n ≤ 4 := by unfold bodyN; omega
/-- how many bytes a prefix has -/
def sizeP (p : Nat × Int) : Nat := if goodB p.1 p.2 = true then 1 + bodyN p.2.toNat else 0

/-- the address of the bytes that there are -/
def addr4 (l : List UInt8) : Nat := num ((l ++ [0, 0, 0, 0]).take 4)
theorem addr4_lt (l : List UInt8) : addr4 l < 4294967296 := by
  unfold addr4
  have h1 := num_lt ((l ++ [0, 0, 0, 0]).take 4)
  have h2 : ((l ++ [0, 0, 0, 0]).take 4).length = 4 := by simp
  rw [h2] at h1
  omega

/-- the first prefix of bytes, and those behind it -/
def dec1 : List UInt8 → Option ((Nat × Int) × List UInt8)
  | [] => none
  | c :: t => if c.toNat ≤ 32 ∧ bodyN c.toNat ≤ t.length then some ((cutv (addr4 (t.take (bodyN c.toNat))) c.toNat, (c.toNat : Int)), t.drop (bodyN c.toNat)) else none

theorem dec1_len {l t : List UInt8} {p : Nat × Int} (h : dec1 l = some (p, t)) : t.length < l.length := by
  cases l with
  | nil => cases h
  | cons c u =>
    simp only [dec1] at h
    split at h
    · injection h with h; injection h with _ h; subst h; simp; omega
    · cases h

/-- all prefixes of bytes, with fuel -/
def decF : Nat → List UInt8 → Option (List (Nat × Int))
  | 0, _ => some []
  | f + 1, l => match l with
    | [] => some []
    | c :: t => match dec1 (c :: t) with
      | none => none
      | some (p, t') => (decF f t').map (p :: ·)
theorem decF_more : ∀ (f g : Nat) (l : List UInt8), l.length ≤ f → l.length ≤ g → decF f l = decF g l := by
  intro f
  induction f with
  | zero =>
    intro g l h _
    have : l = [] := List.eq_nil_of_length_eq_zero (by omega)
    subst this
    cases g <;> rfl
  | succ f ih =>
    intro g l h1 h2
    cases l with
    | nil => cases g <;> rfl
    | cons c t =>
      cases g with
      | zero => simp at h2
      | succ g =>
        simp only [decF]
        cases hd : dec1 (c :: t) with
        | none => rfl
        | some q =>
          obtain ⟨p, t'⟩ := q
          have hl := dec1_len hd
          simp only [List.length_cons] at hl h1 h2
          simp only
          rw [ih g t' (by omega) (by omega)]
def dec (l : List UInt8) : Option (List (Nat × Int)) := decF l.length l
theorem dec_nil : dec [] = some [] := rfl
theorem dec_bad {l : List UInt8} (h0 : l ≠ []) (h : dec1 l = none) : dec l = none := by
  cases l with
  | nil => exact absurd rfl h0
  | cons c t => simp only [dec, List.length_cons, decF, h]
theorem dec_ok {l t : List UInt8} {p : Nat × Int} (h : dec1 l = some (p, t)) : dec l = (dec t).map (p :: ·) := by
  cases l with
  | nil => cases h
  | cons c u =>
    have hl := dec1_len h
    simp only [List.length_cons] at hl
    simp only [dec, List.length_cons, decF, h]
    rw [decF_more u.length t.length t (by omega) (Nat.le_refl _)]

/-- a good prefix's bytes -/
def encP (p : Nat × Int) : List UInt8 := octet.byteOf p.2 :: (be4 (p.1 : Int)).take (bodyN p.2.toNat)
def enc (l : List (Nat × Int)) : List UInt8 := l.flatMap encP
theorem enc_app (l r : List (Nat × Int)) : enc (l ++ r) = enc l ++ enc r := by simp [enc]
theorem encP_len (p : Nat × Int) (h : goodB p.1 p.2 = true) : (encP p).length = sizeP p := by
  have hg := (goodB_iff _ _).1 h
  have := bodyN_le p.2.toNat (by omega)
  simp only [encP, sizeP, h, if_true, List.length_cons, List.length_take]
  simp [be4]
  omega
theorem encP_le (p : Nat × Int) : (encP p).length ≤ 5 := by
  simp only [encP, List.length_cons, List.length_take]
  simp [be4]
  omega
theorem enc_le (l : List (Nat × Int)) : (enc l).length ≤ 5 * l.length := by
  induction l with
  | nil => simp [enc]
  | cons p l ih =>
    have := encP_le p
    simp only [enc, List.flatMap_cons, List.length_append, List.length_cons] at ih ⊢
    omega

theorem num4 (a b c d : UInt8) : num [a, b, c, d] = ((a.toNat * 256 + b.toNat) * 256 + c.toNat) * 256 + d.toNat := by simp [num]

theorem byteOf_lo (a : Nat) : (octet.byteOf (a : Int)).toNat = a % 256 := by have := byteOf_nat (a : Int); omega

/-- what is left of an address whose last bytes are not written -/
theorem addr4_take (a k : Nat) (ha : a < 4294967296) (hk : k ≤ 4) : addr4 ((be4 (a : Int)).take k) = a / 2 ^ (8 * (4 - k)) * 2 ^ (8 * (4 - k)) := by
  have e1 := byteOf_nat ((a : Int) / 16777216)
  have e2 := byteOf_nat ((a : Int) / 65536)
  have e3 := byteOf_nat ((a : Int) / 256)
  have e4 := byteOf_nat (a : Int)
  unfold addr4 be4
  obtain rfl | rfl | rfl | rfl | rfl : k = 0 ∨ k = 1 ∨ k = 2 ∨ k = 3 ∨ k = 4 := by omega
  all_goals simp only [List.take_succ_cons, List.take_zero, List.cons_append, List.nil_append, num4, Nat.sub_self, Nat.reduceSub, Nat.reduceMul, Nat.reducePow]
  all_goals simp
  all_goals omega

theorem cutv_good (a n : Nat) (hn : n ≤ 32) (ha : a < 4294967296) (h : a % 2 ^ (32 - n) = 0) : cutv (addr4 ((be4 (a : Int)).take (bodyN n))) n = a := by
  rw [addr4_take a _ ha (bodyN_le n hn)]
  have hb : 8 * (4 - bodyN n) ≤ 32 - n := by unfold bodyN; omega
  have e : a / 2 ^ (8 * (4 - bodyN n)) * 2 ^ (8 * (4 - bodyN n)) = a := by
    refine Nat.div_mul_cancel ?_
    exact Nat.dvd_trans (Nat.pow_dvd_pow 2 hb) (Nat.dvd_of_mod_eq_zero h)
  rw [e, (cutv_eq a n).2 h]

theorem dec1_enc (p : Nat × Int) (t : List UInt8) (ha : p.1 < 4294967296) (h : goodB p.1 p.2 = true) : dec1 (encP p ++ t) = some (p, t) := by
  obtain ⟨a, n⟩ := p
  obtain ⟨h0, h1, h2⟩ := (goodB_iff _ _).1 h
  obtain ⟨k, rfl⟩ := Int.eq_ofNat_of_zero_le h0
  simp only [Int.toNat_natCast] at h1 h2 ha ⊢
  have hk : k ≤ 32 := by omega
  have hb := bodyN_le k hk
  have e1 : (octet.byteOf (k : Int)).toNat = k := by rw [byteOf_lo]; omega
  have e2 : ((be4 (a : Int)).take (bodyN k)).length = bodyN k := by simp [be4]; omega
  simp only [encP, Int.toNat_natCast, List.cons_append, dec1, e1]
  rw [if_pos ⟨hk, by rw [List.length_append, e2]; omega⟩]
  have e3 : (List.take (bodyN k) (be4 (a : Int)) ++ t).take (bodyN k) = (be4 (a : Int)).take (bodyN k) := by
    rw [List.take_append_of_le_length (by omega), List.take_of_length_le (by omega)]
  have e4 : (List.take (bodyN k) (be4 (a : Int)) ++ t).drop (bodyN k) = t := by
    rw [List.drop_append_of_le_length (by omega), List.drop_of_length_le (by omega), List.nil_append]
  rw [e3, e4, cutv_good a k hk ha h2]

theorem dec_enc (l : List (Nat × Int)) (h : ∀ p ∈ l, p.1 < 4294967296 ∧ goodB p.1 p.2 = true) : dec (enc l) = some l := by
  induction l with
  | nil => rfl
  | cons p l ih =>
    obtain ⟨h1, h2⟩ := h p (by simp)
    have hd := dec1_enc p (enc l) h1 h2
    have e : enc (p :: l) = encP p ++ enc l := by simp [enc]
    rw [e, dec_ok hd, ih fun q hq => h q (by simp [hq])]
    rfl

end Go.Proofs.YtaeeeinpelfppaaGreat.nlri
