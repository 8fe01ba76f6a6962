/- The bytes of prefixes as lists: written, and read. No program in sight. -/
import Derived.Test.YtaeeeinpelfppaaGreatPfxMath
import Derived.Test.YtaeeeinpelfppaaGreatOctLives
namespace Go.Proofs.YtaeeeinpelfppaaGreat.nlri
open Go.Proofs.YtaeeeinpelfppaaGreat.pfx Go.Proofs.YtaeeeinpelfppaaGreat.octet
set_option linter.unusedVariables false

/-- how many bytes so many bits take -/
def bodyN (n : Nat) : Nat := (n + 7) / 8
theorem bodyN_le (n : Nat) (h : n ≤ 32) : bodyN n ≤ 4 := by unfold bodyN; omega
/-- how many bytes a prefix has -/
def sizeP (p : Nat × Int) : Nat := if goodB p.1 p.2 = true then 1 + bodyN p.2.toNat else 0

/-- the address of the bytes that there are -/
def addr4 (l : List UInt8) : Nat := num ((l ++ [0, 0, 0, 0]).take 4)
theorem addr4_lt (l : List UInt8) : addr4 l < 4294967296 := by
  unfold addr4
  have h1 := num_lt ((l ++ [0, 0, 0, 0]).take 4)
  have h2 : ((l ++ [0, 0, 0, 0]).take 4).length = 4 := by simp
  rw [h2] at h1
  omega

/-- the first prefix of bytes, and those behind it -/
def dec1 : List UInt8 → Option ((Nat × Int) × List UInt8)
  | [] => none
  | c :: t => if c.toNat ≤ 32 ∧ bodyN c.toNat ≤ t.length then some ((cutv (addr4 (t.take (bodyN c.toNat))) c.toNat, (c.toNat : Int)), t.drop (bodyN c.toNat)) else none

theorem dec1_len {l t : List UInt8} {p : Nat × Int} (h : dec1 l = some (p, t)) : t.length < l.length := by
  cases l with
  | nil => cases h
  | cons c u =>
    simp only [dec1] at h
    split at h
    · injection h with h; injection h with _ h; subst h; simp; omega
    · cases h

/-- all prefixes of bytes, with fuel -/
def decF : Nat → List UInt8 → Option (List (Nat × Int))
  | 0, _ => some []
  | f + 1, l => match l with
    | [] => some []
    | c :: t => match dec1 (c :: t) with
      | none => none
      | some (p, t') => (decF f t').map (p :: ·)
theorem decF_more : ∀ (f g : Nat) (l : List UInt8), l.length ≤ f → l.length ≤ g → decF f l = decF g l := by
  intro f
  induction f with
  | zero =>
    intro g l h _
    have : l = [] := List.eq_nil_of_length_eq_zero (by omega)
    subst this
    cases g <;> rfl
  | succ f ih =>
    intro g l h1 h2
    cases l with
    | nil => cases g <;> rfl
    | cons c t =>
      cases g with
      | zero => simp at h2
      | succ g =>
        simp only [decF]
        cases hd : dec1 (c :: t) with
        | none => rfl
        | some q =>
          obtain ⟨p, t'⟩ := q
          have hl := dec1_len hd
          simp only [List.length_cons] at hl h1 h2
          simp only
          rw [ih g t' (by omega) (by omega)]
def dec (l : List UInt8) : Option (List (Nat × Int)) := decF l.length l
theorem dec_nil : dec [] = some [] := rfl
theorem dec_bad {l : List UInt8} (h0 : l ≠ []) (h : dec1 l = none) : dec l = none := by
  cases l with
  | nil => exact absurd rfl h0
  | cons c t => simp only [dec, List.length_cons, decF, h]
theorem dec_ok {l t : List UInt8} {p : Nat × Int} (h : dec1 l = some (p, t)) : dec l = (dec t).map (p :: ·) := by
  cases l with
  | nil => cases h
  | cons c u =>
    have hl := dec1_len h
    simp only [List.length_cons] at hl
    simp only [dec, List.length_cons, decF, h]
    rw [decF_more u.length t.length t (by omega) (Nat.le_refl _)]

theorem dec_len : ∀ (n : Nat) (l : List UInt8), l.length = n → ∀ ps, dec l = some ps → ps.length ≤ l.length := by
  intro n
  induction n using Nat.strongRecOn with
  | _ n ih =>
    intro l hl ps h
    cases hd : dec1 l with
    | none =>
      by_cases h0 : l = []
      · subst h0; rw [dec_nil] at h; injection h with h; subst h; simp
      · rw [dec_bad h0 hd] at h; cases h
    | some q =>
      obtain ⟨p, t⟩ := q
      have hlt := dec1_len hd
      rw [dec_ok hd] at h
      cases ht : dec t with
      | none => rw [ht] at h; cases h
      | some qs =>
        rw [ht] at h
        injection h with h
        subst h
        have := ih t.length (by omega) t rfl qs ht
        simp; omega

/-- a good prefix's bytes -/
def encP (p : Nat × Int) : List UInt8 := octet.byteOf p.2 :: (be4 (p.1 : Int)).take (bodyN p.2.toNat)
def enc (l : List (Nat × Int)) : List UInt8 := l.flatMap encP
theorem enc_app (l r : List (Nat × Int)) : enc (l ++ r) = enc l ++ enc r := by simp [enc]
theorem encP_len (p : Nat × Int) (h : goodB p.1 p.2 = true) : (encP p).length = sizeP p := by
  have hg := (goodB_iff _ _).1 h
  have := bodyN_le p.2.toNat (by omega)
  simp only [encP, sizeP, h, if_true, List.length_cons, List.length_take]
  simp [be4]
  omega
theorem encP_le (p : Nat × Int) : (encP p).length ≤ 5 := by
  simp only [encP, List.length_cons, List.length_take]
  simp [be4]
  omega
theorem enc_le (l : List (Nat × Int)) : (enc l).length ≤ 5 * l.length := by
  induction l with
  | nil => simp [enc]
  | cons p l ih =>
    have := encP_le p
    simp only [enc, List.flatMap_cons, List.length_append, List.length_cons] at ih ⊢
    omega

end Go.Proofs.YtaeeeinpelfppaaGreat.nlri
