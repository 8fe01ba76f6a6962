/- Which Open bytes are, as lists. No program in sight. -/
import Derived.Test.YtajilbapjpfloaaReader2
namespace Go.Proofs.Ytajilbapjpfloaa.openk
open Go.Proofs.Ytajilbapjpfloaa.octet
set_option linter.unusedVariables false

/-- a capability list: the number and whether it has four bytes; none: it may not be -/
def caps : Nat → List UInt8 → Nat × Bool → Option (Nat × Bool)
  | 0, _, _ => none
  | f + 1, l, s => match l with
    | [] => some s
    | [_] => none
    | c :: n :: t => if n.toNat ≤ t.length then
        (if c.toNat = 65 then (if n.toNat = 4 ∧ num (t.take n.toNat) ≠ 0 then caps f (t.drop n.toNat) (num (t.take n.toNat), true) else none)
          else caps f (t.drop n.toNat) s)
      else none
def capAll (l : List UInt8) (s : Nat × Bool) : Option (Nat × Bool) := caps (l.length + 1) l s
theorem caps_more : ∀ (f g : Nat) (l : List UInt8) (s : Nat × Bool), l.length < f → l.length < g → caps f l s = caps g l s := by
  intro f
  induction f with
  | zero => intro g l s h _; omega
  | succ f ih =>
    intro g l s h1 h2
    cases g with
    | zero => omega
    | succ g =>
      match l with
      | [] => rfl
      | [_] => rfl
      | c :: n :: t =>
        simp only [List.length_cons] at h1 h2
        simp only [caps]
        have e : (t.drop n.toNat).length ≤ t.length := by simp
        rw [ih g (t.drop n.toNat) s (by omega) (by omega), ih g (t.drop n.toNat) _ (by omega) (by omega)]
theorem capAll_nil (s : Nat × Bool) : capAll [] s = some s := rfl
theorem capAll_one (c : UInt8) (s : Nat × Bool) : capAll [c] s = none := rfl
theorem capAll_short (c n : UInt8) (t : List UInt8) (s : Nat × Bool) (h : t.length < n.toNat) : capAll (c :: n :: t) s = none := by
  simp only [capAll, List.length_cons, caps]
  rw [if_neg (by omega)]
theorem capAll_skip (c n : UInt8) (t : List UInt8) (s : Nat × Bool) (h : n.toNat ≤ t.length) (hc : c.toNat ≠ 65) : capAll (c :: n :: t) s = capAll (t.drop n.toNat) s := by
  simp only [capAll, List.length_cons, caps]
  rw [if_pos h, if_neg hc]
  exact caps_more (t.length + 1 + 1) ((t.drop n.toNat).length + 1) (t.drop n.toNat) _ (by simp; omega) (by omega)
theorem capAll_four (c n : UInt8) (t : List UInt8) (s : Nat × Bool) (h : n.toNat ≤ t.length) (hc : c.toNat = 65) (hn : n.toNat = 4) (h0 : num (t.take n.toNat) ≠ 0) : capAll (c :: n :: t) s = capAll (t.drop n.toNat) (num (t.take n.toNat), true) := by
  simp only [capAll, List.length_cons, caps]
  rw [if_pos h, if_pos hc, if_pos ⟨hn, h0⟩]
  exact caps_more (t.length + 1 + 1) ((t.drop n.toNat).length + 1) (t.drop n.toNat) _ (by simp; omega) (by omega)
theorem capAll_bad (c n : UInt8) (t : List UInt8) (s : Nat × Bool) (h : n.toNat ≤ t.length) (hc : c.toNat = 65) (hn : ¬ (n.toNat = 4 ∧ num (t.take n.toNat) ≠ 0)) : capAll (c :: n :: t) s = none := by
  simp only [capAll, List.length_cons, caps]
  rw [if_pos h, if_pos hc, if_neg hn]

/-- parameters: what they come to, or the subcode that is told -/
def pars : Nat → List UInt8 → Nat × Bool → (Nat × Bool) ⊕ Int
  | 0, _, _ => .inr 0
  | f + 1, l, s => match l with
    | [] => .inl s
    | [_] => .inr 0
    | k :: n :: t => if n.toNat ≤ t.length then
        (if k.toNat = 2 then (match capAll (t.take n.toNat) s with
          | some s' => pars f (t.drop n.toNat) s'
          | none => .inr 0)
        else .inr 4)
      else .inr 0
def parAll (l : List UInt8) (s : Nat × Bool) : (Nat × Bool) ⊕ Int := pars (l.length + 1) l s
theorem pars_more : ∀ (f g : Nat) (l : List UInt8) (s : Nat × Bool), l.length < f → l.length < g → pars f l s = pars g l s := by
  intro f
  induction f with
  | zero => intro g l s h _; omega
  | succ f ih =>
    intro g l s h1 h2
    cases g with
    | zero => omega
    | succ g =>
      match l with
      | [] => rfl
      | [_] => rfl
      | c :: n :: t =>
        simp only [List.length_cons] at h1 h2
        simp only [pars]
        have e : (t.drop n.toNat).length ≤ t.length := by simp
        cases capAll (t.take n.toNat) s with
        | none => rfl
        | some s' => simp only; rw [ih g (t.drop n.toNat) s' (by omega) (by omega)]
theorem parAll_nil (s : Nat × Bool) : parAll [] s = .inl s := rfl
theorem parAll_one (c : UInt8) (s : Nat × Bool) : parAll [c] s = .inr 0 := rfl
theorem parAll_short (c n : UInt8) (t : List UInt8) (s : Nat × Bool) (h : t.length < n.toNat) : parAll (c :: n :: t) s = .inr 0 := by
  simp only [parAll, List.length_cons, pars]
  rw [if_neg (by omega)]
theorem parAll_kind (c n : UInt8) (t : List UInt8) (s : Nat × Bool) (h : n.toNat ≤ t.length) (hc : c.toNat ≠ 2) : parAll (c :: n :: t) s = .inr 4 := by
  simp only [parAll, List.length_cons, pars]
  rw [if_pos h, if_neg hc]
theorem parAll_cap (c n : UInt8) (t : List UInt8) (s : Nat × Bool) (h : n.toNat ≤ t.length) (hc : c.toNat = 2) (hcap : capAll (t.take n.toNat) s = none) : parAll (c :: n :: t) s = .inr 0 := by
  simp only [parAll, List.length_cons, pars]
  rw [if_pos h, if_pos hc, hcap]
theorem parAll_next (c n : UInt8) (t : List UInt8) (s s' : Nat × Bool) (h : n.toNat ≤ t.length) (hc : c.toNat = 2) (hcap : capAll (t.take n.toNat) s = some s') : parAll (c :: n :: t) s = parAll (t.drop n.toNat) s' := by
  simp only [parAll, List.length_cons, pars]
  rw [if_pos h, if_pos hc, hcap]
  exact pars_more (t.length + 1 + 1) ((t.drop n.toNat).length + 1) (t.drop n.toNat) _ (by simp; omega) (by omega)

end Go.Proofs.Ytajilbapjpfloaa.openk
