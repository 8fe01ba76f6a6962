/- Messages in a stream, in plain Lean: the head, the next message, all of them. No condition. -/
import Derived.Test.YthoclemgiopjpaaOctLives
namespace Go.Proofs.Ythoclemgiopjpaa.frame
open Go.Proofs.Ythoclemgiopjpaa.octet
set_option linter.unusedVariables false

/-- what is told: a code, a sub-code, bytes -/
abbrev Nt := Int × Int × List UInt8
def marks : List UInt8 := List.replicate 16 255
def fitsB (kind n : Nat) : Bool := if kind = 1 then decide (29 ≤ n) else if kind = 2 then decide (23 ≤ n) else if kind = 3 then decide (21 ≤ n) else decide (n = 19)
/-- what is told of a head -/
def judgeN (m : List UInt8) (n kind : Nat) : Nt :=
  if m ≠ marks then (1, 1, []) else if n < 19 ∨ 4096 < n then (1, 2, be2 (n : Int)) else if kind < 1 ∨ 4 < kind then (1, 3, [octet.byteOf (kind : Int)]) else if fitsB kind n = false then (1, 2, be2 (n : Int)) else (0, 0, [])
theorem judgeN_code (m : List UInt8) (n kind : Nat) : (judgeN m n kind).1 = 0 ∨ (judgeN m n kind).1 = 1 := by
  unfold judgeN
  repeat (split; · exact .inr rfl)
  exact .inl rfl
theorem judgeN_ok {m : List UInt8} {n kind : Nat} (h : (judgeN m n kind).1 = 0) : 19 ≤ n ∧ n ≤ 4096 ∧ 1 ≤ kind ∧ kind ≤ 4 := by
  unfold judgeN at h
  split at h
  · cases h
  · split at h
    · cases h
    · split at h
      · cases h
      · omega
def hmark (s : List UInt8) : List UInt8 := s.take 16
def hlen (s : List UInt8) : Nat := num ((s.drop 16).take 2)
def hkind (s : List UInt8) : Nat := num ((s.drop 18).take 1)
def hbad (s : List UInt8) : Nt := judgeN (hmark s) (hlen s) (hkind s)
inductive Next where
  | wait
  | bad (n : Nt)
  | got (kind : Nat) (body rest : List UInt8)
/-- the next message of bytes -/
def nextF (s : List UInt8) : Next :=
  if s.length < 19 then .wait else if (hbad s).1 ≠ 0 then .bad (hbad s) else if s.length < hlen s then .wait else .got (hkind s) ((s.drop 19).take (hlen s - 19)) (s.drop (hlen s))
/-- messages, what is left, and what is told of a head that may not be -/
abbrev Fed := List (Nat × List UInt8) × List UInt8 × Option Nt
def feedF : Nat → List UInt8 → Fed
  | 0, s => ([], s, none)
  | k + 1, s => match nextF s with
    | .wait => ([], s, none)
    | .bad n => ([], s, some n)
    | .got kind body rest => ((kind, body) :: (feedF k rest).1, (feedF k rest).2.1, (feedF k rest).2.2)
def feed (s : List UInt8) : Fed := feedF s.length s
theorem nextF_got {s body rest : List UInt8} {kind : Nat} (h : nextF s = .got kind body rest) : 19 ≤ s.length ∧ (hbad s).1 = 0 ∧ 19 ≤ hlen s ∧ hlen s ≤ 4096 ∧ hlen s ≤ s.length ∧ kind = hkind s ∧ body = (s.drop 19).take (hlen s - 19) ∧ rest = s.drop (hlen s) ∧ rest.length + hlen s = s.length ∧ body.length = hlen s - 19 := by
  unfold nextF at h
  split at h
  · cases h
  · split at h
    · cases h
    · split at h
      · cases h
      · cases h
        rename_i h1 h2 h3
        have h4 : (hbad s).1 = 0 := by
          by_cases e : (hbad s).1 = 0
          · exact e
          · exact absurd e h2
        have h5 := judgeN_ok h4
        refine ⟨by omega, h4, h5.1, h5.2.1, by omega, rfl, rfl, rfl, ?_, ?_⟩
        · simp; omega
        · simp; omega
theorem feedF_more : ∀ (k : Nat) (s : List UInt8), s.length ≤ k → feedF (k + 1) s = feedF k s
  | 0, s, h => by
    have : s = [] := List.eq_nil_of_length_eq_zero (by omega)
    subst this
    rfl
  | k + 1, s, h => by
    unfold feedF
    split
    · rfl
    · rfl
    · rename_i kind body rest e
      have h1 := nextF_got e
      have := feedF_more k rest (by omega)
      rw [this]
theorem feedF_any (s : List UInt8) : ∀ k, s.length ≤ k → feedF k s = feed s := by
  intro k hk
  induction k with
  | zero =>
    have : s = [] := List.eq_nil_of_length_eq_zero (by omega)
    subst this; rfl
  | succ k ih =>
    by_cases h : s.length ≤ k
    · rw [feedF_more k s h, ih h]
    · have : s.length = k + 1 := by omega
      unfold feed; rw [this]
theorem feed_wait {s : List UInt8} (h : nextF s = .wait) : feed s = ([], s, none) := by
  rw [← feedF_any s (s.length + 1) (by omega)]
  unfold feedF; rw [h]
theorem feed_bad {s : List UInt8} {n : Nt} (h : nextF s = .bad n) : feed s = ([], s, some n) := by
  rw [← feedF_any s (s.length + 1) (by omega)]
  unfold feedF; rw [h]
theorem feed_got {s body rest : List UInt8} {kind : Nat} (h : nextF s = .got kind body rest) : feed s = ((kind, body) :: (feed rest).1, (feed rest).2.1, (feed rest).2.2) := by
  have h1 := nextF_got h
  rw [← feedF_any s (s.length + 1) (by omega)]
  unfold feedF; rw [h]
  simp only
  rw [feedF_any rest s.length (by omega)]
/-- more bytes behind do not turn a message that is whole -/
theorem nextF_app {s body rest : List UInt8} {kind : Nat} (h : nextF s = .got kind body rest) (b : List UInt8) : nextF (s ++ b) = .got kind body (rest ++ b) := by
  obtain ⟨h1, h2, h3, h4, h5, rfl, rfl, rfl, h6, h7⟩ := nextF_got h
  have e1 : hmark (s ++ b) = hmark s := by unfold hmark; rw [List.take_append_of_le_length (by omega)]
  have e2 : hlen (s ++ b) = hlen s := by unfold hlen; rw [List.drop_append_of_le_length (by omega), List.take_append_of_le_length (by simp; omega)]
  have e3 : hkind (s ++ b) = hkind s := by unfold hkind; rw [List.drop_append_of_le_length (by omega), List.take_append_of_le_length (by simp; omega)]
  have e4 : hbad (s ++ b) = hbad s := by unfold hbad; rw [e1, e2, e3]
  unfold nextF
  rw [if_neg (by simp; omega), e4, if_neg (by simp [h2]), e2, e3, if_neg (by simp; omega)]
  congr 1
  · rw [List.drop_append_of_le_length (by omega), List.take_append_of_le_length (by simp; omega)]
  · rw [List.drop_append_of_le_length (by omega)]
/-- what is fed behind -/
theorem feed_app (b : List UInt8) : ∀ (k : Nat) (s : List UInt8), s.length ≤ k → (feed s).2.2 = none → feed (s ++ b) = ((feed s).1 ++ (feed ((feed s).2.1 ++ b)).1, (feed ((feed s).2.1 ++ b)).2.1, (feed ((feed s).2.1 ++ b)).2.2)
  | 0, s, h, _ => by
    have : s = [] := List.eq_nil_of_length_eq_zero (by omega)
    subst this
    rfl
  | k + 1, s, h, hn => by
    rcases e : nextF s with _ | n | ⟨kind, body, rest⟩
    · rw [feed_wait e]; simp
    · rw [feed_bad e] at hn; cases hn
    · have h1 := nextF_got e
      rw [feed_got e] at hn ⊢
      rw [feed_got (nextF_app e b), feed_app b k rest (by omega) hn]
      simp
theorem feed_rest : ∀ (k : Nat) (s : List UInt8), s.length ≤ k → ∃ n, n ≤ s.length ∧ (feed s).2.1 = s.drop n
  | 0, s, h => by
    have : s = [] := List.eq_nil_of_length_eq_zero (by omega)
    subst this
    exact ⟨0, by simp, rfl⟩
  | k + 1, s, h => by
    rcases e : nextF s with _ | n | ⟨kind, body, rest⟩
    · exact ⟨0, by omega, by rw [feed_wait e]; rfl⟩
    · exact ⟨0, by omega, by rw [feed_bad e]; rfl⟩
    · obtain ⟨h1, h2, h3, h4, h5, _, _, rfl, h6, _⟩ := nextF_got e
      obtain ⟨m, hm, hr⟩ := feed_rest k (s.drop (hlen s)) (by omega)
      refine ⟨hlen s + m, by omega, ?_⟩
      rw [feed_got e]
      show (feed (s.drop (hlen s))).2.1 = _
      rw [hr, List.drop_drop]
theorem num_one (l : List UInt8) (h : l.length ≤ 1) : num l < 256 := by
  have := num_lt l
  have h2 : 256 ^ l.length ≤ 256 ^ 1 := Nat.pow_le_pow_right (by omega) h
  omega
theorem num_two (l : List UInt8) (h : l.length ≤ 2) : num l < 65536 := by
  have := num_lt l
  have h2 : 256 ^ l.length ≤ 256 ^ 2 := Nat.pow_le_pow_right (by omega) h
  omega
theorem hkind_lt (s : List UInt8) : hkind s < 256 := num_one _ (by simp; omega)
theorem hlen_lt (s : List UInt8) : hlen s < 65536 := num_two _ (by simp; omega)
end Go.Proofs.Ythoclemgiopjpaa.frame
