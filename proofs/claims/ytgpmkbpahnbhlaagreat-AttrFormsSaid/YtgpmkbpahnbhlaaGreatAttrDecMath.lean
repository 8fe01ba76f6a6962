/- The plain law of attr.Decode. -/
import Derived.Test.YtgpmkbpahnbhlaaGreatAttrWrong
namespace Go.Proofs.YtgpmkbpahnbhlaaGreat.attr
open Go.RowKit Go.Proofs.YtgpmkbpahnbhlaaGreat.kit Go.Proofs.YtgpmkbpahnbhlaaGreat.mem Go.Proofs.YtgpmkbpahnbhlaaGreat.foot Go.Proofs.YtgpmkbpahnbhlaaGreat.nums Go.Proofs.YtgpmkbpahnbhlaaGreat.asn Go.Proofs.YtgpmkbpahnbhlaaGreat.pth Go.Proofs.YtgpmkbpahnbhlaaGreat.octet
set_option linter.unusedVariables false
theorem att1_lt {l q : List UInt8} {x : At1} (h : att1 l = some (x, q)) : q.length < l.length := by
  rcases l with _ | ⟨f, _ | ⟨k, t⟩⟩
  · cases h
  · cases h
  · dsimp only [att1] at h
    split at h
    · have e := congrArg Prod.snd (Option.some.inj h)
      simp only at e
      rw [← e]
      simp only [List.length_drop, List.length_cons]
      omega
    · cases h
/-- what is read of bytes: the attributes, or what is told of the first error (sub, bytes) -/
inductive Dec where
  | ok (a : Atr)
  | err (sub : Nat) (data : List UInt8)
noncomputable def decF : Nat → List UInt8 → List Nat → Atr → Dec
  | _, [], _, a => .ok (normA a)
  | 0, _ :: _, _, a => .ok a
  | n + 1, b :: l, seen, a => match att1 (b :: l) with
    | none => .err 1 []
    | some (x, q) => if x.k ∈ seen then .err 1 [] else
      if (wrongS a x.f x.k x.v).2 ≠ 0 then .err (wrongS a x.f x.k x.v).2 (if (wrongS a x.f x.k x.v).2 = 11 then [] else x.all)
      else decF n q (x.k :: seen) (wrongS a x.f x.k x.v).1
noncomputable def decS (l : List UInt8) : Dec := decF l.length l [] zeroA
theorem decF_more : ∀ (n m : Nat) (l : List UInt8) (seen : List Nat) (a : Atr), l.length ≤ n → l.length ≤ m → decF n l seen a = decF m l seen a
  | n, m, [], seen, a, _, _ => by cases n <;> cases m <;> rfl
  | 0, m, b :: l, seen, a, h, _ => by simp at h
  | n + 1, 0, b :: l, seen, a, _, h => by simp at h
  | n + 1, m + 1, b :: l, seen, a, h1, h2 => by
    unfold decF
    rcases hx : att1 (b :: l) with _ | ⟨x, q⟩
    · rfl
    · have hlt := att1_lt hx
      dsimp only
      rw [decF_more n m q _ _ (by omega) (by omega)]
/-- the same from any place on -/
noncomputable def decQ (l : List UInt8) (seen : List Nat) (a : Atr) : Dec := decF l.length l seen a
theorem decQ_nil (seen : List Nat) (a : Atr) : decQ [] seen a = .ok (normA a) := rfl
theorem decQ_none {l : List UInt8} {seen : List Nat} {a : Atr} (hl : l ≠ []) (h : att1 l = none) : decQ l seen a = .err 1 [] := by
  rcases l with _ | ⟨b, l⟩
  · exact absurd rfl hl
  · unfold decQ
    show decF (l.length + 1) (b :: l) seen a = _
    unfold decF
    rw [h]
theorem decQ_some {l q : List UInt8} {x : At1} {seen : List Nat} {a : Atr} (h : att1 l = some (x, q)) : decQ l seen a = if x.k ∈ seen then .err 1 [] else
      if (wrongS a x.f x.k x.v).2 ≠ 0 then .err (wrongS a x.f x.k x.v).2 (if (wrongS a x.f x.k x.v).2 = 11 then [] else x.all)
      else decQ q (x.k :: seen) (wrongS a x.f x.k x.v).1 := by
  have hlt := att1_lt h
  rcases l with _ | ⟨b, l⟩
  · simp at hlt
  · unfold decQ
    show decF (l.length + 1) (b :: l) seen a = _
    rw [decF]
    rw [h]
    dsimp only
    rw [decF_more l.length q.length q _ _ (by simp at hlt; omega) (Nat.le_refl _)]
end Go.Proofs.YtgpmkbpahnbhlaaGreat.attr
