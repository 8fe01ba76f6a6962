/- What octet's Reader does beyond take: number, U8, U16, U32, Take, Part, Rest, Left, Bad, New. Condition: at most 2^40 bytes. What confluenceref06's Num and Big, and confluencelaw06's Bytes, return. Conditions: at most 2^40 bytes; of Num: at most four. -/
import Derived.Test.YtbljhjfaimnieaaGreatReader
import Derived.Laws.BitsAllLaws
import Derived.Test.YtbljhjfaimnieaaGreatWriter
namespace Go.Proofs.YtbljhjfaimnieaaGreat.octet
open Go.RowKit Go.Proofs.YtbljhjfaimnieaaGreat.kit Go.Proofs.YtbljhjfaimnieaaGreat.mem
set_option linter.unusedVariables false

/-- are there so many bytes left? -/
def rok (l : List UInt8) (bad : Bool) (n : Int) : Bool := !bad && decide (0 ≤ n) && decide (n ≤ (l.length : Int))
def rget (l : List UInt8) (bad : Bool) (n : Int) : List UInt8 := if rok l bad n = true then l.take n.toNat else []
def rleft (l : List UInt8) (bad : Bool) (n : Int) : List UInt8 := if rok l bad n = true then l.drop n.toNat else []

theorem rok_iff (l : List UInt8) (bad : Bool) (n : Int) : rok l bad n = true ↔ bad = false ∧ 0 ≤ n ∧ n ≤ (l.length : Int) := by
  unfold rok; cases bad <;> simp
theorem rget_len (l : List UInt8) (bad : Bool) (n : Int) : (rget l bad n).length ≤ l.length := by
  unfold rget; split <;> simp; omega
theorem rleft_len (l : List UInt8) (bad : Bool) (n : Int) : (rleft l bad n).length ≤ l.length := by
  unfold rleft; split <;> simp
theorem rget_le (l : List UInt8) (bad : Bool) (n : Nat) : (rget l bad n).length ≤ n := by
  unfold rget; split <;> simp; omega

/-- the number of bytes, the highest first -/
def num (l : List UInt8) : Nat := l.foldl (fun v c => v * 256 + c.toNat) 0
theorem num_acc (l : List UInt8) : ∀ v : Nat, l.foldl (fun v c => v * 256 + c.toNat) v < (v + 1) * 256 ^ l.length := by
  induction l with
  | nil => intro v; simp
  | cons c l ih =>
    intro v
    have h := ih (v * 256 + c.toNat)
    have hc := c.toNat_lt
    rw [List.foldl_cons, List.length_cons, Nat.pow_succ, Nat.mul_comm (256 ^ l.length), ← Nat.mul_assoc]
    exact Nat.lt_of_lt_of_le h (Nat.mul_le_mul_right _ (by omega))
theorem num_lt (l : List UInt8) : num l < 256 ^ l.length := by have := num_acc l 0; simpa [num] using this

end Go.Proofs.YtbljhjfaimnieaaGreat.octet

namespace Go.Proofs.YtbljhjfaimnieaaGreat.octet
open Go.RowKit Go.Proofs.YtbljhjfaimnieaaGreat.kit Go.Proofs.YtbljhjfaimnieaaGreat.mem
set_option linter.unusedVariables false

end Go.Proofs.YtbljhjfaimnieaaGreat.octet
