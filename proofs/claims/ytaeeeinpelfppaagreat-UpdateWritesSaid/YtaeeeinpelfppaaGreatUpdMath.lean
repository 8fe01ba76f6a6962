/- The plain law of an Update's bytes. No program in sight. -/
import Derived.Test.YtaeeeinpelfppaaGreatNlriDec
import Derived.Test.YtaeeeinpelfppaaGreatAttrPub
namespace Go.Proofs.YtaeeeinpelfppaaGreat.upd
open Go.RowKit Go.Proofs.YtaeeeinpelfppaaGreat.kit Go.Proofs.YtaeeeinpelfppaaGreat.mem Go.Proofs.YtaeeeinpelfppaaGreat.foot Go.Proofs.YtaeeeinpelfppaaGreat.nums Go.Proofs.YtaeeeinpelfppaaGreat.asn Go.Proofs.YtaeeeinpelfppaaGreat.pth Go.Proofs.YtaeeeinpelfppaaGreat.octet Go.Proofs.YtaeeeinpelfppaaGreat.attr
set_option linter.unusedVariables false
structure Upd where
  gone : List (Nat × Int)
  a : Atr
  here : List (Nat × Int)
def zeroU : Upd := ⟨[], zeroA, []⟩
inductive UDec where
  | ok (u : Upd)
  | err (sub : Nat) (data : List UInt8)
def two (l : List UInt8) : Nat := num (l.take 2)
/-- what stands behind a length, if all of it is there: it, and what is left -/
def part (l : List UInt8) : Option (List UInt8 × List UInt8) := if l.length < 2 then none else if l.length < 2 + two l then none else some ((l.drop 2).take (two l), l.drop (2 + two l))
noncomputable def updC (g : List (Nat × Int)) (a : Atr) (l : List UInt8) : UDec :=
  if l.length = 0 then .ok ⟨g, zeroA, []⟩ else
  if missK a.has ≠ 0 then .err 3 [UInt8.ofNat (missK a.has)] else
  match nlri.dec l with
  | none => .err 10 []
  | some h => .ok ⟨g, a, h⟩
noncomputable def updB (g : List (Nat × Int)) (l : List UInt8) : UDec :=
  match part l with
  | none => .err 1 []
  | some (x, q) => match decS x with
    | .err s d => .err s d
    | .ok a => updC g a q
noncomputable def updS (l : List UInt8) : UDec :=
  match part l with
  | none => .err 1 []
  | some (x, q) => match nlri.dec x with
    | none => .err 1 []
    | some g => updB g q
def uU : UDec → Upd | .ok u => u | .err _ _ => zeroU
def uC : UDec → Int | .ok _ => 0 | .err _ _ => 3
def uS : UDec → Int | .ok _ => 0 | .err s _ => (s : Int)
def uD : UDec → List UInt8 | .ok _ => [] | .err _ d => d
end Go.Proofs.YtaeeeinpelfppaaGreat.upd
