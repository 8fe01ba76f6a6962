/- Parts of a function's code, by their places. No condition. -/
import Derived.Test.YtaeeeinpelfppaaGreatRows
namespace Go.Proofs.YtaeeeinpelfppaaGreat.code
def left : Code → Code | .seq a _ => a | c => c
def right : Code → Code | .seq _ b => b | c => c
def inner : Code → Code | .block _ c => c | .loop c => c | c => c
def yes : Code → Code | .cond _ a _ => a | c => c
def no : Code → Code | .cond _ _ b => b | c => c
def bodyOf (f : Func) : Code := match f.body with | some c => c | none => .skip
end Go.Proofs.YtaeeeinpelfppaaGreat.code
