/- Two notices that are alike. No condition. -/
import Derived.Test.YthoclemgiopjpaaDoorOctLives
import Derived.Test.YthoclemgiopjpaaDoorOpen
namespace Go.Proofs.YthoclemgiopjpaaDoor.told
open Go.RowKit Go.Proofs.YthoclemgiopjpaaDoor.kit Go.Proofs.YthoclemgiopjpaaDoor.mem Go.Proofs.YthoclemgiopjpaaDoor.octet
set_option linter.unusedVariables false

theorem Told_yes (code sub : Int) (l : List UInt8) (A A' : Option Addr) (c c' B B' : Nat) (w : World) (hB : B ≤ w.heap.size) (hB' : B' ≤ w.heap.size) (h : Bs w B A l) (h' : Bs w B' A' l) :
    Calls Tryd.prog 8 #[.agg #[.int .i64 code, .int .i64 sub, .slice A l.length c], .agg #[.int .i64 code, .int .i64 sub, .slice A' l.length c']] w fun e w' => e = .returned (.bool true) ∧ Below w.heap.size w w' := by
  have hb := ((Below.refl w.heap.size w).alloc (Nat.le_refl _) (.cells #[.int .i64 code, .int .i64 sub, .slice A l.length c] 24)).alloc (by simp) (.cells #[.int .i64 code, .int .i64 sub, .slice A' l.length c'] 24)
  have s1 := run_str (c := c) (h.below (hb.mono hB) (Nat.le_refl _))
  have s2 := run_str (c := c') (h'.below (hb.mono hB') (Nat.le_refl _))
  have HB := Lib.hid hb
  clear hb h h'
  go_enter Tryd.func8, Tryd.ntmps8
  go_wp2_with fail
  go_ret
  exact ⟨rfl, HB.out⟩
end Go.Proofs.YthoclemgiopjpaaDoor.told
