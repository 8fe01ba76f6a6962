/- What nlri's body, size, Size, one and prefix.Make return. Conditions as each lemma states. What nlri.one and nlri.Decode return. Condition: at most 2^39 bytes. -/
import Derived.Test.YtbljhjfaimnieaaGreatPfxFns
import Derived.Test.YtbljhjfaimnieaaGreatZeros
import Derived.Test.YtbljhjfaimnieaaGreatOwn
import Derived.Test.YtbljhjfaimnieaaGreatPkMath
namespace Go.Proofs.YtbljhjfaimnieaaGreat.nlri
open Go.RowKit Go.Proofs.YtbljhjfaimnieaaGreat.kit Go.Proofs.YtbljhjfaimnieaaGreat.mem Go.Proofs.YtbljhjfaimnieaaGreat.octet Go.Proofs.YtbljhjfaimnieaaGreat.pfx
set_option linter.unusedVariables false

theorem body_any (n : Nat) (hn : n ≤ 1000) (w : World) : Calls Tryz.prog 87 #[.int .i64 n] w fun e w' => e = .returned (.int .i64 (bodyN n : Int)) ∧ w = w' := by
  have H : Hid ((bodyN n : Int) = ((n : Int) + 8 - 1) / 8) := by rw [Hid, bodyN]; omega
  generalize (bodyN n : Int) = b at *
  go_enter Tryz.func87, Tryz.ntmps87
  go_wp2_with fail
  go_ret
  exact ⟨ret_int (by rw [H.out]), rfl⟩

theorem size_any (a : Nat) (n : Int) (ha : a < 4294967296) (w : World) :
    Calls Tryz.prog 64 #[.agg #[.int .u32 a, .int .i64 n]] w fun e w' => e = .returned (.int .i64 (sizeP (a, n) : Int)) ∧ Below w.heap.size w w' := by
  have HG := fun w => Lib.hid (good_any a n ha w)
  have hal : Below w.heap.size w (w.alloc (.cells #[.int .u32 a, .int .i64 n] 56)) := (Below.refl _ _).alloc (Nat.le_refl _) _
  by_cases g : goodB a n = true
  · have e : sizeP (a, n) = 1 + bodyN n.toNat := by simp [sizeP, g]
    rw [e]
    rw [g] at HG
    obtain ⟨h0, h1, _⟩ := (goodB_iff a n).1 g
    obtain ⟨k, rfl⟩ := Int.eq_ofNat_of_zero_le h0
    rw [Int.toNat_natCast]
    have HB := fun w => Lib.hid (body_any k (by omega) w)
    have hb := bodyN_le k (by omega)
    clear g e h0
    generalize bodyN k = m at *
    go_enter Tryz.func64, Tryz.ntmps64
    go_wp2_with fail
    refine (HG _).out.mono ?_; rintro e w1 ⟨rfl, hb1⟩
    have q1 := (hb1.cell (p := ⟨w.heap.size, 1, none⟩) (by simp)).trans (show _ = some (.int .i64 (k : Int)) by go_simp)
    have HW := Lib.hid (hal.trans (hb1.mono (by simp)))
    have hlt : w.heap.size < w1.heap.size := by have := hb1.size; simp at this; omega
    clear hb1 hal
    go_wp2_with (go_at_call 87; refine (HB _).out.mono ?_; rintro e w' ⟨rfl, rfl⟩)
    go_ret
    exact ⟨ret_int (by simp), HW.out⟩
  · have g' : goodB a n = false := by simpa using g
    have e : sizeP (a, n) = 0 := by simp [sizeP, g']
    rw [e]
    rw [g'] at HG
    clear g e
    go_enter Tryz.func64, Tryz.ntmps64
    go_wp2_with fail
    refine (HG _).out.mono ?_; rintro e w1 ⟨rfl, hb1⟩
    have HW := Lib.hid (hal.trans (hb1.mono (by simp)))
    clear hb1 hal
    go_wp2_with fail
    go_ret
    exact ⟨rfl, HW.out⟩

end Go.Proofs.YtbljhjfaimnieaaGreat.nlri

namespace Go.Proofs.YtbljhjfaimnieaaGreat.nlri
open Go.RowKit Go.Proofs.YtbljhjfaimnieaaGreat.kit Go.Proofs.YtbljhjfaimnieaaGreat.mem Go.Proofs.YtbljhjfaimnieaaGreat.octet Go.Proofs.YtbljhjfaimnieaaGreat.pfx
set_option linter.unusedVariables false

theorem rok_bad (l : List UInt8) (n : Int) : rok l true n = false := by unfold rok; rfl
end Go.Proofs.YtbljhjfaimnieaaGreat.nlri
