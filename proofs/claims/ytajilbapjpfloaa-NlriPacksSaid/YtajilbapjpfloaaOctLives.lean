/- What confluencelaw06.lives returns, and readers over joined lists. No condition. -/
import Derived.Test.YtajilbapjpfloaaOctRef
import Derived.Test.YtajilbapjpfloaaStr
import Derived.Deep.RegionHeld3
import Derived.Deep.RegionWith
namespace Go.Proofs.Ytajilbapjpfloaa.octet
open Go.RowKit Go.Proofs.Ytajilbapjpfloaa.kit Go.Proofs.Ytajilbapjpfloaa.mem
set_option linter.unusedVariables false

theorem rd_app (x y : List UInt8) (n : Int) (h : n = (x.length : Int)) : rok (x ++ y) false n = true ∧ rget (x ++ y) false n = x ∧ rleft (x ++ y) false n = y := by
  subst h
  have h1 : rok (x ++ y) false (x.length : Int) = true := by rw [rok_iff]; refine ⟨rfl, by omega, by simp; omega⟩
  unfold rget rleft
  rw [if_pos h1, if_pos h1]
  simp [h1]

def be4 (n : Int) : List UInt8 := [byteOf (n / 16777216), byteOf (n / 65536), byteOf (n / 256), byteOf n]
def be2 (n : Int) : List UInt8 := [byteOf (n / 256), byteOf n]

theorem num_be4 (n : Int) (h0 : 0 ≤ n) (h1 : n ≤ 4294967295) : (num (be4 n) : Int) = n := by
  have e1 := byteOf_nat (n / 16777216)
  have e2 := byteOf_nat (n / 65536)
  have e3 := byteOf_nat (n / 256)
  have e4 := byteOf_nat n
  simp only [num, be4, List.foldl]
  omega
theorem num_be2 (n : Int) (h0 : 0 ≤ n) (h1 : n ≤ 65535) : (num (be2 n) : Int) = n := by
  have e3 := byteOf_nat (n / 256)
  have e4 := byteOf_nat n
  simp only [num, be2, List.foldl]
  omega
theorem num_be1 (n : Int) (h0 : 0 ≤ n) (h1 : n ≤ 255) : (num [byteOf n] : Int) = n := by
  have e4 := byteOf_nat n
  simp only [num, List.foldl]
  omega
theorem big_be4 (n : Nat) : bigv n 4 = be4 (n : Int) := by
  simp [bigv, be4]

theorem Wtr.grown {w w' : World} {B b r : Nat} {l : List UInt8} (h : Wtr w B b l) (hg : w.grownBy w' (some r)) (hr : r < B) : Wtr w' B b l := by
  obtain ⟨h1, A, c, hk, ho⟩ := h
  refine ⟨h1, A, c, hk.grown hg (by intro e; injection e with e; omega), ho.kept hg ?_⟩
  by_cases e : (Value.slice A l.length c).ownBlock = none
  · exact .inl e
  · refine .inr (fun e2 => ?_)
    have := (ho.lt r e2).1
    omega

/-- a writer that has just been made -/
theorem wtr_new (w : World) : Wtr (w.alloc (.cells #[.slice none 0 0] 44)) w.heap.size w.heap.size [] :=
  ⟨Nat.le_refl _, none, 0, Bk.new w _ _, ⟨rfl, .inl ⟨rfl, rfl⟩⟩⟩

theorem lives_any (w : World) : Calls Try.prog 28 #[] w fun e w' => e = .returned (.bool true) ∧ Below w.heap.size w w' := by
  have hbs : Bs (w.alloc (.cells #[.int .u8 1, .int .u8 2, .int .u8 3] 5)) (w.heap.size + 1) (some ⟨w.heap.size, 0, none⟩) [1, 2, 3] := bs_new w [1, 2, 3] _ (by simp [bv])
  have HN := Lib.hid (New_any (some ⟨w.heap.size, 0, none⟩) 3 (w.heap.size + 1) [1, 2, 3] (w.alloc (.cells #[.int .u8 1, .int .u8 2, .int .u8 3] 5)) (by simp) (fun h => by cases h) (by simp) hbs)
  clear hbs
  go_enter Try.func28, Try.ntmps28
  go_wp2_with fail
  refine HN.out.mono ?_; rintro e w1 ⟨⟨r, rfl, hr0, hr⟩, hb1⟩
  have k1 : Below w.heap.size w w1 := ((Below.refl _ _).alloc (Nat.le_refl _) _).trans (hb1.mono (by simp))
  have HU := Lib.hid (U16_any w1.heap.size w1.heap.size [] 258 (w1.alloc (.cells #[.slice none 0 0] 44)) (wtr_new w1) (by simp))
  have HW := Lib.hid (wtr_new w1)
  have HR := Lib.hid (hr.below ((Below.refl w1.heap.size w1).alloc (Nat.le_refl _) (.cells #[.slice none 0 0] 44)) hr.lt)
  have hlt := hr.lt
  have hw1 : w.heap.size ≤ w1.heap.size := k1.size
  have K1 := Lib.hid (k1.alloc k1.size (.cells #[.slice none 0 0] 44))
  clear hb1 hr k1
  go_wp2_with fail
  refine HU.out.mono ?_; rintro e w2 ⟨rfl, hw2, ho2⟩
  have hbel := HW.out.only ho2
  have HR2 := Lib.hid (HR.out.below hbel hlt)
  have K2 := Lib.hid (K1.out.trans (hbel.mono hw1))
  have HW2 := Lib.hid hw2
  have hlt2 : r < w2.heap.size := HR2.out.lt
  clear hw2 ho2 hbel
  go_wp2_with fail
  have hu := u16_any r [1, 2, 3] false w2 HR2.out
  have hr1 : rget [1, 2, 3] false 2 = [1, 2] := by decide
  have hr2 : rleft [1, 2, 3] false 2 = [3] := by decide
  have hr3 : (!rok [1, 2, 3] false 2) = false := by decide
  have hr4 : num [1, 2] = 258 := by decide
  rw [hr1, hr2, hr3, hr4] at hu
  refine hu.mono ?_; rintro e w3 ⟨rfl, hR3, hG3⟩
  clear hu hr1 hr2 hr3 hr4
  have HR3 := Lib.hid hR3
  have HW3 := Lib.hid (HW2.out.grown hG3 hlt)
  have hr0' : w.heap.size ≤ r := Nat.le_trans (by simp) hr0
  have K3 := Lib.hid (K2.out.trans (below_grown hG3 (Nat.le_trans hw1 (Nat.le_trans (by simp) HW2.out.base)) (fun g hg => by cases hg; exact hr0')))
  clear hR3 hG3
  go_wp2_with fail
  refine (Left_any r [3] false w3 HR3.out).mono ?_; rintro e w' ⟨rfl, rfl⟩
  go_wp2_with fail
  refine (Bad_any r [3] false w3 HR3.out).mono ?_; rintro e w' ⟨rfl, rfl⟩
  go_wp2_with fail
  refine (Bytes_any w1.heap.size w1.heap.size _ w3 HW3.out (by simp)).mono ?_
  rintro e w4 ⟨⟨A', c', rfl, h2, h3, h4, h5, h6, h7⟩, _⟩
  have e1 : ([] ++ [byteOf (258 / 256), byteOf 258] : List UInt8) = [1, 2] := by decide
  rw [e1] at h5
  have hstr : (convert 26 9 (.slice A' 2 c')).run Try.prog w4 = .ok (.string ⟨#[1, 2]⟩) w4 := by have := run_str (l := [1, 2]) (c := c') h5; exact this
  have K4 := Lib.hid (K3.out.trans (h6.mono K3.out.size))
  clear h2 h3 h4 h5 h6 h7 e1
  go_wp2_with fail
  go_ret
  exact ⟨rfl, K4.out⟩

end Go.Proofs.Ytajilbapjpfloaa.octet
