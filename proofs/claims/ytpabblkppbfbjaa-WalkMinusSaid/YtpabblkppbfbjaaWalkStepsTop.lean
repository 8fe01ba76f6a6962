/- What walk.Steps returns. No condition. -/
import Derived.Test.YtpabblkppbfbjaaWalkSteps
namespace Go.Proofs.Ytpabblkppbfbjaa.wlk
open Go.RowKit Go.Proofs.Ytpabblkppbfbjaa.kit Go.Proofs.Ytpabblkppbfbjaa.pfx Go.Proofs.Ytpabblkppbfbjaa.mem Go.Proofs.Ytpabblkppbfbjaa.foot Go.Proofs.Ytpabblkppbfbjaa.tri Go.Proofs.Ytpabblkppbfbjaa.srt
set_option linter.unusedVariables false
set_option linter.unusedSimpArgs false

def deepOf (d : Int) : Nat := (min (max d 0) 8).toNat
theorem deepOf_le (d : Int) : deepOf d ≤ 8 := by unfold deepOf; omega
theorem kp_lt {k : Key} (h : k.length ≤ 32) : (kp k).1 < 4294967296 := adr_lt h
theorem stepsK_len32 : ∀ (d : Nat) (k : Key), k.length ≤ 32 → ∀ x ∈ stepsK d k, x.length ≤ 32
  | 0, k, h, x, hx => by simp [stepsK] at hx; subst hx; exact h
  | d + 1, k, h, x, hx => by
    unfold stepsK at hx
    split at hx
    · rcases List.mem_cons.1 hx with rfl | hx
      · exact h
      · rcases List.mem_append.1 hx with hx | hx
        · exact stepsK_len32 d _ (by simp; omega) x hx
        · exact stepsK_len32 d _ (by simp; omega) x hx
    · simp at hx; subst hx; exact h

theorem Steps_bad (a : Nat) (n d : Int) (ha : a < 4294967296) (hg : goodB a n = false) (w : World) : Calls Try.prog 23 #[.agg #[.int .u32 (a : Int), .int .i64 n], .int .i64 d] w fun e w' => e = .returned (.slice none 0 0) ∧ Below w.heap.size w w' := by
  have HG := good_any a n ha
  rw [hg] at HG
  have HGd := Lib.hid HG
  have HB : Hid (Below w.heap.size w (w.alloc (.cells #[.int .u32 (a : Int), .int .i64 n] 35))) := (Below.refl _ _).alloc (Nat.le_refl _) _
  clear HG hg ha
  go_enter Try.func23, Try.ntmps23
  go_wp2_with fail
  refine (HGd.out _).mono ?_; rintro e w1 ⟨rfl, hb⟩
  have HB1 := Lib.hid (HB.out.trans (hb.mono (by simp)))
  clear hb
  go_wp2_with fail
  go_ret
  exact ⟨rfl, HB1.out⟩

theorem Steps_ok (k : Key) (d : Int) (hk : k.length ≤ 32) (w : World) : Calls Try.prog 23 #[.agg #[.int .u32 (adr k : Int), .int .i64 (k.length : Int)], .int .i64 d] w fun e w' => ∃ A c s, e = .returned (.slice A s.length c) ∧ IsSort gdP (pfs (stepsK (deepOf d) k)) s ∧ Own w' 35 2 A s.length c (fv s) ∧ (∀ x, sf A x → w.heap.size ≤ x) ∧ Below w.heap.size w w' := by
  have HG := good_any (adr k) k.length (adr_lt hk)
  rw [good_adr hk] at HG
  have HGd := Lib.hid HG
  have HB : Hid (Below w.heap.size w (w.alloc (.cells #[.int .u32 (adr k : Int), .int .i64 (k.length : Int)] 35))) := (Below.refl _ _).alloc (Nat.le_refl _) _
  have HK : Hid (Bk (w.alloc (.cells #[.int .u32 (adr k : Int), .int .i64 (k.length : Int)] 35)) w.heap.size 35 #[.int .u32 (adr k : Int), .int .i64 (k.length : Int)]) := Bk.new w _ _
  have HS := fun w => steps_any (deepOf d) k w (deepOf_le d) hk
  have hdd : ((deepOf d : Nat) : Int) = min (max d 0) 8 := by unfold deepOf; omega
  have HL : Hid ((stepsK (deepOf d) k).length ≤ 1000000000 ∧ ∀ x ∈ pfs (stepsK (deepOf d) k), x.1 < 4294967296) := by
    refine ⟨?_, fun x hx => ?_⟩
    · have h1 := (stepsK_len (deepOf d) k).2
      have h2 : 2 ^ (deepOf d + 1) ≤ 2 ^ 9 := Nat.pow_le_pow_right (by omega) (by have := deepOf_le d; omega)
      omega
    · simp only [pfs, List.mem_map] at hx
      obtain ⟨y, hy, rfl⟩ := hx
      exact kp_lt (stepsK_len32 _ k hk y hy)
  rw [hdd] at HS
  have HSt := Lib.hid HS
  clear HG hk HS hdd
  generalize stepsK (deepOf d) k = l at *
  go_enter Try.func23, Try.ntmps23
  go_wp2_with fail
  refine (HGd.out _).mono ?_; rintro e w1 ⟨rfl, hb⟩
  have HB1 := Lib.hid (HB.out.trans (hb.mono (by simp)))
  have hk1 := HK.out.below hb HK.out.lt
  have p := fun i => hk1.cell i
  have pl := hk1.lt
  clear hb hk1 HB HK
  go_wp2_with fail
  refine (HSt.out _).mono ?_; rintro e w2 ⟨A1, c1, rfl, ho, hlo, hb2⟩
  have HB2 := Lib.hid (HB1.out.trans (hb2.mono HB1.out.size))
  have HSo := Lib.hid (Sort_any A1 l.length c1 (pfs l) w2 HL.out.1 ho.nil (by simp [pfs]) HL.out.2 ho.rg)
  clear ho hlo hb2 HB1 HSt p pl
  go_wp2_with fail
  refine HSo.out.mono ?_; rintro e w3 ⟨A3, c3, s, rfl, hs, ho3, hlo3, hb3⟩
  have H3 := Lib.hid (And.intro hs (And.intro ho3 (And.intro hlo3 hb3)))
  clear hs ho3 hlo3 hb3 HSo
  go_wp2_with fail
  go_ret
  obtain ⟨hs, ho3, hlo3, hb3⟩ := H3.out
  exact ⟨A3, c3, s, rfl, hs, ho3, fun x hx => Nat.le_trans HB2.out.size (hlo3 x hx), HB2.out.trans (hb3.mono HB2.out.size)⟩
end Go.Proofs.Ytpabblkppbfbjaa.wlk
