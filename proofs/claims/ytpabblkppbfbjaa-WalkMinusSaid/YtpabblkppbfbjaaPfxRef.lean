/- What confluenceref01's Covers returns. No condition beyond those that each lemma states. -/
import Derived.Test.YtpabblkppbfbjaaPfxRef0
namespace Go.Proofs.Ytpabblkppbfbjaa.pfx
open Go.RowKit Go.Proofs.Ytpabblkppbfbjaa.kit
set_option linter.unusedVariables false

/-- what two boxed pairs hold, once a call has come back -/
theorem two_boxes {W w1 : World} {x y u v : Value} {t t' : TypeId} (hb1 : Below (((W.alloc (.cells #[x, y] t)).alloc (.cells #[u, v] t'))).heap.size ((W.alloc (.cells #[x, y] t)).alloc (.cells #[u, v] t')) w1) :
    w1.cell? ⟨W.heap.size, 0, none⟩ = some x ∧ w1.cell? ⟨W.heap.size, 1, none⟩ = some y ∧ w1.cell? ⟨W.heap.size + 1, 0, none⟩ = some u ∧ w1.cell? ⟨W.heap.size + 1, 1, none⟩ = some v ∧ W.heap.size < w1.heap.size ∧ W.heap.size + 1 < w1.heap.size := by
  have hz := hb1.size
  simp at hz
  refine ⟨?_, ?_, ?_, ?_, by omega, by omega⟩
  · rw [hb1.cell (by simp; omega)]; go_simp
  · rw [hb1.cell (by simp; omega)]; go_simp
  · rw [hb1.cell (by simp)]; go_simp
  · rw [hb1.cell (by simp)]; go_simp

def coversB (a : Nat) (n : Int) (b : Nat) (m : Int) : Bool := goodB a n && goodB b m && decide (n ≤ m) && (cutv b n.toNat == a)

set_option maxHeartbeats 1000000 in
theorem ref_Covers (a : Nat) (n : Int) (b : Nat) (m : Int) (ha : a < 4294967296) (hb : b < 4294967296) (w : World) : Calls Try.prog 15 #[.agg #[.int .u32 a, .int .i64 n], .agg #[.int .u32 b, .int .i64 m]] w fun e w' => e = .returned (.bool (coversB a n b m)) ∧ Below w.heap.size w w' := by
  have HG1 := Lib.hid (ref_Good a n ha)
  have HG2 := Lib.hid (ref_Good b m hb)
  have Hc0 : Hid (coversB a n b m = (goodB a n && goodB b m && decide (n ≤ m) && (cutv b n.toNat == a))) := rfl
  by_cases g1 : goodB a n = true
  · have hn := (goodB_iff a n).1 g1
    rw [g1] at HG1 Hc0
    clear g1
    by_cases g2 : goodB b m = true
    · rw [g2] at HG2 Hc0
      clear g2
      obtain ⟨k, rfl⟩ := Int.eq_ofNat_of_zero_le hn.1
      have Hm := Lib.hid (ref_Cut b k hb (by omega))
      have hk : k ≤ 32 := by omega
      clear hn
      by_cases h3 : (k : Int) ≤ m
      · have d3 : decide (m < (k : Int)) = false := by simp; omega
        have Hc : Hid (coversB a (k : Int) b m = ((cutv b k : Int) == (a : Int))) := by
          rw [Hid, Hc0.out, Int.toNat_natCast, show decide ((k : Int) ≤ m) = true from by simpa using h3]
          generalize cutv b k = c
          rw [Bool.eq_iff_iff]; simp; omega
        clear Hc0 h3
        generalize cutv b k = c at *
        go_enter Try.func15, Try.ntmps15
        go_wp2_with fail
        refine (HG1.out _).mono ?_; rintro e w1 ⟨rfl, hb1⟩
        obtain ⟨c0, c1, c2, c3, hz0, hz⟩ := two_boxes hb1
        have k1 := Lib.hid ((Go.Joins.below_alloc2 w _ _).trans (hb1.mono (by simp; omega)))
        clear hb1
        go_wp2_with fail
        refine (HG2.out _).mono ?_; rintro e w2 ⟨rfl, hb2⟩
        have f0 := (hb2.cell (p := ⟨w.heap.size, 0, none⟩) (by simp; omega)).trans c0
        have f1 := (hb2.cell (p := ⟨w.heap.size, 1, none⟩) (by simp; omega)).trans c1
        have f2 := (hb2.cell (p := ⟨w.heap.size + 1, 0, none⟩) (by simp; omega)).trans c2
        have f3 := (hb2.cell (p := ⟨w.heap.size + 1, 1, none⟩) (by simp; omega)).trans c3
        have k2 := Lib.hid (k1.out.trans (hb2.mono k1.out.size))
        clear hb2 c0 c1 c2 c3
        go_wp2_with fail
        go_quiet ((go_at_call 34; exact quiet_eq (Hm.out _)))
        go_wp2
        go_ret
        exact ⟨by rw [Hc.out]; rfl, below_drewN k2.out _⟩
      · have d3 : decide (m < (k : Int)) = true := by simp; omega
        have Hc : Hid (coversB a (k : Int) b m = false) := by
          rw [Hid, Hc0.out, show decide ((k : Int) ≤ m) = false from by simpa using h3]; rfl
        clear Hc0 h3
        go_enter Try.func15, Try.ntmps15
        go_wp2_with fail
        refine (HG1.out _).mono ?_; rintro e w1 ⟨rfl, hb1⟩
        obtain ⟨c0, c1, c2, c3, hz0, hz⟩ := two_boxes hb1
        have k1 := Lib.hid ((Go.Joins.below_alloc2 w _ _).trans (hb1.mono (by simp; omega)))
        clear hb1
        go_wp2_with fail
        refine (HG2.out _).mono ?_; rintro e w2 ⟨rfl, hb2⟩
        have f0 := (hb2.cell (p := ⟨w.heap.size, 0, none⟩) (by simp; omega)).trans c0
        have f1 := (hb2.cell (p := ⟨w.heap.size, 1, none⟩) (by simp; omega)).trans c1
        have f2 := (hb2.cell (p := ⟨w.heap.size + 1, 0, none⟩) (by simp; omega)).trans c2
        have f3 := (hb2.cell (p := ⟨w.heap.size + 1, 1, none⟩) (by simp; omega)).trans c3
        have k2 := Lib.hid (k1.out.trans (hb2.mono k1.out.size))
        clear hb2 c0 c1 c2 c3
        go_wp2_with fail
        go_ret
        exact ⟨by rw [Hc.out]; rfl, k2.out⟩
    · have g2 : goodB b m = false := by simpa using g2
      rw [g2] at HG2 Hc0
      have Hc : Hid (coversB a n b m = false) := by rw [Hid, Hc0.out]; rfl
      clear g2 Hc0 hn
      go_enter Try.func15, Try.ntmps15
      go_wp2_with fail
      refine (HG1.out _).mono ?_; rintro e w1 ⟨rfl, hb1⟩
      obtain ⟨c0, c1, c2, c3, hz0, hz⟩ := two_boxes hb1
      have k1 := Lib.hid ((Go.Joins.below_alloc2 w _ _).trans (hb1.mono (by simp; omega)))
      clear hb1
      go_wp2_with fail
      refine (HG2.out _).mono ?_; rintro e w2 ⟨rfl, hb2⟩
      have k2 := Lib.hid (k1.out.trans (hb2.mono k1.out.size))
      clear hb2
      go_wp2_with fail
      go_ret
      exact ⟨by rw [Hc.out]; rfl, k2.out⟩
  · have g1 : goodB a n = false := by simpa using g1
    rw [g1] at HG1 Hc0
    have Hc : Hid (coversB a n b m = false) := by rw [Hid, Hc0.out]; rfl
    clear g1 Hc0
    go_enter Try.func15, Try.ntmps15
    go_wp2_with fail
    refine (HG1.out _).mono ?_; rintro e w1 ⟨rfl, hb1⟩
    have k1 := Lib.hid ((Go.Joins.below_alloc2 w _ _).trans (hb1.mono (by simp; omega)))
    clear hb1
    go_wp2_with fail
    go_ret
    exact ⟨by rw [Hc.out]; rfl, k1.out⟩

end Go.Proofs.Ytpabblkppbfbjaa.pfx
