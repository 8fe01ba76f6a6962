/- The walk of the law PlaneBoxes: the Go text returns true and writes nothing that was there. No condition. -/
import Derived.Test.YtpggdofleehmdaaPlaneBoxFns
namespace Go.Proofs.Ytpggdofleehmdaa.planeBoxes
open Go.RowKit Go.Joins Go.Proofs.Ytpggdofleehmdaa.plane Go.Proofs.Ytpggdofleehmdaa.kit Go.Proofs.Ytpggdofleehmdaa.pfx
set_option linter.unusedVariables false

theorem inside (p a : Nat) (n : Nat) (hn : n ≤ 32) (h : coversB p (n : Int) a 32 = true) :
    (pt 32 p).1 + (lo (32 - n)).1 ≤ (pt 32 a).1 ∧ (pt 32 a).1 ≤ (pt 32 p).1 + (hi (32 - n)).1 ∧ (pt 32 p).2 + (lo (32 - n)).2 ≤ (pt 32 a).2 ∧ (pt 32 a).2 ≤ (pt 32 p).2 + (hi (32 - n)).2 := by
  have hc : p = a / 2 ^ (32 - n) * 2 ^ (32 - n) := by
    unfold coversB at h
    simp only [Bool.and_eq_true, beq_iff_eq, Int.toNat_natCast] at h
    rw [← h.2, cutv]
  have h1 := pt_split p (32 - n) a hc 32 (by omega)
  have h2 := pt_span (32 - n) a
  rw [h1]
  dsimp only
  omega

set_option maxRecDepth 100000 in
theorem bad_core (p : Nat) (n : Int) (a : Nat) (hp : p < 4294967296) (hg : goodB p n = false) (W : World) :
    Calls Try.prog 11 #[.agg #[.int .u32 p, .int .i64 n], .int .u32 a] W fun e w' => e = .returned (.bool true) ∧ Below W.heap.size W w' := by
  have HB := Lib.hid (box_bad p n hp hg)
  have HG := Lib.hid (ref_Good p n hp)
  rw [hg] at HG
  clear hg
  go_enter Try.func11, Try.ntmps11
  go_wp2_with fail
  refine (HB.out _).mono ?_; rintro e w1 ⟨rfl, hb1⟩
  have c0 := (hb1.cell (p := ⟨W.heap.size, 0, none⟩) (by simp)).trans (show _ = some (.int .u32 p) by go_simp)
  have c1 := (hb1.cell (p := ⟨W.heap.size, 1, none⟩) (by simp)).trans (show _ = some (.int .i64 n) by go_simp)
  have K1 := Lib.hid (((Below.refl W.heap.size W).alloc (Nat.le_refl _) _).trans (hb1.mono (by simp)))
  clear hb1
  go_wp2_with fail
  refine (HG.out _).mono ?_; rintro e w2 ⟨rfl, hb2⟩
  have K2 := Lib.hid (K1.out.trans (hb2.mono K1.out.size))
  clear hb2
  go_wp2_with fail
  refine (lives_any _).mono ?_; rintro e w3 ⟨rfl, hb3⟩
  go_wp2_with fail
  go_ret
  exact ⟨rfl, K2.out.trans (hb3.mono K2.out.size)⟩

set_option maxRecDepth 100000 in
set_option maxHeartbeats 1000000 in
theorem good_core (p n a : Nat) (hp : p < 4294967296) (hn : n ≤ 32) (ha : a < 4294967296) (hg : goodB p (n : Int) = true) (W : World) :
    Calls Try.prog 11 #[.agg #[.int .u32 p, .int .i64 n], .int .u32 a] W fun e w' => e = .returned (.bool true) ∧ Below W.heap.size W w' := by
  have HB := Lib.hid (box_good p n hp hn hg)
  have HR := Lib.hid (ref_Box p (32 - n) hp (by omega))
  have HG := Lib.hid (ref_Good p n hp)
  rw [hg] at HG
  clear hg
  have HP := Lib.hid (plane_Point a ha)
  have HC := Lib.hid (ref_Covers p n a 32 hp ha)
  have hin := inside p a n hn
  have Hsub : Hid ((32 : Int) - (n : Int) = ((32 - n : Nat) : Int)) := by rw [Hid]; omega
  generalize (pt 32 p).1 + (lo (32 - n)).1 = x1 at *
  generalize (pt 32 p).1 + (hi (32 - n)).1 = x2 at *
  generalize (pt 32 p).2 + (lo (32 - n)).2 = y1 at *
  generalize (pt 32 p).2 + (hi (32 - n)).2 = y2 at *
  generalize (pt 32 a).1 = u at *
  generalize (pt 32 a).2 = v at *
  by_cases hc : coversB p (n : Int) a 32 = true
  · obtain ⟨i1, i2, i3, i4⟩ := hin hc
    clear hin hc HC
    go_enter Try.func11, Try.ntmps11
    go_wp2_with fail
    refine (HB.out _).mono ?_; rintro e w1 ⟨rfl, hb1⟩
    have c0 := (hb1.cell (p := ⟨W.heap.size, 0, none⟩) (by simp)).trans (show _ = some (.int .u32 p) by go_simp)
    have c1 := (hb1.cell (p := ⟨W.heap.size, 1, none⟩) (by simp)).trans (show _ = some (.int .i64 n) by go_simp)
    have z1 := hb1.size
    simp at z1
    have K1 := Lib.hid (((Below.refl W.heap.size W).alloc (Nat.le_refl _) _).trans (hb1.mono (by simp)))
    clear hb1
    go_wp2_with fail
    refine (HG.out _).mono ?_; rintro e w2 ⟨rfl, hb2⟩
    have d0 := (hb2.cell (p := ⟨W.heap.size, 0, none⟩) (by simp; omega)).trans c0
    have d1 := (hb2.cell (p := ⟨W.heap.size, 1, none⟩) (by simp; omega)).trans c1
    have K2 := Lib.hid (K1.out.trans (hb2.mono K1.out.size))
    clear hb2 c0 c1
    go_wp2_with fail
    rw [Hsub.out]
    refine (HR.out _).mono ?_; rintro e w' ⟨rfl, rfl⟩
    go_wp2_with fail
    refine (HP.out _).mono ?_; rintro e w' ⟨rfl, rfl⟩
    go_wp2_with fail
    refine (lives_any _).mono ?_; rintro e w3 ⟨rfl, hb3⟩
    go_wp2_with fail
    go_ret
    exact ⟨rfl, K2.out.trans (hb3.mono K2.out.size)⟩
  · have hc : coversB p (n : Int) a 32 = false := by simpa using hc
    rw [hc] at HC
    clear hin hc
    go_enter Try.func11, Try.ntmps11
    go_wp2_with fail
    refine (HB.out _).mono ?_; rintro e w1 ⟨rfl, hb1⟩
    have c0 := (hb1.cell (p := ⟨W.heap.size, 0, none⟩) (by simp)).trans (show _ = some (.int .u32 p) by go_simp)
    have c1 := (hb1.cell (p := ⟨W.heap.size, 1, none⟩) (by simp)).trans (show _ = some (.int .i64 n) by go_simp)
    have z1 := hb1.size
    simp at z1
    have K1 := Lib.hid (((Below.refl W.heap.size W).alloc (Nat.le_refl _) _).trans (hb1.mono (by simp)))
    clear hb1
    go_wp2_with fail
    refine (HG.out _).mono ?_; rintro e w2 ⟨rfl, hb2⟩
    have d0 := (hb2.cell (p := ⟨W.heap.size, 0, none⟩) (by simp; omega)).trans c0
    have d1 := (hb2.cell (p := ⟨W.heap.size, 1, none⟩) (by simp; omega)).trans c1
    have K2 := Lib.hid (K1.out.trans (hb2.mono K1.out.size))
    clear hb2 c0 c1
    go_wp2_with fail
    rw [Hsub.out]
    refine (HR.out _).mono ?_; rintro e w' ⟨rfl, rfl⟩
    go_wp2_with fail
    refine (HP.out _).mono ?_; rintro e w' ⟨rfl, rfl⟩
    go_wp2_with fail
    all_goals first
      | (refine (HC.out _).mono ?_; rintro e w3 ⟨rfl, hb3⟩
         go_wp2_with fail
         refine (lives_any _).mono ?_; rintro e w4 ⟨rfl, hb4⟩
         go_wp2_with fail
         go_ret
         exact ⟨rfl, (K2.out.trans (hb3.mono K2.out.size)).trans (hb4.mono (K2.out.trans (hb3.mono K2.out.size)).size)⟩)
      | (refine (lives_any _).mono ?_; rintro e w3 ⟨rfl, hb3⟩
         go_wp2_with fail
         go_ret
         exact ⟨rfl, K2.out.trans (hb3.mono K2.out.size)⟩)

set_option maxRecDepth 100000 in
theorem walk {H : Type} {enc : TypeId × Value → H} {W : World} {base : Nat} {v0 : Value} {d0 : DataW H} {p0 : List MemPlace}
    (hv0 : Value.okWide Try.prog W .any base 55 v0) (h0 : DataW.Trod enc Try.prog W 0 (fun _ => true) true 55 v0 d0 p0) (a1 : Int) (w1 : (Lit.int .u32 a1).wf = true) :
    Calls Try.prog 11 #[v0, .int .u32 a1] W fun e w' => e = .returned (.bool true) ∧ Below W.heap.size W w' := by
  obtain ⟨c0, c1, y0, y1, m, rfl, rfl, rfl, hy0, hy1⟩ := open_agg2 Try.underlying55 (by kernel_rfl) (by kernel_rfl) hv0 h0
  obtain ⟨p, e0, _, wp⟩ := DataW.trod_int Try.underlying22 hy0
  obtain ⟨n, e1, _, wn⟩ := DataW.trod_int Try.underlying3 hy1
  simp at e0 e1
  subst e0 e1
  have bp := wf_u32 wp
  have ba := wf_u32 w1
  obtain ⟨p, rfl⟩ := Int.eq_ofNat_of_zero_le bp.1
  obtain ⟨a, rfl⟩ := Int.eq_ofNat_of_zero_le ba.1
  by_cases hg : goodB p n = true
  · have hn := (goodB_iff p n).1 hg
    obtain ⟨k, rfl⟩ := Int.eq_ofNat_of_zero_le hn.1
    exact good_core p k a (by omega) (by omega) (by omega) hg W
  · exact bad_core p n a (by omega) (by simpa using hg) W

end Go.Proofs.Ytpggdofleehmdaa.planeBoxes
