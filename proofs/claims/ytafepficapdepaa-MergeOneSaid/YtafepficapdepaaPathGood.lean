/- What path.good and path.Good return. Condition: at most 10^5 pieces and numbers together. -/
import Derived.Test.YtafepficapdepaaPathSame
import Derived.Test.YtafepficapdepaaNormSize
namespace Go.Proofs.Ytafepficapdepaa.pth
open Go.RowKit Go.Proofs.Ytafepficapdepaa.kit Go.Proofs.Ytafepficapdepaa.mem Go.Proofs.Ytafepficapdepaa.foot Go.Proofs.Ytafepficapdepaa.nums Go.Proofs.Ytafepficapdepaa.asn
set_option linter.unusedVariables false
set_option linter.unusedSimpArgs false
/-- a path as it may be sent -/
def GoodS (l : List Sg) : Prop := (∀ s ∈ l, 1 ≤ s.2.length ∧ s.2.length ≤ 255) ∧ l.length ≤ 100 ∧ normS l = l
set_option maxRecDepth 100000 in
set_option maxHeartbeats 2000000 in
theorem good_any (A : Option Addr) (c : Nat) (l : List Sg) (G : Foot) (w : World) (z : Bool) (hz : z = true ↔ GoodS l) (hl : nsz l ≤ 100000) (hs : Els 2 rSeg w G A l) :
    Calls Try.prog 171 #[.slice A l.length c] w fun e w' => e = .returned (.bool z) ∧ Below w.heap.size w w' := by
  have HS := Lib.hid hs
  have HZ := Lib.hid hz
  have hll := nsz_len l
  have HN : Hid (∀ w', Below w.heap.size w w' → Calls Try.prog 157 #[.slice A l.length c] w' (RetP (normS l) w')) := fun w' hb => norm_any A c l G w' (by omega) (hs.bel keeps_seg hb)
  have HSm : Hid (∀ w1 w2 A1 c1 vs, Below w.heap.size w w1 → Lst 2 rSeg 122 (fun k => w1.heap.size ≤ k) w1 w2 A1 (normS l).length c1 vs (normS l) → Calls Try.prog 170 #[.slice A1 (normS l).length c1, .slice A l.length c] w2 fun e w' => e = .returned (.bool (decide (normS l = l))) ∧ Below w2.heap.size w2 w') := fun w1 w2 A1 c1 vs hb hL => by
    have := nsz_norm l
    exact same_any A1 A c1 c (normS l) l _ G w2 (by omega) (by omega) (hL.els keeps_seg) (hs.bel keeps_seg (hb.trans (hL.acc.bel.mono hb.size)))
  clear hs hz
  go_enter Try.func171, Try.ntmps171
  go_wp2_with fail
  go_loopw [7] (fun v7 wr => ∃ i : Nat, i ≤ l.length ∧ v7 = .int .i64 i ∧ (∀ s ∈ l.take i, 1 ≤ s.2.length ∧ s.2.length ≤ 255) ∧ Below w.heap.size w wr) (fun v7 _ => l.length - (intOf v7).toNat)
  case atStart => exact ⟨0, by omega, rfl, fun s h => by simp at h, Below.refl _ _⟩
  case round =>
    obtain ⟨i, hi, rfl, hE, hb⟩ := hrel
    have HE := Lib.hid hE
    have HB := Lib.hid hb
    clear hE hb
    by_cases hlt : i < l.length
    · obtain ⟨b, off, cs, rfl, _, hbl, hrr, hc⟩ := HS.out.at_ keeps_seg hlt
      obtain ⟨A1, c1, rfl, _, _, _, _, _, _⟩ := seg_at hrr
      have q0 := (HB.out.cell (p := ⟨b, off + i * 2 + 0, none⟩) hbl).trans (hc 0 _ rfl)
      have q1 := (HB.out.cell (p := ⟨b, off + i * 2 + 1, none⟩) hbl).trans (hc 1 _ rfl)
      rw [Nat.add_zero] at q0
      have hi1 : (i : Int) < (l.length : Int) := by omega
      have HBa : Hid (Below w.heap.size w (wr.alloc (.cells #[.int .i64 l[i].1, .slice A1 l[i].2.length c1] 122))) := HB.out.alloc HB.out.size _
      have hw : l[i].2.length < 1 ∨ (¬ l[i].2.length < 1 ∧ 255 < l[i].2.length) ∨ (¬ l[i].2.length < 1 ∧ ¬ 255 < l[i].2.length) := by omega
      have HBad : Hid (¬ (1 ≤ l[i].2.length ∧ l[i].2.length ≤ 255) → z = false) := fun h => by
        rw [← Bool.not_eq_true, HZ.out]
        intro hg
        exact h (hg.1 _ (List.getElem_mem hlt))
      have HGo : Hid (1 ≤ l[i].2.length ∧ l[i].2.length ≤ 255 → ∀ s ∈ l.take (i + 1), 1 ≤ s.2.length ∧ s.2.length ≤ 255) := fun h s hs => by
        rw [List.take_succ_eq_append_getElem hlt] at hs
        rcases List.mem_append.1 hs with hs | hs
        · exact HE.out s hs
        · simp only [List.mem_singleton] at hs; rw [hs]; exact h
      clear hc hrr hbl
      generalize l[i].1 = k1 at *
      generalize l[i].2.length = n1 at *
      rcases hw with h1 | ⟨h1, h2⟩ | ⟨h1, h2⟩
      · have d1 : decide ((n1 : Int) < 1) = true := by rw [decide_eq_true_iff]; omega
        have HZf := Lib.hid (HBad.out (by omega))
        go_wp2_with fail
        go_ret
        exact ⟨by rw [HZf.out]; rfl, HBa.out⟩
      · have d1 : decide ((n1 : Int) < 1) = false := by rw [decide_eq_false_iff_not]; omega
        have d2 : decide ((255 : Int) < (n1 : Int)) = true := by rw [decide_eq_true_iff]; omega
        have HZf := Lib.hid (HBad.out (by omega))
        go_wp2_with fail
        go_ret
        exact ⟨by rw [HZf.out]; rfl, HBa.out⟩
      · have d1 : decide ((n1 : Int) < 1) = false := by rw [decide_eq_false_iff_not]; omega
        have d2 : decide ((255 : Int) < (n1 : Int)) = false := by rw [decide_eq_false_iff_not]; omega
        have HGd := Lib.hid (HGo.out (by omega))
        go_wp2_with fail
        go_roundw
        case rel => exact ⟨i + 1, by omega, by go_num, HGd.out, HBa.out⟩
        case measure => simp [intOf]; omega
    · obtain rfl : i = l.length := by omega
      have HA : Hid (∀ s ∈ l, 1 ≤ s.2.length ∧ s.2.length ≤ 255) := fun s hs => HE.out s (by rw [List.take_length]; exact hs)
      have HNb := Lib.hid (HN.out _ HB.out)
      by_cases h100 : l.length ≤ 100
      · have d1 : decide ((l.length : Int) ≤ 100) = true := by rw [decide_eq_true_iff]; omega
        have HZt : Hid (z = decide (normS l = l)) := by
          rw [Hid, Bool.eq_iff_iff, HZ.out, decide_eq_true_iff]
          exact ⟨fun h => h.2.2, fun h => ⟨HA.out, h100, h⟩⟩
        go_wp2_with (first
          | (go_at_call 157; refine HNb.out.mono ?_; rintro e w2 ⟨A1, c1, vs, rfl, hL⟩; have HSx := Lib.hid (HSm.out _ _ _ _ _ HB.out hL); have HB2 := Lib.hid (HB.out.trans (hL.acc.bel.mono HB.out.size)); clear hL)
          | (go_at_call 170; refine HSx.out.mono ?_; rintro e w3 ⟨rfl, hb3⟩; have HB3 := Lib.hid (HB2.out.trans (hb3.mono HB2.out.size)); clear hb3))
        go_ret
        exact ⟨by rw [HZt.out]; simp, HB3.out⟩
      · have d1 : decide ((l.length : Int) ≤ 100) = false := by rw [decide_eq_false_iff_not]; omega
        have HZf : Hid (z = false) := by
          rw [Hid, ← Bool.not_eq_true, HZ.out]
          intro h
          exact h100 h.2.1
        go_wp2_with fail
        go_ret
        exact ⟨by rw [HZf.out]; simp, HB.out⟩
theorem Good_any (A : Option Addr) (c : Nat) (l : List Sg) (G : Foot) (w : World) (z : Bool) (hz : z = true ↔ GoodS l) (hl : nsz l ≤ 100000) (hs : Els 2 rSeg w G A l) :
    Calls Try.prog 160 #[.slice A l.length c] w fun e w' => e = .returned (.bool z) ∧ Below w.heap.size w w' := by
  have HA := Lib.hid (good_any A c l G w z hz hl hs)
  clear hz hl hs
  go_enter Try.func160, Try.ntmps160
  go_wp2_with fail
  refine HA.out.mono ?_; rintro e w' ⟨rfl, hb⟩
  have HB := Lib.hid hb
  clear hb
  go_wp2_with fail
  first | exact ⟨rfl, HB.out⟩ | (go_ret; exact ⟨rfl, HB.out⟩)
theorem Same_any (A B : Option Addr) (c d : Nat) (l r : List Sg) (G H : Foot) (w : World) (hl : nsz l ≤ 1000000) (hr : nsz r ≤ 1000000) (h1 : Els 2 rSeg w G A l) (h2 : Els 2 rSeg w H B r) :
    Calls Try.prog 158 #[.slice A l.length c, .slice B r.length d] w fun e w' => e = .returned (.bool (decide (l = r))) ∧ Below w.heap.size w w' := by
  have HA := Lib.hid (same_any A B c d l r G H w hl hr h1 h2)
  clear hl hr h1 h2
  go_enter Try.func158, Try.ntmps158
  go_wp2_with fail
  refine HA.out.mono ?_; rintro e w' ⟨rfl, hb⟩
  have HB := Lib.hid hb
  clear hb
  go_wp2_with fail
  first | exact ⟨rfl, HB.out⟩ | (go_ret; exact ⟨rfl, HB.out⟩)
end Go.Proofs.Ytafepficapdepaa.pth
