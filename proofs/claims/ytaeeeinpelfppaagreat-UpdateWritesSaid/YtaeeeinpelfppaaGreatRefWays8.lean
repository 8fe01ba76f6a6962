/- What confluenceref08.Ways and numbers return. Condition: at most 10^5 pieces and numbers together; at most 10^5 bytes. -/
import Derived.Test.YtaeeeinpelfppaaGreatRefGood04
import Derived.Test.YtaeeeinpelfppaaGreatRefPath8
namespace Go.Proofs.YtaeeeinpelfppaaGreat.attr
open Go.RowKit Go.Proofs.YtaeeeinpelfppaaGreat.kit Go.Proofs.YtaeeeinpelfppaaGreat.mem Go.Proofs.YtaeeeinpelfppaaGreat.foot Go.Proofs.YtaeeeinpelfppaaGreat.nums Go.Proofs.YtaeeeinpelfppaaGreat.asn Go.Proofs.YtaeeeinpelfppaaGreat.pth Go.Proofs.YtaeeeinpelfppaaGreat.octet
set_option linter.unusedVariables false
set_option linter.unusedSimpArgs false
set_option maxRecDepth 100000 in
set_option maxHeartbeats 2000000 in
theorem refWays_any (A : Option Addr) (c : Nat) (l : List Sg) (G : Foot) (w : World) (z : Bool) (hz : z = true ↔ WaysS l) (hl : nsz l ≤ 100000) (hs : Els 2 rSeg w G A l) :
    Calls Tryz.prog 86 #[.slice A l.length c] w fun e w' => e = .returned (.bool z) ∧ Below w.heap.size w w' := by
  have HS := Lib.hid hs
  have HZ := Lib.hid hz
  have hll := nsz_len l
  have HG : Hid (∀ (g : Bool) (w' : World), (g = true ↔ GoodS l) → Below w.heap.size w w' → Calls Tryz.prog 112 #[.slice A l.length c] w' fun e w2 => e = .returned (.bool g) ∧ Below w'.heap.size w' w2) := fun g w' hg hb => refGood04_any A c l G w' g hg hl (hs.bel keeps_seg hb)
  obtain ⟨g, hg⟩ : ∃ g : Bool, g = true ↔ GoodS l := by
    rcases Classical.em (GoodS l) with h | h
    · exact ⟨true, by simp [h]⟩
    · exact ⟨false, by simp [h]⟩
  have HGg := Lib.hid hg
  have hal := allP_sz l
  clear hs hz hg
  go_enter Tryz.func86, Tryz.ntmps86
  go_wp2_with fail
  go_loopw [3, 4] (fun v3 v8 wr => ∃ i n : Nat, i ≤ l.length ∧ v8 = .int .i64 i ∧ v3 = .int .i64 n ∧ n = (allP (l.take i)).length ∧ Below w.heap.size w wr) (fun _ v8 _ => l.length - (intOf v8).toNat)
  case atStart => exact ⟨0, 0, by omega, rfl, rfl, rfl, Below.refl _ _⟩
  case round =>
    obtain ⟨i, n, hi, rfl, rfl, hn, hb⟩ := hrel
    have HB := Lib.hid hb
    have HN := Lib.hid hn
    have hn1 := allP_sz (l.take i)
    have hn2 := nsz_take l i
    have hn3 : n ≤ 100000 := by omega
    clear hb hn hn1 hn2
    by_cases hlt : i < l.length
    · have hsz := nsz_at hlt
      obtain ⟨b, off, cs, rfl, _, hbl, hrr, hc⟩ := HS.out.at_ keeps_seg hlt
      obtain ⟨A1, c1, rfl, _, _, _, _, _, _⟩ := seg_at hrr
      have q0 := (HB.out.cell (p := ⟨b, off + i * 2 + 0, none⟩) hbl).trans (hc 0 _ rfl)
      have q1 := (HB.out.cell (p := ⟨b, off + i * 2 + 1, none⟩) hbl).trans (hc 1 _ rfl)
      rw [Nat.add_zero] at q0
      have hi1 : (i : Int) < (l.length : Int) := by omega
      have HN2 : Hid (n + l[i].2.length = (allP (l.take (i + 1))).length) := by rw [Hid, allP_take hlt, List.length_append, HN.out]
      have hn4 : l[i].2.length ≤ 100000 := by omega
      clear hc hrr hbl hsz hal
      generalize l[i].1 = k1 at *
      generalize l[i].2.length = m at *
      go_wp2_with fail
      go_roundw
      case rel => exact ⟨i + 1, n + m, by omega, by go_num, by go_num, HN2.out, HB.out⟩
      case measure => simp [intOf]; omega
    · obtain rfl : i = l.length := by omega
      rw [List.take_length] at HN
      have HGa := Lib.hid (HG.out g wr HGg.out HB.out)
      by_cases h2 : n ≤ 2000
      · have d2 : decide ((n : Int) ≤ 2000) = true := by rw [decide_eq_true_iff]; omega
        have HZg : Hid (z = g) := by
          rw [Hid, Bool.eq_iff_iff, HZ.out, HGg.out]
          exact ⟨fun h => h.1, fun h => ⟨h, by rw [← HN.out]; exact h2⟩⟩
        have hcs : g = true ∨ g = false := by cases g <;> simp
        rcases hcs with rfl | rfl
        all_goals
          go_wp2_with (go_at_call 112; refine HGa.out.mono ?_; rintro e w2 ⟨rfl, hb2⟩; have HB2 := Lib.hid (HB.out.trans (hb2.mono HB.out.size)); clear hb2)
          go_ret
          exact ⟨by rw [HZg.out]; rfl, HB2.out⟩
      · have d2 : decide ((n : Int) ≤ 2000) = false := by rw [decide_eq_false_iff_not]; omega
        have HZf : Hid (z = false) := by
          rw [← Bool.not_eq_true, HZ.out]
          intro h
          have := h.2
          rw [← HN.out] at this
          omega
        have hcs : g = true ∨ g = false := by cases g <;> simp
        rcases hcs with rfl | rfl
        all_goals
          go_wp2_with (go_at_call 112; refine HGa.out.mono ?_; rintro e w2 ⟨rfl, hb2⟩; have HB2 := Lib.hid (HB.out.trans (hb2.mono HB.out.size)); clear hb2)
          go_ret
          exact ⟨by rw [HZf.out]; rfl, HB2.out⟩
end Go.Proofs.YtaeeeinpelfppaaGreat.attr
