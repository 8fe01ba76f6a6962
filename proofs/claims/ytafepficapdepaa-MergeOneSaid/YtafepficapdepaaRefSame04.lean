/- What confluenceref04.Same returns. Condition: at most 10^6 pieces and numbers together. -/
import Derived.Test.YtafepficapdepaaRefSame02
import Derived.Test.YtafepficapdepaaPathSame
namespace Go.Proofs.Ytafepficapdepaa.pth
open Go.RowKit Go.Proofs.Ytafepficapdepaa.kit Go.Proofs.Ytafepficapdepaa.mem Go.Proofs.Ytafepficapdepaa.foot Go.Proofs.Ytafepficapdepaa.nums Go.Proofs.Ytafepficapdepaa.asn
set_option linter.unusedVariables false
set_option linter.unusedSimpArgs false
set_option maxRecDepth 100000 in
set_option maxHeartbeats 2000000 in
theorem refSame04_q (A B : Option Addr) (c d : Nat) (l r : List Sg) (G H : Foot) (w : World) (hl : nsz l ≤ 1000000) (hr : nsz r ≤ 1000000) (h1 : Els 2 rSeg w G A l) (h2 : Els 2 rSeg w H B r) :
    Calls Try.prog 31 #[.slice A l.length c, .slice B r.length d] w fun e w' => e = .returned (.bool (decide (l = r))) ∧ Draws w w' := by
  have H1 := Lib.hid h1
  have H2 := Lib.hid h2
  have hll := nsz_len l
  obtain ⟨z, hz⟩ : ∃ z, z = decide (l = r) := ⟨_, rfl⟩
  have HZ := Lib.hid hz
  rw [← hz]
  clear h1 h2 hz
  by_cases hlen : l.length = r.length
  · have HEq : Hid (∀ i, (∀ j, j < i → l[j]? = r[j]?) → i = l.length → z = true) := fun i h e => by
      rw [HZ.out, decide_eq_true_iff]
      subst e
      refine List.ext_getElem? fun j => ?_
      rcases Nat.lt_or_ge j l.length with hj | hj
      · exact h j hj
      · rw [List.getElem?_eq_none hj, List.getElem?_eq_none (by omega)]
    have HNe : Hid (∀ i (hi : i < l.length) (hi2 : i < r.length), l[i] ≠ r[i] → z = false) := fun i hi hi2 hne => by
      rw [HZ.out, decide_eq_false_iff_not]
      intro e; subst e; exact hne rfl
    clear HZ
    go_enter Try.func31, Try.ntmps31
    rw [← hlen]
    have HLen := Lib.hid hlen
    clear hlen
    go_wp2_with fail
    go_loopw [5] (fun v5 wr => ∃ i : Nat, i ≤ l.length ∧ v5 = .int .i64 i ∧ (∀ j, j < i → l[j]? = r[j]?) ∧ Draws w wr) (fun v5 _ => l.length - (intOf v5).toNat)
    case atStart => exact ⟨0, by omega, rfl, fun j h => by omega, Draws.refl _⟩
    case round =>
      obtain ⟨i, hi, rfl, hE, hb⟩ := hrel
      have HE := Lib.hid hE
      have HB := Lib.hid hb
      clear hE hb
      by_cases hlt : i < l.length
      · have hlt2 : i < r.length := by have := HLen.out; omega
        have hn1 := nsz_at hlt
        have hn2 := nsz_at hlt2
        obtain ⟨b, off, cs, rfl, _, hbl, hrr, hc⟩ := H1.out.at_ keeps_seg hlt
        obtain ⟨A1, c1, rfl, _, _, _, _, hu1, _⟩ := seg_at hrr
        obtain ⟨b2, off2, cs2, rfl, _, hbl2, hrr2, hc2⟩ := H2.out.at_ keeps_seg hlt2
        obtain ⟨A2, c2, rfl, _, _, _, _, hu2, _⟩ := seg_at hrr2
        have q0 := (HB.out.cell ⟨b, off + i * 2 + 0, none⟩).trans (hc 0 _ rfl)
        have q1 := (HB.out.cell ⟨b, off + i * 2 + 1, none⟩).trans (hc 1 _ rfl)
        have r0 := (HB.out.cell ⟨b2, off2 + i * 2 + 0, none⟩).trans (hc2 0 _ rfl)
        have r1 := (HB.out.cell ⟨b2, off2 + i * 2 + 1, none⟩).trans (hc2 1 _ rfl)
        rw [Nat.add_zero] at q0 r0
        have HSa : Hid (∀ n, Calls Try.prog 61 #[.slice A1 l[i].2.length c1, .slice A2 r[i].2.length c2] (wr.drewN n) fun e w2 => e = .returned (.bool (decide (l[i].2 = r[i].2))) ∧ ∃ m, w2 = (wr.drewN n).drewN m) := fun n => refSame02_q A1 A2 c1 c2 l[i].2 r[i].2 G H (wr.drewN n) (by omega) (Rg.bel hu1 (HB.out.drewN n).bel) (Rg.bel hu2 (HB.out.drewN n).bel)
        have hi1 : (i : Int) < (l.length : Int) := by omega
        have hi2 : (i : Int) < (r.length : Int) := by omega
        have HE2 : Hid (l[i] = r[i] → ∀ j, j < i + 1 → l[j]? = r[j]?) := fun hs j hj => by
          by_cases e : j = i
          · subst e; rw [List.getElem?_eq_getElem hlt, List.getElem?_eq_getElem hlt2, hs]
          · exact HE.out j (by omega)
        have HZf := Lib.hid (HNe.out i hlt hlt2)
        have HPr : Hid (l[i] = r[i] ↔ l[i].1 = r[i].1 ∧ l[i].2 = r[i].2) := by rw [Hid, Prod.ext_iff]
        clear hc hrr hc2 hrr2 hu1 hu2 hbl hbl2
        generalize l[i] = s1 at *
        generalize r[i] = s2 at *
        obtain ⟨k1, ns1⟩ := s1
        obtain ⟨k2, ns2⟩ := s2
        dsimp only at *
        by_cases hk : k1 = k2
        · subst hk
          by_cases hs : ns1 = ns2
          · subst hs
            rw [show decide (ns1 = ns1) = true by simp] at HSa
            have HE3 := Lib.hid (HE2.out rfl)
            have d1 : (k1 != k1) = false := by simp
            generalize ns1.length = m1 at *
            go_wp2_with fail
            go_quiet (refine Calls.quiet_of (HSa.out _))
            go_wp2_with fail
            go_roundw
            case rel => exact ⟨i + 1, by omega, by go_num, HE3.out, by first | exact HB.out | exact HB.out.drewN _⟩
            case measure => simp [intOf]; omega
          · rw [show decide (ns1 = ns2) = false by simp [hs]] at HSa
            have HZg := Lib.hid (HZf.out (fun e => hs (HPr.out.1 e).2))
            have d1 : (k1 != k1) = false := by simp
            clear hs
            generalize ns1.length = m1 at *
            generalize ns2.length = m2 at *
            go_wp2_with fail
            go_quiet (refine Calls.quiet_of (HSa.out _))
            go_wp2_with fail
            go_ret
            exact ⟨by rw [HZg.out]; rfl, by first | exact HB.out | exact HB.out.drewN _⟩
        · have HZg := Lib.hid (HZf.out (fun e => hk (HPr.out.1 e).1))
          have d1 : (k1 == k2) = false := by rw [beq_eq_false_iff_ne]; exact hk
          have d2 : (k1 != k2) = true := by simp [hk]
          clear HSa
          generalize ns1.length = m1 at *
          generalize ns2.length = m2 at *
          go_wp2_with fail
          go_quiet (fail)
          go_wp2_with fail
          go_ret
          exact ⟨by rw [HZg.out]; rfl, by first | exact HB.out | exact HB.out.drewN _⟩
      · have HZt := Lib.hid (HEq.out i HE.out (by omega))
        obtain rfl : i = l.length := by omega
        go_wp2_with fail
        go_ret
        exact ⟨by rw [HZt.out]; rfl, HB.out⟩
  · have HZf : Hid (z = false) := by
      rw [Hid, HZ.out, decide_eq_false_iff_not]
      intro e; subst e; exact hlen rfl
    have d1 : ((l.length : Int) == (r.length : Int)) = false := by rw [beq_eq_false_iff_ne]; omega
    clear HZ
    go_enter Try.func31, Try.ntmps31
    go_wp2_with fail
    go_ret
    exact ⟨by rw [HZf.out]; rfl, Draws.refl _⟩
end Go.Proofs.Ytafepficapdepaa.pth
