/- What path.same, path.Same and path.Norm return. Condition: at most 10^6 pieces and numbers together. -/
import Derived.Test.YtafepficapdepaaNormWalk
namespace Go.Proofs.Ytafepficapdepaa.pth
open Go.RowKit Go.Proofs.Ytafepficapdepaa.kit Go.Proofs.Ytafepficapdepaa.mem Go.Proofs.Ytafepficapdepaa.foot Go.Proofs.Ytafepficapdepaa.nums Go.Proofs.Ytafepficapdepaa.asn
set_option linter.unusedVariables false
set_option linter.unusedSimpArgs false
theorem Norm_any (A : Option Addr) (c : Nat) (l : List Sg) (G : Foot) (w : World) (hl : nsz l ≤ 1000000) (hs : Els 2 rSeg w G A l) :
    Calls Try.prog 121 #[.slice A l.length c] w (RetP (normS l) w) := by
  have HA := Lib.hid (norm_any A c l G w hl hs)
  have HF : Hid (∀ e w', RetP (normS l) w e w' → ∃ A n c, e = .returned (.slice A n c)) := fun e w' => by
    rintro ⟨A, c, vs, rfl, _⟩
    exact ⟨A, _, c, rfl⟩
  obtain ⟨Q, hQ⟩ : ∃ Q, Q = RetP (normS l) w := ⟨_, rfl⟩
  rw [← hQ] at HA HF ⊢
  clear hQ hs hl
  go_enter Try.func121, Try.ntmps121
  go_wp2_with (go_at_call 157; refine HA.out.mono ?_; rintro e w' hp; go_must (obtain ⟨A', n, c', rfl⟩ := HF.out e w' hp); have HP := Lib.hid hp; clear hp)
  exact HP.out
set_option maxRecDepth 100000 in
/-- two pieces compared -/
theorem same1_any (k1 k2 : Int) (A B : Option Addr) (c d : Nat) (l r : List Nat) (G H : Foot) (w : World) (hl : l.length ≤ 1000000) (hr : r.length ≤ 1000000) (h1 : Us w G A l) (h2 : Us w H B r) :
    Calls Try.prog 192 #[.agg #[.int .i64 k1, .slice A l.length c], .agg #[.int .i64 k2, .slice B r.length d]] w fun e w' => e = .returned (.bool (decide ((k1, l) = (k2, r)))) ∧ Below w.heap.size w w' := by
  have HE : Hid (∀ w', Below w.heap.size w w' → Calls Try.prog 159 #[.slice A l.length c, .slice B r.length d] w' fun e w2 => e = .returned (.bool (decide (l = r))) ∧ Below w'.heap.size w' w2) := fun w' hb => by
    refine (Equal_any A B c d l r G H w' (by omega) (by omega) (Rg.bel h1 hb) (Rg.bel h2 hb)).mono ?_
    rintro e w2 ⟨rfl, q, rfl⟩
    exact ⟨rfl, ⟨rfl, rfl, rfl, Nat.le_refl _, fun _ _ => rfl⟩⟩
  have hb0 : Below w.heap.size w ((w.alloc (.cells #[.int .i64 k1, .slice A l.length c] 122)).alloc (.cells #[.int .i64 k2, .slice B r.length d] 122)) := ((Below.refl _ _).alloc (Nat.le_refl _) _).alloc (by simp) _
  have HB0 := Lib.hid hb0
  have HC := Lib.hid (HE.out _ hb0)
  have HD : Hid (∀ b, b = (decide (k1 = k2) && decide (l = r)) → decide ((k1, l) = (k2, r)) = b) := fun b hb => by rw [hb]; simp
  clear hl hr h1 h2 hb0 HE
  by_cases hk : k1 = k2
  · subst hk
    have d1 : (k1 == k1) = true := by simp
    go_enter Try.func192, Try.ntmps192
    go_wp2_with (go_at_call 159; refine HC.out.mono ?_; rintro e w2 ⟨rfl, hb⟩; have HB := Lib.hid hb; clear hb)
    go_ret
    exact ⟨by rw [HD.out _ rfl]; simp, HB0.out.trans (HB.out.mono HB0.out.size)⟩
  · have d1 : (k1 == k2) = false := by rw [beq_eq_false_iff_ne]; exact hk
    go_enter Try.func192, Try.ntmps192
    go_wp2_with fail
    go_ret
    exact ⟨by rw [HD.out _ rfl]; simp [hk], HB0.out⟩
set_option maxRecDepth 100000 in
set_option maxHeartbeats 2000000 in
theorem equalF_any (A B : Option Addr) (c d : Nat) (l r : List Sg) (G H : Foot) (w : World) (hl : nsz l ≤ 1000000) (hr : nsz r ≤ 1000000) (h1 : Els 2 rSeg w G A l) (h2 : Els 2 rSeg w H B r) :
    Calls Try.prog 191 #[.slice A l.length c, .slice B r.length d, .func (.func 192) #[] #[]] w fun e w' => e = .returned (.bool (decide (l = r))) ∧ Below w.heap.size w w' := by
  have H1 := Lib.hid h1
  have H2 := Lib.hid h2
  have hll := nsz_len l
  obtain ⟨z, hz⟩ : ∃ z, z = decide (l = r) := ⟨_, rfl⟩
  have HZ := Lib.hid hz
  rw [← hz]
  clear h1 h2 hz
  by_cases hlen : l.length = r.length
  · have HEq : Hid (∀ i, (∀ j, j < i → l[j]? = r[j]?) → i = l.length → z = true) := fun i h e => by
      rw [HZ.out, decide_eq_true_iff]
      subst e
      refine List.ext_getElem? fun j => ?_
      rcases Nat.lt_or_ge j l.length with hj | hj
      · exact h j hj
      · rw [List.getElem?_eq_none hj, List.getElem?_eq_none (by omega)]
    have HNe : Hid (∀ i (hi : i < l.length) (hi2 : i < r.length), l[i] ≠ r[i] → z = false) := fun i hi hi2 hne => by
      rw [HZ.out, decide_eq_false_iff_not]
      intro e; subst e; exact hne rfl
    clear HZ
    go_enter Try.func191, Try.ntmps191
    rw [← hlen]
    have HLen := Lib.hid hlen
    clear hlen
    go_wp2_with fail
    go_loopw [17] (fun v17 wr => ∃ i : Nat, i ≤ l.length ∧ v17 = .int .i64 i ∧ (∀ j, j < i → l[j]? = r[j]?) ∧ Below w.heap.size w wr) (fun v17 _ => l.length - (intOf v17).toNat)
    case atStart => exact ⟨0, by omega, rfl, fun j h => by omega, Below.refl _ _⟩
    case round =>
      obtain ⟨i, hi, rfl, hE, hb⟩ := hrel
      have HE := Lib.hid hE
      have HB := Lib.hid hb
      clear hE hb
      by_cases hlt : i < l.length
      · have hlt2 : i < r.length := by have := HLen.out; omega
        have hn1 := nsz_at hlt
        have hn2 := nsz_at hlt2
        obtain ⟨b, off, cs, rfl, _, hbl, hrr, hc⟩ := H1.out.at_ keeps_seg hlt
        obtain ⟨A1, c1, rfl, _, _, _, _, hu1, _⟩ := seg_at hrr
        obtain ⟨b2, off2, cs2, rfl, _, hbl2, hrr2, hc2⟩ := H2.out.at_ keeps_seg hlt2
        obtain ⟨A2, c2, rfl, _, _, _, _, hu2, _⟩ := seg_at hrr2
        have q0 := (HB.out.cell (p := ⟨b, off + i * 2 + 0, none⟩) hbl).trans (hc 0 _ rfl)
        have q1 := (HB.out.cell (p := ⟨b, off + i * 2 + 1, none⟩) hbl).trans (hc 1 _ rfl)
        have r0 := (HB.out.cell (p := ⟨b2, off2 + i * 2 + 0, none⟩) hbl2).trans (hc2 0 _ rfl)
        have r1 := (HB.out.cell (p := ⟨b2, off2 + i * 2 + 1, none⟩) hbl2).trans (hc2 1 _ rfl)
        have hbw := HB.out.alloc HB.out.size (.cells #[.int .i64 l[i].1, .slice A1 l[i].2.length c1] 122)
        have t0 := (hbw.cell (p := ⟨b2, off2 + i * 2 + 0, none⟩) hbl2).trans (hc2 0 _ rfl)
        have t1 := (hbw.cell (p := ⟨b2, off2 + i * 2 + 1, none⟩) hbl2).trans (hc2 1 _ rfl)
        rw [Nat.add_zero] at q0 r0 t0
        clear hbw
        have HSa : Hid (∀ w', Below w.heap.size w w' → Calls Try.prog 192 #[.agg #[.int .i64 l[i].1, .slice A1 l[i].2.length c1], .agg #[.int .i64 r[i].1, .slice A2 r[i].2.length c2]] w' fun e w2 => e = .returned (.bool (decide (l[i] = r[i]))) ∧ Below w'.heap.size w' w2) := fun w' hb => same1_any l[i].1 r[i].1 A1 A2 c1 c2 l[i].2 r[i].2 G H w' (by omega) (by omega) (Rg.bel hu1 hb) (Rg.bel hu2 hb)
        have hi1 : (i : Int) < (l.length : Int) := by omega
        have HBa : Hid (Below w.heap.size w ((wr.alloc (.cells #[.int .i64 l[i].1, .slice A1 l[i].2.length c1] 122)).alloc (.cells #[.int .i64 r[i].1, .slice A2 r[i].2.length c2] 122))) := (HB.out.alloc HB.out.size _).alloc (Nat.le_trans HB.out.size (by simp)) _
        have HCa := Lib.hid (HSa.out _ HBa.out)
        by_cases hs : l[i] = r[i]
        case' pos =>
          rw [decide_eq_true hs] at HCa
          have HE2 : Hid (∀ j, j < i + 1 → l[j]? = r[j]?) := fun j hj => by
            by_cases e : j = i
            · subst e; rw [List.getElem?_eq_getElem hlt, List.getElem?_eq_getElem hlt2, hs]
            · exact HE.out j (by omega)
        case' neg =>
          rw [decide_eq_false hs] at HCa
          have HZf := Lib.hid (HNe.out i hlt hlt2 hs)
        all_goals
          clear HSa hc hrr hc2 hrr2 hu1 hu2 hbl hbl2 hs
          generalize l[i].1 = k1 at *
          generalize r[i].1 = k2 at *
          generalize l[i].2.length = n1 at *
          generalize r[i].2.length = n2 at *
          go_wp2_with (go_at_call 192; refine HCa.out.mono ?_; rintro e w2 ⟨rfl, hb⟩; have HB2 := Lib.hid (HBa.out.trans (hb.mono HBa.out.size)); clear hb)
        · go_ret
          exact ⟨by rw [HZf.out]; rfl, HB2.out⟩
        · go_roundw
          case rel => exact ⟨i + 1, by omega, by go_num, HE2.out, HB2.out⟩
          case measure => simp [intOf]; omega
      · have HZt := Lib.hid (HEq.out i HE.out (by omega))
        obtain rfl : i = l.length := by omega
        go_wp2_with fail
        go_ret
        exact ⟨by rw [HZt.out]; rfl, HB.out⟩
  · have HZf : Hid (z = false) := by
      rw [Hid, HZ.out, decide_eq_false_iff_not]
      intro e; subst e; exact hlen rfl
    have d1 : ((l.length : Int) == (r.length : Int)) = false := by rw [beq_eq_false_iff_ne]; omega
    have d2 : ((l.length : Int) != (r.length : Int)) = true := by simp; omega
    clear HZ
    go_enter Try.func191, Try.ntmps191
    go_wp2_with fail
    go_ret
    exact ⟨by rw [HZf.out]; rfl, Below.refl _ _⟩
theorem same_any (A B : Option Addr) (c d : Nat) (l r : List Sg) (G H : Foot) (w : World) (hl : nsz l ≤ 1000000) (hr : nsz r ≤ 1000000) (h1 : Els 2 rSeg w G A l) (h2 : Els 2 rSeg w H B r) :
    Calls Try.prog 170 #[.slice A l.length c, .slice B r.length d] w fun e w' => e = .returned (.bool (decide (l = r))) ∧ Below w.heap.size w w' := by
  have HA := Lib.hid (equalF_any A B c d l r G H w hl hr h1 h2)
  clear hl hr h1 h2
  go_enter Try.func170, Try.ntmps170
  go_wp2_with fail
  refine HA.out.mono ?_; rintro e w' ⟨rfl, hb⟩
  have HB := Lib.hid hb
  clear hb
  go_wp2_with fail
  first | exact ⟨rfl, HB.out⟩ | (go_ret; exact ⟨rfl, HB.out⟩)
end Go.Proofs.Ytafepficapdepaa.pth
