/- What confluenceref02.Same returns. Condition: at most 10^6 numbers. What confluenceref04.Same returns. Condition: at most 10^6 pieces and numbers together. What confluenceref02.Has, Put and Set return. Condition: at most 10^6 numbers. -/
import Derived.Test.YtaeeeinpelfppaaGreatPathAll
import Derived.Deep.RegionHeld3
import Derived.Test.YtaeeeinpelfppaaGreatGround
namespace Go.Proofs.YtaeeeinpelfppaaGreat.pth
open Go.RowKit Go.Proofs.YtaeeeinpelfppaaGreat.kit Go.Proofs.YtaeeeinpelfppaaGreat.mem Go.Proofs.YtaeeeinpelfppaaGreat.foot Go.Proofs.YtaeeeinpelfppaaGreat.nums Go.Proofs.YtaeeeinpelfppaaGreat.asn
set_option linter.unusedVariables false
set_option linter.unusedSimpArgs false
/-- a number of a slice read -/
theorem us_at {w : World} {G : Foot} {A : Option Addr} {l : List Nat} (h : Us w G A l) {i : Nat} (hi : i < l.length) : ∃ b off, A = some ⟨b, off, none⟩ ∧ b < w.heap.size ∧ w.cell? ⟨b, off + i, none⟩ = some (.int .u32 (l[i] : Int)) := by
  obtain ⟨b, off, rfl, _, hb, hc⟩ := h.2 (by omega)
  exact ⟨b, off, rfl, hb, hc i _ (by simp [uv, hi])⟩
/-- only answers were drawn -/
def Draws (w w' : World) : Prop := ∃ n, w' = w.drewN n
theorem Draws.refl (w : World) : Draws w w := ⟨0, rfl⟩
theorem Draws.drew {w w' : World} (h : Draws w w') : Draws w w'.drew := by
  obtain ⟨n, rfl⟩ := h
  exact ⟨n + 1, rfl⟩
theorem Draws.drewN {w w' : World} (h : Draws w w') (m : Nat) : Draws w (w'.drewN m) := by
  obtain ⟨n, rfl⟩ := h
  exact ⟨n + m, by simp [World.drewN, Nat.add_assoc]⟩
theorem Draws.cell {w w' : World} (h : Draws w w') (p : Addr) : w'.cell? p = w.cell? p := by
  obtain ⟨n, rfl⟩ := h
  rfl
theorem Draws.bel {w w' : World} (h : Draws w w') : Below w.heap.size w w' := by
  obtain ⟨n, rfl⟩ := h
  exact ⟨rfl, rfl, rfl, Nat.le_refl _, fun _ _ => rfl⟩
set_option maxRecDepth 100000 in
set_option maxHeartbeats 2000000 in
theorem refSame02_q (A B : Option Addr) (c d : Nat) (l r : List Nat) (G H : Foot) (w : World) (hl : l.length ≤ 1000000) (h1 : Us w G A l) (h2 : Us w H B r) :
    Calls Tryz.prog 68 #[.slice A l.length c, .slice B r.length d] w fun e w' => e = .returned (.bool (decide (l = r))) ∧ Draws w w' := by
  have H1 := Lib.hid h1
  have H2 := Lib.hid h2
  obtain ⟨z, hz⟩ : ∃ z, z = decide (l = r) := ⟨_, rfl⟩
  have HZ := Lib.hid hz
  rw [← hz]
  clear h1 h2 hz
  by_cases hlen : l.length = r.length
  · have HEq : Hid (∀ i, (∀ j, j < i → l[j]? = r[j]?) → i = l.length → z = true) := fun i h e => by
      rw [HZ.out, decide_eq_true_iff]
      subst e
      refine List.ext_getElem? fun j => ?_
      rcases Nat.lt_or_ge j l.length with hj | hj
      · exact h j hj
      · rw [List.getElem?_eq_none hj, List.getElem?_eq_none (by omega)]
    have HNe : Hid (∀ i (hi : i < l.length) (hi2 : i < r.length), l[i] ≠ r[i] → z = false) := fun i hi hi2 hne => by
      rw [HZ.out, decide_eq_false_iff_not]
      intro e; subst e; exact hne rfl
    clear HZ
    go_enter Tryz.func68, Tryz.ntmps68
    rw [← hlen]
    have HLen := Lib.hid hlen
    clear hlen
    go_wp2_with fail
    go_loopw [5] (fun v5 wr => ∃ i : Nat, i ≤ l.length ∧ v5 = .int .i64 i ∧ (∀ j, j < i → l[j]? = r[j]?) ∧ Draws w wr) (fun v5 _ => l.length - (intOf v5).toNat)
    case atStart => exact ⟨0, by omega, rfl, fun j h => by omega, Draws.refl _⟩
    case round =>
      obtain ⟨i, hi, rfl, hE, hb⟩ := hrel
      have HE := Lib.hid hE
      have HB := Lib.hid hb
      clear hE hb
      by_cases hlt : i < l.length
      · have hlt2 : i < r.length := by have := HLen.out; omega
        obtain ⟨b, off, rfl, hb1, c1⟩ := us_at H1.out hlt
        obtain ⟨b2, off2, rfl, hb2, c2⟩ := us_at H2.out hlt2
        have q0 := (HB.out.cell ⟨b, off + i, none⟩).trans c1
        have q1 := (HB.out.cell ⟨b2, off2 + i, none⟩).trans c2
        have hi1 : (i : Int) < (l.length : Int) := by omega
        have HE2 : Hid (l[i] = r[i] → ∀ j, j < i + 1 → l[j]? = r[j]?) := fun hs j hj => by
          by_cases e : j = i
          · subst e; rw [List.getElem?_eq_getElem hlt, List.getElem?_eq_getElem hlt2, hs]
          · exact HE.out j (by omega)
        have HZf := Lib.hid (HNe.out i hlt hlt2)
        clear c1 c2 hb1 hb2
        generalize l[i] = x at *
        generalize r[i] = y at *
        by_cases hs : x = y
        · subst hs
          have d1 : ((x : Int) != (x : Int)) = false := by simp
          go_wp2_with fail
          go_region_held3 (fun w' => w'.cell? ⟨b, off + i, none⟩ = some (.int .u32 (x : Int)) ∧ w'.cell? ⟨b2, off2 + i, none⟩ = some (.int .u32 (x : Int))) (exact ⟨by go_simp, by go_simp⟩) (fail)
          go_wp2_with fail
          go_roundw
          case rel => exact ⟨i + 1, by omega, by go_num, HE2.out (by simp), by first | exact HB.out | exact HB.out.drew⟩
          case measure => simp [intOf]; omega
        · have d1 : ((x : Int) == (y : Int)) = false := by rw [beq_eq_false_iff_ne]; omega
          have HZg := Lib.hid (HZf.out hs)
          go_wp2_with fail
          go_region_held3 (fun w' => w'.cell? ⟨b, off + i, none⟩ = some (.int .u32 (x : Int)) ∧ w'.cell? ⟨b2, off2 + i, none⟩ = some (.int .u32 (y : Int))) (exact ⟨by go_simp, by go_simp⟩) (fail)
          go_wp2_with fail
          go_ret
          exact ⟨by rw [HZg.out]; rfl, by first | exact HB.out | exact HB.out.drew⟩
      · have HZt := Lib.hid (HEq.out i HE.out (by omega))
        obtain rfl : i = l.length := by omega
        go_wp2_with fail
        go_ret
        exact ⟨by rw [HZt.out]; rfl, HB.out⟩
  · have HZf : Hid (z = false) := by
      rw [Hid, HZ.out, decide_eq_false_iff_not]
      intro e; subst e; exact hlen rfl
    have d1 : ((l.length : Int) == (r.length : Int)) = false := by rw [beq_eq_false_iff_ne]; omega
    clear HZ
    go_enter Tryz.func68, Tryz.ntmps68
    go_wp2_with fail
    go_ret
    exact ⟨by rw [HZf.out]; rfl, Draws.refl _⟩
theorem refSame02_any (A B : Option Addr) (c d : Nat) (l r : List Nat) (G H : Foot) (w : World) (hl : l.length ≤ 1000000) (h1 : Us w G A l) (h2 : Us w H B r) :
    Calls Tryz.prog 68 #[.slice A l.length c, .slice B r.length d] w fun e w' => e = .returned (.bool (decide (l = r))) ∧ Below w.heap.size w w' :=
  (refSame02_q A B c d l r G H w hl h1 h2).mono fun _ _ h => ⟨h.1, h.2.bel⟩
end Go.Proofs.YtaeeeinpelfppaaGreat.pth

namespace Go.Proofs.YtaeeeinpelfppaaGreat.pth
open Go.RowKit Go.Proofs.YtaeeeinpelfppaaGreat.kit Go.Proofs.YtaeeeinpelfppaaGreat.mem Go.Proofs.YtaeeeinpelfppaaGreat.foot Go.Proofs.YtaeeeinpelfppaaGreat.nums Go.Proofs.YtaeeeinpelfppaaGreat.asn
set_option linter.unusedVariables false
set_option linter.unusedSimpArgs false
set_option maxRecDepth 100000 in
set_option maxHeartbeats 2000000 in
theorem refSame04_q (A B : Option Addr) (c d : Nat) (l r : List Sg) (G H : Foot) (w : World) (hl : nsz l ≤ 1000000) (hr : nsz r ≤ 1000000) (h1 : Els 2 rSeg w G A l) (h2 : Els 2 rSeg w H B r) :
    Calls Tryz.prog 67 #[.slice A l.length c, .slice B r.length d] w fun e w' => e = .returned (.bool (decide (l = r))) ∧ Draws w w' := by
  have H1 := Lib.hid h1
  have H2 := Lib.hid h2
  have hll := nsz_len l
  obtain ⟨z, hz⟩ : ∃ z, z = decide (l = r) := ⟨_, rfl⟩
  have HZ := Lib.hid hz
  rw [← hz]
  clear h1 h2 hz
  by_cases hlen : l.length = r.length
  · have HEq : Hid (∀ i, (∀ j, j < i → l[j]? = r[j]?) → i = l.length → z = true) := fun i h e => by
      rw [HZ.out, decide_eq_true_iff]
      subst e
      refine List.ext_getElem? fun j => ?_
      rcases Nat.lt_or_ge j l.length with hj | hj
      · exact h j hj
      · rw [List.getElem?_eq_none hj, List.getElem?_eq_none (by omega)]
    have HNe : Hid (∀ i (hi : i < l.length) (hi2 : i < r.length), l[i] ≠ r[i] → z = false) := fun i hi hi2 hne => by
      rw [HZ.out, decide_eq_false_iff_not]
      intro e; subst e; exact hne rfl
    clear HZ
    go_enter Tryz.func67, Tryz.ntmps67
    rw [← hlen]
    have HLen := Lib.hid hlen
    clear hlen
    go_wp2_with fail
    go_loopw [5] (fun v5 wr => ∃ i : Nat, i ≤ l.length ∧ v5 = .int .i64 i ∧ (∀ j, j < i → l[j]? = r[j]?) ∧ Draws w wr) (fun v5 _ => l.length - (intOf v5).toNat)
    case atStart => exact ⟨0, by omega, rfl, fun j h => by omega, Draws.refl _⟩
    case round =>
      obtain ⟨i, hi, rfl, hE, hb⟩ := hrel
      have HE := Lib.hid hE
      have HB := Lib.hid hb
      clear hE hb
      by_cases hlt : i < l.length
      · have hlt2 : i < r.length := by have := HLen.out; omega
        have hn1 := nsz_at hlt
        have hn2 := nsz_at hlt2
        obtain ⟨b, off, cs, rfl, _, hbl, hrr, hc⟩ := H1.out.at_ keeps_seg hlt
        obtain ⟨A1, c1, rfl, _, _, _, _, hu1, _⟩ := seg_at hrr
        obtain ⟨b2, off2, cs2, rfl, _, hbl2, hrr2, hc2⟩ := H2.out.at_ keeps_seg hlt2
        obtain ⟨A2, c2, rfl, _, _, _, _, hu2, _⟩ := seg_at hrr2
        have q0 := (HB.out.cell ⟨b, off + i * 2 + 0, none⟩).trans (hc 0 _ rfl)
        have q1 := (HB.out.cell ⟨b, off + i * 2 + 1, none⟩).trans (hc 1 _ rfl)
        have r0 := (HB.out.cell ⟨b2, off2 + i * 2 + 0, none⟩).trans (hc2 0 _ rfl)
        have r1 := (HB.out.cell ⟨b2, off2 + i * 2 + 1, none⟩).trans (hc2 1 _ rfl)
        rw [Nat.add_zero] at q0 r0
        have HSa : Hid (∀ n, Calls Tryz.prog 68 #[.slice A1 l[i].2.length c1, .slice A2 r[i].2.length c2] (wr.drewN n) fun e w2 => e = .returned (.bool (decide (l[i].2 = r[i].2))) ∧ ∃ m, w2 = (wr.drewN n).drewN m) := fun n => refSame02_q A1 A2 c1 c2 l[i].2 r[i].2 G H (wr.drewN n) (by omega) (Rg.bel hu1 (HB.out.drewN n).bel) (Rg.bel hu2 (HB.out.drewN n).bel)
        have hi1 : (i : Int) < (l.length : Int) := by omega
        have hi2 : (i : Int) < (r.length : Int) := by omega
        have HE2 : Hid (l[i] = r[i] → ∀ j, j < i + 1 → l[j]? = r[j]?) := fun hs j hj => by
          by_cases e : j = i
          · subst e; rw [List.getElem?_eq_getElem hlt, List.getElem?_eq_getElem hlt2, hs]
          · exact HE.out j (by omega)
        have HZf := Lib.hid (HNe.out i hlt hlt2)
        have HPr : Hid (l[i] = r[i] ↔ l[i].1 = r[i].1 ∧ l[i].2 = r[i].2) := by rw [Hid, Prod.ext_iff]
        clear hc hrr hc2 hrr2 hu1 hu2 hbl hbl2
        generalize l[i] = s1 at *
        generalize r[i] = s2 at *
        obtain ⟨k1, ns1⟩ := s1
        obtain ⟨k2, ns2⟩ := s2
        dsimp only at *
        by_cases hk : k1 = k2
        · subst hk
          by_cases hs : ns1 = ns2
          · subst hs
            rw [show decide (ns1 = ns1) = true by simp] at HSa
            have HE3 := Lib.hid (HE2.out rfl)
            have d1 : (k1 != k1) = false := by simp
            generalize ns1.length = m1 at *
            go_wp2_with fail
            go_quiet (refine Calls.quiet_of (HSa.out _))
            go_wp2_with fail
            go_roundw
            case rel => exact ⟨i + 1, by omega, by go_num, HE3.out, by first | exact HB.out | exact HB.out.drewN _⟩
            case measure => simp [intOf]; omega
          · rw [show decide (ns1 = ns2) = false by simp [hs]] at HSa
            have HZg := Lib.hid (HZf.out (fun e => hs (HPr.out.1 e).2))
            have d1 : (k1 != k1) = false := by simp
            clear hs
            generalize ns1.length = m1 at *
            generalize ns2.length = m2 at *
            go_wp2_with fail
            go_quiet (refine Calls.quiet_of (HSa.out _))
            go_wp2_with fail
            go_ret
            exact ⟨by rw [HZg.out]; rfl, by first | exact HB.out | exact HB.out.drewN _⟩
        · have HZg := Lib.hid (HZf.out (fun e => hk (HPr.out.1 e).1))
          have d1 : (k1 == k2) = false := by rw [beq_eq_false_iff_ne]; exact hk
          have d2 : (k1 != k2) = true := by simp [hk]
          clear HSa
          generalize ns1.length = m1 at *
          generalize ns2.length = m2 at *
          go_wp2_with fail
          go_quiet (fail)
          go_wp2_with fail
          go_ret
          exact ⟨by rw [HZg.out]; rfl, by first | exact HB.out | exact HB.out.drewN _⟩
      · have HZt := Lib.hid (HEq.out i HE.out (by omega))
        obtain rfl : i = l.length := by omega
        go_wp2_with fail
        go_ret
        exact ⟨by rw [HZt.out]; rfl, HB.out⟩
  · have HZf : Hid (z = false) := by
      rw [Hid, HZ.out, decide_eq_false_iff_not]
      intro e; subst e; exact hlen rfl
    have d1 : ((l.length : Int) == (r.length : Int)) = false := by rw [beq_eq_false_iff_ne]; omega
    clear HZ
    go_enter Tryz.func67, Tryz.ntmps67
    go_wp2_with fail
    go_ret
    exact ⟨by rw [HZf.out]; rfl, Draws.refl _⟩
end Go.Proofs.YtaeeeinpelfppaaGreat.pth

namespace Go.Proofs.YtaeeeinpelfppaaGreat.asn
open Go.RowKit Go.Proofs.YtaeeeinpelfppaaGreat.kit Go.Proofs.YtaeeeinpelfppaaGreat.mem Go.Proofs.YtaeeeinpelfppaaGreat.foot Go.Proofs.YtaeeeinpelfppaaGreat.nums Go.Proofs.YtaeeeinpelfppaaGreat.pth
set_option linter.unusedVariables false
set_option linter.unusedSimpArgs false
set_option maxRecDepth 100000 in
set_option maxHeartbeats 2000000 in
theorem refHas02 (A : Option Addr) (c n : Nat) (l : List Nat) (G : Foot) (w : World) (hl : l.length ≤ 1000000) (h : Sn w G A c l) :
    Calls Tryz.prog 129 #[.slice A l.length c, .int .u32 n] w fun e w' => e = .returned (.bool (decide (n ∈ l))) ∧ Draws w w' := by
  have H1 := Lib.hid h
  obtain ⟨z, hz⟩ : ∃ z, z = decide (n ∈ l) := ⟨_, rfl⟩
  rw [← hz]
  have HZ := Lib.hid hz
  clear h hz
  go_enter Tryz.func129, Tryz.ntmps129
  go_wp2_with fail
  go_loopw [5] (fun v5 wr => ∃ i : Nat, i ≤ l.length ∧ v5 = .int .i64 i ∧ n ∉ l.take i ∧ Draws w wr) (fun v5 _ => l.length - (intOf v5).toNat)
  case atStart => exact ⟨0, by omega, rfl, by simp, Draws.refl _⟩
  case round =>
    obtain ⟨i, hi, rfl, hE, hb⟩ := hrel
    have HE := Lib.hid hE
    have HB := Lib.hid hb
    clear hE hb
    by_cases hlt : i < l.length
    · obtain ⟨p1, o1, rfl, l1, c1⟩ := H1.out.at_ hlt
      have q1 := (HB.out.cell ⟨p1, o1 + i, none⟩).trans c1
      have hi1 : (i : Int) < (l.length : Int) := by omega
      have HZt : Hid (l[i] = n → z = true) := fun e => by
        rw [HZ.out, decide_eq_true_iff, ← e]
        exact List.getElem_mem hlt
      have HNx : Hid (l[i] ≠ n → n ∉ l.take (i + 1)) := fun e h => by
        rw [List.take_succ_eq_append_getElem hlt] at h
        rcases List.mem_append.1 h with h | h
        · exact HE.out h
        · simp only [List.mem_singleton] at h; exact e h.symm
      clear c1 l1
      generalize l[i] = x at *
      by_cases hx : x = n
      · subst hx
        have HZg := Lib.hid (HZt.out rfl)
        have d1 : ((x : Int) == (x : Int)) = true := by simp
        go_wp2_with fail
        go_ret
        exact ⟨by rw [HZg.out]; rfl, HB.out⟩
      · have d1 : ((x : Int) == (n : Int)) = false := by rw [beq_eq_false_iff_ne]; omega
        have HNg := Lib.hid (HNx.out hx)
        go_wp2_with fail
        go_roundw
        case rel => exact ⟨i + 1, by omega, by go_num, HNg.out, HB.out⟩
        case measure => simp [intOf]; omega
    · obtain rfl : i = l.length := by omega
      have HZf : Hid (z = false) := by
        have h1 := HE.out
        rw [List.take_length] at h1
        rw [Hid, HZ.out, decide_eq_false_iff_not]
        exact h1
      go_wp2_with fail
      go_ret
      exact ⟨by rw [HZf.out]; rfl, HB.out⟩
theorem acc_apN {w0 wa w2 : World} {m m' : Nat} {A A2 : Option Addr} {c c2 : Nat} {xs news : List Value} (hc : Chg (sf A) wa w2) (hf : Fresh wa (sf A) (sf A2)) (ho : foot.Own w2 26 1 A2 m' c2 (xs ++ news)) {v : World} (h : Acc w0 26 1 v A m c xs) (h1 : v.heap = wa.heap) (h2 : v.os = wa.os) (h3 : v.tape = wa.tape) (h4 : v.output = wa.output) : Acc w0 26 1 w2 A2 m' c2 (xs ++ news) := by
  have hb : Below v.heap.size v wa := ⟨h2.symm, h3.symm, h4.symm, by rw [h1]; exact Nat.le_refl _, fun k _ => by rw [h1]⟩
  exact (h.go hb).app ho hc hf
theorem bk_apN {x : Nat} {wa w2 v : World} {g : Nat} {t : TypeId} {cs : Array Value} (hc : Chg (sf (some ⟨x, 0, none⟩)) wa w2) (h : Bk v g t cs) (h1 : v.heap = wa.heap) (hn : x ≠ g) : Bk w2 g t cs := by
  have h' : Bk wa g t cs := by unfold Bk at h ⊢; rw [← h1]; exact h
  exact h'.chg hc (fun e => hn (by rwa [sf_some] at e))
theorem rg_one {w : World} {g : Nat} {t : TypeId} {a : Value} (h : Bk w g t #[a]) : Rg w (fun k => k = g) 1 (some ⟨g, 0, none⟩) 1 [a] :=
  ⟨rfl, fun _ => ⟨g, 0, rfl, rfl, h.lt, fun j u hu => by rw [h.cell, Nat.zero_add]; simpa using hu⟩⟩
set_option maxRecDepth 100000 in
set_option maxHeartbeats 4000000 in
theorem refPut02 (A : Option Addr) (c n : Nat) (l : List Nat) (w0 w : World) (hl : l.length ≤ 999990) (h : Acc w0 26 1 w A l.length c (uv l)) :
    Calls Tryz.prog 122 #[.slice A l.length c, .int .u32 n] w fun e w' => ∃ A' c', e = .returned (.slice A' (putN l n).length c') ∧ Acc w0 26 1 w' A' (putN l n).length c' (uv (putN l n)) := by
  have HA := Lib.hid h
  have HS : Hid (Sn w (sf A) A c l) := Sn.own h.own
  have HHs := Lib.hid (refHas02 A c n l _ w (by omega) (Sn.own h.own))
  obtain ⟨Q, hQ⟩ : ∃ Q : Ending → World → Prop, Q = fun e w' => ∃ A' c', e = .returned (.slice A' (putN l n).length c') ∧ Acc w0 26 1 w' A' (putN l n).length c' (uv (putN l n)) := ⟨_, rfl⟩
  rw [← hQ]
  have HQ : Hid (∀ (ys : List Nat) (m : Nat) (A' : Option Addr) (c' : Nat) (w' : World), ys = putN l n → m = ys.length → Acc w0 26 1 w' A' m c' (uv ys) → Q (.returned (.slice A' m c')) w') := fun ys m A' c' w' e e2 h => by
    rw [hQ]
    subst e e2
    exact ⟨A', c', rfl, h⟩
  clear hQ h
  by_cases hn : n ∈ l
  · rw [decide_eq_true hn] at HHs
    have HP : Hid (l = putN l n) := by rw [Hid]; unfold putN; rw [if_pos hn]
    clear hn
    go_enter Tryz.func122, Tryz.ntmps122
    go_wp2_with (go_at_call 129; refine HHs.out.mono ?_; rintro e w1 ⟨rfl, hd⟩; have HA1 := Lib.hid (HA.out.go hd.bel); clear hd)
    exact HQ.out l _ A c w1 HP.out rfl HA1.out
  · rw [decide_eq_false hn] at HHs
    have HP : Hid (l.take (spotN l n) ++ [n] ++ l.drop (spotN l n) = putN l n) := by rw [Hid]; unfold putN; rw [if_neg hn]
    have HSp := Lib.hid (spotN_spec l n)
    have hsl := spotN_le l n
    generalize spotN l n = k at *
    clear hn
    go_enter Tryz.func122, Tryz.ntmps122
    go_wp2_with (go_at_call 129; refine HHs.out.mono ?_; rintro e w1 ⟨rfl, hd⟩; have HD := Lib.hid hd; clear hd)
    go_loopw [5] (fun v5 wr => ∃ i : Nat, i ≤ k ∧ v5 = .int .i64 i ∧ Draws w wr) (fun v5 _ => k - (intOf v5).toNat)
    case atStart => exact ⟨0, by omega, rfl, HD.out⟩
    case round =>
      obtain ⟨i, hi, rfl, hb⟩ := hrel
      have HB := Lib.hid hb
      clear hb
      have HAt := Lib.hid (HSp.out i hi)
      obtain ⟨A0, hA0⟩ : ∃ A0, A0 = A := ⟨_, rfl⟩
      have HA0 := Lib.hid hA0
      clear hA0
      have hcs : (∃ hlt : i < l.length, l[i] < n) ∨ (∃ hlt : i < l.length, ¬ l[i] < n) ∨ ¬ i < l.length := by
        by_cases h : i < l.length
        · by_cases h2 : l[i] < n
          · exact .inl ⟨h, h2⟩
          · exact .inr (.inl ⟨h, h2⟩)
        · exact .inr (.inr h)
      rcases hcs with ⟨hlt, hx⟩ | ⟨hlt, hx⟩ | hlt
      · obtain ⟨p1, o1, rfl, l1, c1⟩ := HS.out.at_ hlt
        have q1 := (HB.out.cell ⟨p1, o1 + i, none⟩).trans c1
        have hi1 : (i : Int) < (l.length : Int) := by omega
        have hne : i ≠ k := fun e => by
          have := HAt.out.1 e
          rw [List.getElem?_eq_getElem hlt] at this
          exact this ⟨_, rfl, hx⟩
        clear c1 l1 HAt
        generalize l[i] = x at *
        go_wp2_with fail
        go_roundw
        case rel => exact ⟨i + 1, by omega, by go_num, HB.out⟩
        case measure => simp [intOf]; omega
      case' inr.inl =>
        obtain ⟨p1, o1, rfl, l1, c1⟩ := HS.out.at_ hlt
        have q1 := (HB.out.cell ⟨p1, o1 + i, none⟩).trans c1
        have hi1 : (i : Int) < (l.length : Int) := by omega
        have hik : i = k := HAt.out.2 (by rw [List.getElem?_eq_getElem hlt]; rintro ⟨p, h1, h2⟩; cases h1; exact hx h2)
        have hil : k ≤ l.length := hsl
        clear c1 l1 HAt HHs HD
        generalize l[i] = x at *
        have d1 : decide (x < n) = false := by rw [decide_eq_false_iff_not]; exact hx
        subst hik
        go_upto_region 6 with fail
        rw [show (some ⟨p1, o1, none⟩ : Option Addr) = A0 from HA0.out.symm]
        have HAw : Hid (Acc w0 26 1 wr A0 l.length c (uv l)) := by rw [HA0.out]; exact HA.out.go HB.out.bel
        clear hx d1 q1 hi1 hlt HA HS HA0
      case' inr.inr =>
        have hik : i = k := HAt.out.2 (by rw [List.getElem?_eq_none (by omega)]; simp)
        have hil : k ≤ l.length := hsl
        have hge : l.length ≤ i := by omega
        clear HAt HHs HD
        subst hik
        go_upto_region 6 with fail
        rw [show A = A0 from HA0.out.symm]
        have HAw : Hid (Acc w0 26 1 wr A0 l.length c (uv l)) := by rw [HA0.out]; exact HA.out.go HB.out.bel
        clear hlt hge HA HS HA0
      all_goals
        have hnl := HAw.out.own.nil
        have hcl := HAw.out.own.cap
        have hml := HAw.out.own.max
        have klo := cut_nums A0 c l.length i hnl hcl hml hil
        obtain ⟨A5, c5, h5a, h5b, h5c, khi, h5r⟩ := cutn_hi A0 c l.length i hnl hcl hml hil
        have H5 := Lib.hid h5a
        have HRo : Hid (Us wr (sf A0) A0 l) := HAw.out.own.rg
        have HRt : Hid (Rg wr (sf A0) 1 A0 i (uv (l.take i))) := by
          have := HRo.out.take hil
          rwa [Nat.mul_one, ← uv_take] at this
        have HRd : Hid (Rg wr (sf A0) 1 A5 (l.length - i) (uv (l.drop i))) := by
          have := h5r wr _ l rfl HRo.out
          unfold Us at this
          rwa [List.length_drop] at this
        have HA1n := Lib.hid hnl
        have HEnd : Hid (∀ w' A' c', Acc wr 26 1 w' A' (i + 1 + (l.length - i)) c' ([] ++ uv (l.take i) ++ [.int .u32 (n : Int)] ++ uv (l.drop i)) → Q (.returned (.slice A' (i + 1 + (l.length - i)) c')) w') := fun w' A' c' h => by
          have hx : [] ++ uv (l.take i) ++ [.int .u32 (n : Int)] ++ uv (l.drop i) = uv (l.take i ++ [n] ++ l.drop i) := by rw [uv_app, uv_app]; simp [uv]
          rw [hx] at h
          exact HQ.out _ _ A' c' w' HP.out (by simp; omega) ⟨h.own, HAw.out.bel.trans (h.bel.mono HAw.out.bel.size), fun k hk => Nat.le_trans HAw.out.bel.size (h.low k hk)⟩
        obtain ⟨i0, hi0, hz0, hz1, hz2⟩ := info_parts info_u32
        have Hi := Lib.hid hi0
        have Hz0 := Lib.hid hz0
        have Hz1 := Lib.hid hz1
        have Hz2 := Lib.hid hz2
        clear h5a h5b h5c h5r hi0 hz0 hz1 hz2 hnl hcl hml HSp HB
        have HA0a : Hid (Acc wr 26 1 (wr.alloc (.cells #[] 26)) (some ⟨wr.heap.size, 0, none⟩) 0 0 []) := Acc.start ((Below.refl _ _).alloc (Nat.le_refl _) _) (Bk.new wr _ _) (Nat.le_refl _)
        have HA0b : Hid (Acc wr 26 1 ((wr.alloc (.cells #[] 26)).alloc (.cells #[.int .u32 (n : Int)] 26)) (some ⟨wr.heap.size, 0, none⟩) 0 0 []) := HA0a.out.go ((Below.refl _ _).alloc (Nat.le_refl _) _)
        have HR0b : Hid (Bk ((wr.alloc (.cells #[] 26)).alloc (.cells #[.int .u32 (n : Int)] 26)) (wr.heap.size + 1) 26 #[.int .u32 (n : Int)]) := by have := Bk.new (wr.alloc (.cells #[] 26)) 26 #[.int .u32 (n : Int)]; rwa [World.size_alloc] at this
        have HA0c : Hid (Acc wr 26 1 ((wr.alloc (.cells #[.int .u32 (n : Int)] 26)).alloc (.cells #[] 26)) (some ⟨wr.heap.size + 1, 0, none⟩) 0 0 []) := by
          have hb : Below wr.heap.size wr (wr.alloc (.cells #[.int .u32 (n : Int)] 26)) := (Below.refl _ _).alloc (Nat.le_refl _) _
          have := Acc.start (e := 26) (size := 1) (hb.alloc hb.size (.cells #[] 26)) (Bk.new _ _ _) hb.size
          rwa [World.size_alloc] at this
        have HR0c : Hid (Bk ((wr.alloc (.cells #[.int .u32 (n : Int)] 26)).alloc (.cells #[] 26)) wr.heap.size 26 #[.int .u32 (n : Int)]) := (Bk.new wr _ _).alloc _
        go_region_held3 (fun _ => True) (exact trivial) (first
          | (refine step_app _ (by rfl) (.tmp 24) (.tmp 27) _ (by rfl) 26 i0 _ 1 4 Tryz.underlying27 Hi.out Hz0.out Hz1.out Hz2.out rfl (by omega) (some ⟨wr.heap.size, 0, none⟩) 0 0 [] (by rfl) HA0a.out.own _ A0 i c HA1n.out (uv (l.take i)) (by rfl) (HA0a.out.rg HRt.out) (uv_one _) (by unfold maxLen; omega) (by omega) ?_; intro A3 c3 w4 ho3 hc3 hf3; go_must (rw [Nat.zero_add i] at ho3 ⊢); go_must (have HA3 := Lib.hid (acc_apN hc3 hf3 ho3 HA0a.out rfl rfl rfl rfl)); clear ho3 hc3 hf3)
          | (refine step_app _ (by rfl) (.tmp 24) (.tmp 27) _ (by rfl) 26 i0 _ 1 4 Tryz.underlying27 Hi.out Hz0.out Hz1.out Hz2.out rfl (by omega) (some ⟨wr.heap.size, 0, none⟩) 0 0 [] (by rfl) HA0b.out.own _ A0 i c HA1n.out (uv (l.take i)) (by rfl) (HA0b.out.rg HRt.out) (uv_one _) (by unfold maxLen; omega) (by omega) ?_; intro A3 c3 w4 ho3 hc3 hf3; go_must (rw [Nat.zero_add i] at ho3 ⊢); go_must (have HA3 := Lib.hid (acc_apN hc3 hf3 ho3 HA0b.out rfl rfl rfl rfl)); go_must (have HR3 := Lib.hid (bk_apN hc3 HR0b.out rfl (by omega))); clear ho3 hc3 hf3)
          | (refine step_app _ (by rfl) (.tmp 24) (.tmp 27) _ (by rfl) 26 i0 _ 1 4 Tryz.underlying27 Hi.out Hz0.out Hz1.out Hz2.out rfl (by omega) (some ⟨(wr.heap.size + 1), 0, none⟩) 0 0 [] (by rfl) HA0c.out.own _ A0 i c HA1n.out (uv (l.take i)) (by rfl) (HA0c.out.rg HRt.out) (uv_one _) (by unfold maxLen; omega) (by omega) ?_; intro A3 c3 w4 ho3 hc3 hf3; go_must (rw [Nat.zero_add i] at ho3 ⊢); go_must (have HA3 := Lib.hid (acc_apN hc3 hf3 ho3 HA0c.out rfl rfl rfl rfl)); go_must (have HR3 := Lib.hid (bk_apN hc3 HR0c.out rfl (by omega))); clear ho3 hc3 hf3)
          | ((have HA3x : Hid (Acc wr 26 1 (w4.alloc (.cells #[.int .u32 (n : Int)] 26)) A3 i c3 ([] ++ uv (l.take i))) := HA3.out.go ((Below.refl _ _).alloc (Nat.le_refl _) _); refine step_app _ (by rfl) (.tmp 28) (.tmp 30) _ (by rfl) 26 i0 _ 1 4 Tryz.underlying27 Hi.out Hz0.out Hz1.out Hz2.out rfl (by omega) A3 i c3 ([] ++ uv (l.take i)) (by rfl) HA3x.out.own _ (some ⟨w4.heap.size, 0, none⟩) 1 1 (by intro h; cases h) [.int .u32 (n : Int)] (by rfl) (rg_one (Bk.new w4 _ _)) (by intro u hu; simp at hu; rw [hu]; rfl) (by unfold maxLen; omega) (by omega) ?_; intro A4 c4 w5 ho4 hc4 hf4; go_must (have HA4 : Hid (Acc wr 26 1 w5 A4 (i + 1) c4 ([] ++ uv (l.take i) ++ [.int .u32 (n : Int)])) := acc_apN hc4 hf4 ho4 HA3x.out rfl rfl rfl rfl); clear ho4 hc4 hf4))
          | (refine step_app _ (by rfl) (.tmp 28) (.tmp 30) _ (by rfl) 26 i0 _ 1 4 Tryz.underlying27 Hi.out Hz0.out Hz1.out Hz2.out rfl (by omega) A3 i c3 ([] ++ uv (l.take i)) (by rfl) HA3.out.own _ (some ⟨wr.heap.size + 1, 0, none⟩) 1 1 (by intro h; cases h) [.int .u32 (n : Int)] (by rfl) (rg_one HR3.out) (by intro u hu; simp at hu; rw [hu]; rfl) (by unfold maxLen; omega) (by omega) ?_; intro A4 c4 w5 ho4 hc4 hf4; go_must (have HA4 : Hid (Acc wr 26 1 w5 A4 (i + 1) c4 ([] ++ uv (l.take i) ++ [.int .u32 (n : Int)])) := acc_apN hc4 hf4 ho4 HA3.out rfl rfl rfl rfl); clear ho4 hc4 hf4)
          | (refine step_app _ (by rfl) (.tmp 28) (.tmp 30) _ (by rfl) 26 i0 _ 1 4 Tryz.underlying27 Hi.out Hz0.out Hz1.out Hz2.out rfl (by omega) A3 i c3 ([] ++ uv (l.take i)) (by rfl) HA3.out.own _ (some ⟨wr.heap.size, 0, none⟩) 1 1 (by intro h; cases h) [.int .u32 (n : Int)] (by rfl) (rg_one HR3.out) (by intro u hu; simp at hu; rw [hu]; rfl) (by unfold maxLen; omega) (by omega) ?_; intro A4 c4 w5 ho4 hc4 hf4; go_must (have HA4 : Hid (Acc wr 26 1 w5 A4 (i + 1) c4 ([] ++ uv (l.take i) ++ [.int .u32 (n : Int)])) := acc_apN hc4 hf4 ho4 HA3.out rfl rfl rfl rfl); clear ho4 hc4 hf4)
          | (refine step_app _ (by rfl) (.tmp 31) (.tmp 34) _ (by rfl) 26 i0 _ 1 4 Tryz.underlying27 Hi.out Hz0.out Hz1.out Hz2.out rfl (by omega) A4 (i + 1) c4 ([] ++ uv (l.take i) ++ [.int .u32 (n : Int)]) (by rfl) HA4.out.own _ A5 (l.length - i) c5 H5.out (uv (l.drop i)) (by rfl) (HA4.out.rg HRd.out) (uv_one _) (by unfold maxLen; omega) (by omega) ?_; intro A6 c6 w6 ho5 hc5 hf5; go_must (have HA5 := Lib.hid (acc_apN hc5 hf5 ho5 HA4.out rfl rfl rfl rfl)); clear ho5 hc5 hf5))
        all_goals
          go_wp2_with fail
          exact HEnd.out _ _ _ HA5.out
/-- a list as a set -/
theorem refSet02 (A : Option Addr) (c : Nat) (l : List Nat) (G : Foot) (w : World) (hl : l.length ≤ 999990) (h : Sn w G A c l) :
    Calls Tryz.prog 103 #[.slice A l.length c] w (RetNums (setN l) w) := by
  have H1 := Lib.hid h
  have HPu : Hid (∀ (Ax : Option Addr) (cx n : Nat) (xs : List Nat) (w' : World), xs.length ≤ 999990 → Acc w 26 1 w' Ax xs.length cx (uv xs) → Calls Tryz.prog 122 #[.slice Ax xs.length cx, .int .u32 n] w' fun e w' => ∃ A' c', e = .returned (.slice A' (putN xs n).length c') ∧ Acc w 26 1 w' A' (putN xs n).length c' (uv (putN xs n))) := fun Ax cx n xs w' h1 h2 => refPut02 Ax cx n xs w w' h1 h2
  have HQ : Hid (∀ (xs : List Nat) (Ao : Option Addr) (co : Nat) (wr : World), xs = setN l → Acc w 26 1 wr Ao xs.length co (uv xs) → RetNums (setN l) w (.returned (.slice Ao xs.length co)) wr) := fun xs Ao co wr e h => by
    rw [← e]
    exact ⟨Ao, co, rfl, h.own, h.low, h.bel⟩
  obtain ⟨Q, hQ⟩ : ∃ Q, Q = RetNums (setN l) w := ⟨_, rfl⟩
  rw [← hQ] at HQ ⊢
  have HA0 : Hid (Acc w 26 1 (w.alloc (.cells #[] 26)) (some ⟨w.heap.size, 0, none⟩) 0 0 []) := Acc.start ((Below.refl _ _).alloc (Nat.le_refl _) _) (Bk.new w _ _) (Nat.le_refl _)
  clear h hQ
  go_enter Tryz.func103, Tryz.ntmps103
  go_wp2_with fail
  go_loopw [3, 4] (fun v3 v4 wr => ∃ (i : Nat) (xs : List Nat) (Ao : Option Addr) (co : Nat), i ≤ l.length ∧ v4 = .int .i64 i ∧ xs = setN (l.take i) ∧ v3 = .slice Ao xs.length co ∧ Acc w 26 1 wr Ao xs.length co (uv xs)) (fun _ v4 _ => l.length - (intOf v4).toNat)
  case atStart => exact ⟨0, [], some ⟨w.heap.size, 0, none⟩, 0, by omega, rfl, rfl, rfl, HA0.out⟩
  case round =>
    obtain ⟨i, xs, Ao, co, hi, rfl, hxs, rfl, hacc⟩ := hrel
    have hxl : xs.length ≤ i := by
      have h1 := setN_len (l.take i)
      have h2 : (l.take i).length ≤ i := by rw [List.length_take]; omega
      rw [hxs]; omega
    have HA := Lib.hid hacc
    have HX := Lib.hid hxs
    clear hacc hxs
    by_cases hlt : i < l.length
    · obtain ⟨p1, o1, rfl, l1, c1⟩ := H1.out.at_ hlt
      have q1 := (HA.out.bel.cell (p := ⟨p1, o1 + i, none⟩) l1).trans c1
      have hi1 : (i : Int) < (l.length : Int) := by omega
      have HPx := Lib.hid (HPu.out Ao co l[i] xs wr (by omega) HA.out)
      have HNe : Hid (putN xs l[i] = setN (l.take (i + 1))) := by
        rw [Hid, HX.out]
        unfold setN
        rw [List.take_succ_eq_append_getElem hlt, List.foldl_append]
        rfl
      clear c1 l1
      generalize l[i] = x at *
      generalize putN xs x = ys at *
      go_wp2_with (go_at_call 122; refine HPx.out.mono ?_; rintro e w2 ⟨A2, c2, rfl, h2⟩; have HA2 := Lib.hid h2; clear h2)
      go_roundw
      case rel => exact ⟨i + 1, ys, A2, c2, by omega, by go_num, HNe.out, rfl, HA2.out⟩
      case measure => simp [intOf]; omega
    · obtain rfl : i = l.length := by omega
      rw [List.take_length] at HX
      have HE := Lib.hid (HQ.out xs Ao co wr HX.out HA.out)
      go_wp2_with fail
      exact HE.out
end Go.Proofs.YtaeeeinpelfppaaGreat.asn
