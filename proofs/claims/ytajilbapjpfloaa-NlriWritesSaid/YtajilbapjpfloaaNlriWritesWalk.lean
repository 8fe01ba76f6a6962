/- The walk of the law NlriWrites: the Go text returns true and writes nothing that was there. No condition. -/
import Derived.Test.YtajilbapjpfloaaNlriEnc2
import Derived.Deep.RegionHeld3
namespace Go.Proofs.Ytajilbapjpfloaa.nlriWrites
open Go.RowKit Go.Proofs.Ytajilbapjpfloaa.kit Go.Proofs.Ytajilbapjpfloaa.mem Go.Proofs.Ytajilbapjpfloaa.octet Go.Proofs.Ytajilbapjpfloaa.nlri
set_option linter.unusedVariables false
set_option linter.unusedSimpArgs false

set_option maxRecDepth 100000 in
set_option maxHeartbeats 600000 in
theorem core (A : Option Addr) (c : Nat) (l : List (Nat × Int)) (W : World) (hA : A = none → c = 0) (hcap : l.length ≤ c) (hm : l.length ≤ maxLen) (hs : Ps W W.heap.size A l) (hw : ∀ q ∈ l, q.1 < 4294967296) :
    Calls Try.prog 9 #[.slice A l.length c] W fun e w' => e = .returned (.bool true) ∧ Below W.heap.size W w' := by
  have hF := Few_any A c W.heap.size l 40 W (by omega) hcap hm hA (Nat.le_refl _) hs
  obtain ⟨l1, hl1e⟩ : ∃ l1, l.take 40 = l1 := ⟨_, rfl⟩
  have hl1 : l1.length ≤ 40 := by rw [← hl1e]; simp; omega
  have hw1 : ∀ q ∈ l1, q.1 < 4294967296 := fun q hq => hw q (by rw [← hl1e] at hq; exact List.mem_of_mem_take hq)
  rw [hl1e] at hF
  have HF := Lib.hid hF
  have Hw1 := Lib.hid hw1
  clear hF hl1e hs hA hcap hm hw hw1
  go_enter Try.func9, Try.ntmps9
  go_wp2_with fail
  refine HF.out.mono ?_; rintro e w1 ⟨A1, k1, rfl, hn1⟩
  have hF2 := Few_any A1 k1 w1.heap.size l1 40 w1 (by omega) hn1.cap (by unfold maxLen; omega) hn1.nil (Nat.le_refl _) hn1.rd
  rw [List.take_of_length_le hl1] at hF2
  have HF2 := Lib.hid hF2
  have H1 := Lib.hid hn1
  have hWB : W.heap.size ≤ w1.heap.size := hn1.bel.size
  clear hn1 hF2 HF
  go_wp2_with fail
  refine HF2.out.mono ?_; rintro e w2 ⟨A2, k2, rfl, hn2⟩
  have HE := Lib.hid (Encode_any A2 k2 w2.heap.size l1 w2 (by omega) (Nat.le_refl _) hn2.rd Hw1.out)
  have K2 := Lib.hid hn2.bel
  clear hn2 HF2
  -- what Encode handed back
  have HE2 : Hid (Calls Try.prog 41 #[.slice A2 l1.length k2] w2 fun e w' => ∃ A3 c3, ∃ b : List UInt8, ∃ en : Int, e = .returned (.tuple #[.slice A3 b.length c3, .int .i64 en]) ∧ NewSl 1 b.length (bv b) w2 A3 c3 w' ∧ (goodL l1 = true → b = enc l1 ∧ en = 0) ∧ (goodL l1 = false → b = [] ∧ en = 1)) := by
    refine HE.out.mono ?_
    intro e w' h
    unfold EncPost at h
    split at h
    · obtain ⟨A3, c3, rfl, h3⟩ := h
      exact ⟨A3, c3, _, 0, rfl, h3, fun _ => ⟨rfl, rfl⟩, fun h => by simp_all⟩
    · obtain ⟨rfl, h3⟩ := h
      exact ⟨none, 0, [], 1, rfl, NewSl.none_ 1 h3, fun h => by simp_all, fun _ => ⟨rfl, rfl⟩⟩
  clear HE
  go_wp2_with fail
  refine HE2.out.mono ?_; rintro e w3 ⟨A3, c3, b, en, rfl, hn3, hyes, hno⟩
  have H3 := Lib.hid hn3.rd
  have K3 := Lib.hid (K2.out.trans (hn3.bel.mono K2.out.size))
  have Hyes := Lib.hid hyes
  have Hno := Lib.hid hno
  clear hn3 HE2 hyes hno
  go_wp2_with fail
  go_loopw [5] (fun i wr => ∃ k : Nat, k ≤ l1.length ∧ i = .int .i64 k ∧ Below w3.heap.size w3 wr) (fun i _ => l1.length - (intOf i).toNat)
  case atStart => exact ⟨0, by omega, rfl, Below.refl _ _⟩
  case round =>
    obtain ⟨k, hk, rfl, hb⟩ := hrel
    have HB := Lib.hid hb
    have K4 := Lib.hid (K3.out.trans (hb.mono K3.out.size))
    clear hb
    by_cases hlt : k < l1.length
    · obtain ⟨b1, off, rfl, hbl, c0, c1⟩ := Ps.at_ (Rd.below H1.out.rd K4.out (Nat.le_refl _)) hlt
      have hki : (k : Int) < (l1.length : Int) := by omega
      have hpw := Hw1.out _ (List.getElem_mem hlt)
      generalize l1[k] = p at *
      obtain ⟨a, n⟩ := p
      simp only at hpw c0 c1
      have HS1 := fun w => Lib.hid (Size_any a n hpw w)
      have HS2 := fun w => Lib.hid (refSize_any a n hpw w)
      generalize sizeP (a, n) = sz at *
      have hbk : b1 < wr.heap.size := World.block_lt_of_cell? wr _ c0
      go_wp2_with fail
      go_region_held3 (fun w' => w'.cell? ⟨b1, off + k * 2, none⟩ = some (.int .u32 (a : Int)) ∧ w'.cell? ⟨b1, off + k * 2 + 1, none⟩ = some (.int .i64 n)) (first | exact ⟨c0, c1⟩ | exact ⟨t0, t1⟩ | exact ⟨u0, u1⟩) (first
        | (go_at_call 42; refine (HS1 _).out.mono ?_; rintro e wx ⟨rfl, hx'⟩; go_must (have hx : Below wr.heap.size wr wx := ⟨hx'.os, hx'.tape, hx'.output, hx'.size, hx'.block⟩); go_must (have t0 := (hx.cell (p := ⟨b1, off + k * 2, none⟩) hbk).trans c0); go_must (have t1 := (hx.cell (p := ⟨b1, off + k * 2 + 1, none⟩) hbk).trans c1); go_must (have HX := Lib.hid hx); clear hx hx')
        | (go_at_call 43; refine (HS2 _).out.mono ?_; rintro e wy ⟨rfl, hy'⟩; go_must (have hy : Below wx.heap.size wx wy := ⟨hy'.os, hy'.tape, hy'.output, hy'.size, hy'.block⟩); go_must (have u0 := (hy.cell (p := ⟨b1, off + k * 2, none⟩) (Nat.lt_of_lt_of_le hbk HX.out.size)).trans t0); go_must (have u1 := (hy.cell (p := ⟨b1, off + k * 2 + 1, none⟩) (Nat.lt_of_lt_of_le hbk HX.out.size)).trans t1); go_must (have HY := Lib.hid (HX.out.trans (hy.mono HX.out.size))); clear hy hy'))
      all_goals
        go_wp2_with fail
        go_roundw
        case rel => exact ⟨k + 1, by omega, by go_num, HB.out.trans (HY.out.mono HB.out.size)⟩
        case measure => simp [intOf]; omega
    · obtain rfl : k = l1.length := by omega
      have HG := Lib.hid (Good_any A1 k1 w1.heap.size l1 wr (by unfold maxLen; omega) K4.out.size (Rd.below H1.out.rd K4.out (Nat.le_refl _)) Hw1.out)
      rcases hg : goodL l1 with _ | _
      · rw [hg] at HG
        obtain ⟨rfl, rfl⟩ := Hno.out hg
        clear hg
        go_wp2_with fail
        refine HG.out.mono ?_; rintro e w5 ⟨rfl, hb5⟩
        have K5 := Lib.hid (K4.out.trans (hb5.mono K4.out.size))
        have HL := Lib.hid (nlri.lives_any w5)
        clear hb5
        go_wp2_with fail
        refine HL.out.mono ?_; rintro e w6 ⟨rfl, hb6⟩
        have K6 := Lib.hid (K5.out.trans (hb6.mono K5.out.size))
        clear hb6
        go_wp2_with fail
        go_ret
        exact ⟨rfl, H1.out.bel.trans (K6.out.mono hWB)⟩
      · rw [hg] at HG
        have Hg := Lib.hid hg
        obtain ⟨rfl, rfl⟩ := Hyes.out hg
        have hdec : dec (enc l1) = some l1 := dec_enc l1 fun p hp => ⟨Hw1.out p hp, (goodL_iff l1).1 hg p hp⟩
        have Hdec := Lib.hid hdec
        have HEL : Hid ((enc l1).length ≤ 1000) := by have := enc_le l1; rw [Hid]; omega
        clear hg hdec
        go_wp2_with fail
        refine HG.out.mono ?_; rintro e w5 ⟨rfl, hb5⟩
        have K5 := Lib.hid (K4.out.trans (hb5.mono K4.out.size))
        have HB5 := Lib.hid (HB.out.trans (hb5.mono HB.out.size))
        have HRE := Lib.hid (refEncode_any A1 k1 w1.heap.size l1 w5 (by omega) K5.out.size (Rd.below H1.out.rd K5.out (Nat.le_refl _)) Hw1.out Hg.out)
        clear hb5 HG
        go_wp2_with fail
        refine HRE.out.mono ?_; rintro e w6 ⟨A6, c6, rfl, hn6⟩
        have hD := Decode_any A6 c6 w6.heap.size (enc l1) w6 (by have := HEL.out; omega) hn6.nil (Nat.le_refl _) hn6.rd
        unfold DecPost at hD
        rw [Hdec.out] at hD
        have HD := Lib.hid hD
        have K6 := Lib.hid (K5.out.trans (hn6.bel.mono K5.out.size))
        have HB6 := Lib.hid (HB5.out.trans (hn6.bel.mono HB5.out.size))
        clear hn6 hD HRE
        go_wp2_with fail
        refine HD.out.mono ?_; rintro e w7 ⟨A7, c7, rfl, hn7⟩
        have K7 := Lib.hid (K6.out.trans (hn7.bel.mono K6.out.size))
        have HB7 := Lib.hid (HB6.out.trans (hn7.bel.mono HB6.out.size))
        have H7 := Lib.hid (show Rd w7.drew w7.drew.heap.size 2 A7 l1.length (pv l1) from hn7.rd)
        have HS : Hid (∀ w, Below w3.heap.size w3 w → (convert 26 9 (.slice A3 (enc l1).length c3)).run Try.prog w = .ok (.string ⟨(enc l1).toArray⟩) w) := fun w h => run_str (Rd.below H3.out h (Nat.le_refl _))
        have K7 := Lib.hid K7.out.drew
        have HB7 := Lib.hid HB7.out.drew
        have hc0 := HS.out _ HB7.out
        have HRE := Lib.hid (refEncode_any A1 k1 w1.heap.size l1 w7.drew (by omega) K7.out.size (Rd.below H1.out.rd K7.out (Nat.le_refl _)) Hw1.out Hg.out)
        clear hn7 HD Hdec
        generalize enc l1 = y at *
        go_wp2_with fail
        refine wp_region_noPanic ?_
        refine wp_region_held_drew (S := (fun w' => (convert 26 9 (.slice A3 y.length c3)).run Try.prog w' = .ok (.string ⟨y.toArray⟩) w')) (by kernel_rfl) ?_ (fun hHeld => ?_)
        · exact hc0
        refine wpAnyH_take (i := 0) (oi := _) (v := ?_) rfl (by kernel_rfl) (by kernel_rfl) (by kernel_rfl) (fun _ _ _ h => h) (Or.inl ⟨by rfl, ?_⟩) (by assumption) ?_
        rotate_left
        · (intro w hSw; (try dsimp only at hSw); go_simp <;> with_reducible rfl)
        try simp only [Act.put, List.getElem_toArray, List.getElem_cons_succ, List.getElem_cons_zero, List.setIfInBounds_toArray, List.set_cons_zero, List.set_cons_succ]
        refine wpAnyH_take (i := 1) (oi := _) (v := ?_) rfl (by kernel_rfl) (by kernel_rfl) (by kernel_rfl) (fun _ _ _ h => h) (Or.inl ⟨by rfl, ?_⟩) (by assumption) ?_
        rotate_left
        · (intro w hSw; (try dsimp only at hSw); go_simp <;> with_reducible rfl)
        try simp only [Act.put, List.getElem_toArray, List.getElem_cons_succ, List.getElem_cons_zero, List.setIfInBounds_toArray, List.set_cons_zero, List.set_cons_succ]
        refine wpAnyH_take (i := 2) (oi := _) (v := ?_) rfl (by kernel_rfl) (by kernel_rfl) (by kernel_rfl) (fun _ _ _ h => h) (Or.inl ⟨by rfl, ?_⟩) (by assumption) ?_
        rotate_left
        · (intro w hSw; (try dsimp only at hSw); go_simp <;> with_reducible rfl)
        try simp only [Act.put, List.getElem_toArray, List.getElem_cons_succ, List.getElem_cons_zero, List.setIfInBounds_toArray, List.set_cons_zero, List.set_cons_succ]
        refine wpAnyH_take (i := 3) (oi := _) (v := ?_) rfl (by kernel_rfl) (by kernel_rfl) (by kernel_rfl) (fun _ _ _ h => h) (Or.inl ⟨by rfl, ?_⟩) (by assumption) ?_
        rotate_left
        · (intro w hSw; (try dsimp only at hSw); go_simp <;> with_reducible rfl)
        try simp only [Act.put, List.getElem_toArray, List.getElem_cons_succ, List.getElem_cons_zero, List.setIfInBounds_toArray, List.set_cons_zero, List.set_cons_succ]
        refine wpAnyH_take (i := 4) (oi := _) (v := ?_) rfl (by kernel_rfl) (by kernel_rfl) (by kernel_rfl) (fun _ _ _ h => h) (Or.inl ⟨by rfl, ?_⟩) (by assumption) ?_
        rotate_left
        · (intro w hSw; (try dsimp only at hSw); go_simp <;> with_reducible rfl)
        try simp only [Act.put, List.getElem_toArray, List.getElem_cons_succ, List.getElem_cons_zero, List.setIfInBounds_toArray, List.set_cons_zero, List.set_cons_succ]
        refine wpAnyH_take (i := 5) (oi := _) (v := ?_) rfl (by kernel_rfl) (by kernel_rfl) (by kernel_rfl) (fun _ _ _ h => h) (Or.inl ⟨by rfl, ?_⟩) (by assumption) ?_
        rotate_left
        · (intro w hSw; (try dsimp only at hSw); go_simp <;> with_reducible rfl)
        try simp only [Act.put, List.getElem_toArray, List.getElem_cons_succ, List.getElem_cons_zero, List.setIfInBounds_toArray, List.set_cons_zero, List.set_cons_succ]
        refine wpAnyH_ready (rs := [6]) (by kernel_rfl) (by simp) ?_
        refine AllReadyH.cons (o := _) rfl (fun K hK => ?_) AllReadyH.nil
        go_simp; refine HRE.out.mono ?_; rintro e w8 ⟨A8, c8, rfl, hn8⟩; have K8 := Lib.hid (K7.out.trans (hn8.bel.mono K7.out.size)); have HB8 := Lib.hid (HB7.out.trans (hn8.bel.mono HB7.out.size)); have hc1 := HS.out _ HB8.out; have hstr := run_str (c := c8) (l := y) hn8.rd; have HSm := Lib.hid (Same_eq A7 A1 c7 k1 w8.heap.size l1 w8 (by unfold maxLen; omega) ((Rd.below H7.out hn8.bel (Nat.le_refl _)).more hn8.bel.size) ((Rd.below H1.out.rd K8.out (Nat.le_refl _)).more K8.out.size)); clear hn8
        refine hK.out _ _ ?_ (fun hHeld => ?_)
        · exact hc1
        clear hK K
        try simp only [Act.put, List.getElem_toArray, List.getElem_cons_succ, List.getElem_cons_zero, List.setIfInBounds_toArray, List.set_cons_zero, List.set_cons_succ]
        refine wpAnyH_ready (rs := [7]) (by kernel_rfl) (by simp) ?_
        refine AllReadyH.cons (o := _) rfl (fun K hK => ?_) AllReadyH.nil
        go_simp
        refine hK.out _ _ ?_ (fun hHeld => ?_)
        · exact hc1
        clear hK K
        try simp only [Act.put, List.getElem_toArray, List.getElem_cons_succ, List.getElem_cons_zero, List.setIfInBounds_toArray, List.set_cons_zero, List.set_cons_succ]
        refine wpAnyH_take (i := 8) (oi := _) (v := ?_) rfl (by kernel_rfl) (by kernel_rfl) (by kernel_rfl) (fun _ _ _ h => h) (Or.inl ⟨by rfl, ?_⟩) (by assumption) ?_
        rotate_left
        · (intro w hSw; (try dsimp only at hSw); go_simp <;> with_reducible rfl)
        try simp only [Act.put, List.getElem_toArray, List.getElem_cons_succ, List.getElem_cons_zero, List.setIfInBounds_toArray, List.set_cons_zero, List.set_cons_succ]
        refine wpAnyH_take (i := 9) (oi := _) (v := ?_) rfl (by kernel_rfl) (by kernel_rfl) (by kernel_rfl) (fun _ _ _ h => h) (Or.inl ⟨by rfl, ?_⟩) (by assumption) ?_
        rotate_left
        · (intro w hSw; (try dsimp only at hSw); go_simp <;> with_reducible rfl)
        try simp only [Act.put, List.getElem_toArray, List.getElem_cons_succ, List.getElem_cons_zero, List.setIfInBounds_toArray, List.set_cons_zero, List.set_cons_succ]
        refine wpAnyH_take (i := 10) (oi := _) (v := ?_) rfl (by kernel_rfl) (by kernel_rfl) (by kernel_rfl) (fun _ _ _ h => h) (Or.inl ⟨by rfl, ?_⟩) (by assumption) ?_
        rotate_left
        · (intro w hSw; (try dsimp only at hSw); go_simp <;> with_reducible rfl)
        try simp only [Act.put, List.getElem_toArray, List.getElem_cons_succ, List.getElem_cons_zero, List.setIfInBounds_toArray, List.set_cons_zero, List.set_cons_succ]
        refine wpAnyH_take (i := 11) (oi := _) (v := ?_) rfl (by kernel_rfl) (by kernel_rfl) (by kernel_rfl) (fun _ _ _ h => h) (Or.inl ⟨by rfl, ?_⟩) (by assumption) ?_
        rotate_left
        · (intro w hSw; (try dsimp only at hSw); go_simp <;> with_reducible rfl)
        try simp only [Act.put, List.getElem_toArray, List.getElem_cons_succ, List.getElem_cons_zero, List.setIfInBounds_toArray, List.set_cons_zero, List.set_cons_succ]
        refine wpAnyH_take (i := 12) (oi := _) (v := ?_) rfl (by kernel_rfl) (by kernel_rfl) (by kernel_rfl) (fun _ _ _ h => h) (Or.inl ⟨by rfl, ?_⟩) (by assumption) ?_
        rotate_left
        · (intro w hSw; (try dsimp only at hSw); go_simp <;> with_reducible rfl)
        try simp only [Act.put, List.getElem_toArray, List.getElem_cons_succ, List.getElem_cons_zero, List.setIfInBounds_toArray, List.set_cons_zero, List.set_cons_succ]
        refine wpAnyH_take (i := 13) (oi := _) (v := ?_) rfl (by kernel_rfl) (by kernel_rfl) (by kernel_rfl) (fun _ _ _ h => h) (Or.inl ⟨by rfl, ?_⟩) (by assumption) ?_
        rotate_left
        · (intro w hSw; (try dsimp only at hSw); go_simp <;> with_reducible rfl)
        try simp only [Act.put, List.getElem_toArray, List.getElem_cons_succ, List.getElem_cons_zero, List.setIfInBounds_toArray, List.set_cons_zero, List.set_cons_succ]
        refine wpAnyH_take (i := 14) (oi := _) (v := ?_) rfl (by kernel_rfl) (by kernel_rfl) (by kernel_rfl) (fun _ _ _ h => h) (Or.inl ⟨by rfl, ?_⟩) (by assumption) ?_
        rotate_left
        · (intro w hSw; (try dsimp only at hSw); go_simp <;> with_reducible rfl)
        try simp only [Act.put, List.getElem_toArray, List.getElem_cons_succ, List.getElem_cons_zero, List.setIfInBounds_toArray, List.set_cons_zero, List.set_cons_succ]
        refine wpAnyH_take (i := 15) (oi := _) (v := ?_) rfl (by kernel_rfl) (by kernel_rfl) (by kernel_rfl) (fun _ _ _ h => h) (Or.inl ⟨by rfl, ?_⟩) (by assumption) ?_
        rotate_left
        · (intro w hSw; (try dsimp only at hSw); go_simp <;> with_reducible rfl)
        try simp only [Act.put, List.getElem_toArray, List.getElem_cons_succ, List.getElem_cons_zero, List.setIfInBounds_toArray, List.set_cons_zero, List.set_cons_succ]
        refine wpAnyH_take (i := 16) (oi := _) (v := ?_) rfl (by kernel_rfl) (by kernel_rfl) (by kernel_rfl) (fun _ _ _ h => h) (Or.inl ⟨by rfl, ?_⟩) (by assumption) ?_
        rotate_left
        · (intro w hSw; (try dsimp only at hSw); go_simp <;> with_reducible rfl)
        try simp only [Act.put, List.getElem_toArray, List.getElem_cons_succ, List.getElem_cons_zero, List.setIfInBounds_toArray, List.set_cons_zero, List.set_cons_succ]
        refine wpAnyH_ready (rs := [17]) (by kernel_rfl) (by simp) ?_
        refine AllReadyH.cons (o := _) rfl (fun K hK => ?_) AllReadyH.nil
        go_simp; refine HSm.out.mono ?_; rintro e w' ⟨rfl, m, hm⟩; subst hm; have hc2 := HS.out _ (below_drewN HB8.out m)
        refine hK.out _ _ ?_ (fun hHeld => ?_)
        · exact hc2
        clear hK K
        try simp only [Act.put, List.getElem_toArray, List.getElem_cons_succ, List.getElem_cons_zero, List.setIfInBounds_toArray, List.set_cons_zero, List.set_cons_succ]
        refine wpAnyH_take (i := 18) (oi := _) (v := ?_) rfl (by kernel_rfl) (by kernel_rfl) (by kernel_rfl) (fun _ _ _ h => h) (Or.inl ⟨by rfl, ?_⟩) (by assumption) ?_
        rotate_left
        · (intro w hSw; (try dsimp only at hSw); go_simp <;> with_reducible rfl)
        try simp only [Act.put, List.getElem_toArray, List.getElem_cons_succ, List.getElem_cons_zero, List.setIfInBounds_toArray, List.set_cons_zero, List.set_cons_succ]
        refine wpAnyH_take (i := 19) (oi := _) (v := ?_) rfl (by kernel_rfl) (by kernel_rfl) (by kernel_rfl) (fun _ _ _ h => h) (Or.inl ⟨by rfl, ?_⟩) (by assumption) ?_
        rotate_left
        · (intro w hSw; (try dsimp only at hSw); go_simp <;> with_reducible rfl)
        try simp only [Act.put, List.getElem_toArray, List.getElem_cons_succ, List.getElem_cons_zero, List.setIfInBounds_toArray, List.set_cons_zero, List.set_cons_succ]
        refine wpAnyH_ready (rs := [20]) (by kernel_rfl) (by simp) ?_
        refine AllReadyH.cons (o := _) rfl (fun K hK => ?_) AllReadyH.nil
        go_simp; refine (nlri.lives_any _).mono ?_; rintro e w9 ⟨rfl, hb9⟩; have K9 := Lib.hid ((below_drewN K8.out m).trans (hb9.mono K8.out.size)); have hc3 := HS.out _ ((below_drewN HB8.out m).trans (hb9.mono HB8.out.size)); clear hb9
        refine hK.out _ _ ?_ (fun hHeld => ?_)
        · exact hc3
        clear hK K
        try simp only [Act.put, List.getElem_toArray, List.getElem_cons_succ, List.getElem_cons_zero, List.setIfInBounds_toArray, List.set_cons_zero, List.set_cons_succ]
        refine wpAnyH_take (i := 21) (oi := _) (v := ?_) rfl (by kernel_rfl) (by kernel_rfl) (by kernel_rfl) (fun _ _ _ h => h) (Or.inl ⟨by rfl, ?_⟩) (by assumption) ?_
        rotate_left
        · (intro w hSw; (try dsimp only at hSw); go_simp <;> with_reducible rfl)
        try simp only [Act.put, List.getElem_toArray, List.getElem_cons_succ, List.getElem_cons_zero, List.setIfInBounds_toArray, List.set_cons_zero, List.set_cons_succ]
        refine wpAnyH_take (i := 22) (oi := _) (v := ?_) rfl (by kernel_rfl) (by kernel_rfl) (by kernel_rfl) (fun _ _ _ h => h) (Or.inl ⟨by rfl, ?_⟩) (by assumption) ?_
        rotate_left
        · (intro w hSw; (try dsimp only at hSw); go_simp <;> with_reducible rfl)
        try simp only [Act.put, List.getElem_toArray, List.getElem_cons_succ, List.getElem_cons_zero, List.setIfInBounds_toArray, List.set_cons_zero, List.set_cons_succ]
        refine wpAnyH_done (by kernel_rfl) ?_ _
        refine NoPanic.normal ?_
        go_wp2_with fail
        go_ret
        exact ⟨rfl, H1.out.bel.trans (K9.out.mono hWB)⟩

set_option maxRecDepth 100000 in
theorem walk {H : Type} {enc : TypeId × Value → H} {W : World} {base : Nat} {v0 : Value} {d0 : DataW H} {p0 : List MemPlace}
    (hv0 : Value.okWide Try.prog W .any base 62 v0) (h0 : DataW.Trod enc Try.prog W 0 (fun _ => true) true 62 v0 d0 p0) :
    Calls Try.prog 9 #[v0] W fun e w' => e = .returned (.bool true) ∧ Below W.heap.size W w' := by
  obtain ⟨A, c, l, rfl, hA, hcap, hm, hs, hw⟩ := open_pre Try.underlying62 Try.underlying69 (by kernel_rfl) rfl rfl (by kernel_rfl) (by kernel_rfl) Try.underlying33 Try.underlying3 hv0 h0
  exact core A c l W hA hcap (by omega) hs (fun q hq => (hw q hq).1)
end Go.Proofs.Ytajilbapjpfloaa.nlriWrites
