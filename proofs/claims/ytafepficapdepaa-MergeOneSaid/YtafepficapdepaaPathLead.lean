/- What path.Lead and path.All return. Condition: at most 10^6 pieces and numbers together. -/
import Derived.Test.YtafepficapdepaaPathGood
import Derived.Test.YtafepficapdepaaSplice
namespace Go.Proofs.Ytafepficapdepaa.pth
open Go.RowKit Go.Proofs.Ytafepficapdepaa.kit Go.Proofs.Ytafepficapdepaa.mem Go.Proofs.Ytafepficapdepaa.foot Go.Proofs.Ytafepficapdepaa.nums Go.Proofs.Ytafepficapdepaa.asn
set_option linter.unusedVariables false
set_option linter.unusedSimpArgs false
theorem allP_take {l : List Sg} {i : Nat} (h : i < l.length) : allP (l.take (i + 1)) = allP (l.take i) ++ l[i].2 := by
  unfold allP
  rw [List.take_succ_eq_append_getElem h, List.flatMap_append]
  simp
theorem allP_sz : ∀ l : List Sg, (allP l).length ≤ nsz l
  | [] => by simp [allP, nsz]
  | s :: l => by
    have ih := allP_sz l
    simp only [allP, nsz, List.flatMap_cons, List.map_cons, List.sum_cons, List.length_append] at ih ⊢
    omega
theorem leadP_upto : ∀ (l : List Sg) (i : Nat), (∀ s ∈ l.take i, s.1 = 2) → leadP l = allP (l.take i) ++ leadP (l.drop i)
  | l, 0, _ => by simp [allP]
  | [], i + 1, _ => by simp [allP, leadP]
  | s :: l, i + 1, h => by
    have h1 : s.1 = 2 := h s (by simp)
    have ih := leadP_upto l i fun t ht => h t (by simp; exact .inr ht)
    rw [List.take_succ_cons, List.drop_succ_cons]
    show (if s.1 = 2 then s.2 ++ leadP l else []) = _
    rw [if_pos h1, ih]
    simp [allP]
theorem leadP_end {l : List Sg} {i : Nat} (h : i < l.length) (hk : l[i].1 ≠ 2) : leadP (l.drop i) = [] := by
  rw [List.drop_eq_getElem_cons h]
  unfold leadP
  rw [if_neg hk]
theorem ret_acc {w w' : World} {A : Option Addr} {c : Nat} {l : List Nat} (h : Acc w 22 1 w' A l.length c (uv l)) : RetNums l w (.returned (.slice A l.length c)) w' := ⟨A, c, rfl, h.own, h.low, h.bel⟩
set_option maxRecDepth 100000 in
set_option maxHeartbeats 2000000 in
theorem Lead_any (A : Option Addr) (c : Nat) (l : List Sg) (G : Foot) (w : World) (hl : nsz l ≤ 1000000) (hs : Els 2 rSeg w G A l) :
    Calls Try.prog 145 #[.slice A l.length c] w (RetNums (leadP l) w) := by
  obtain ⟨j0, hj, hy0, hy1, hy2⟩ := info_parts info_u32
  have Hj := Lib.hid hj
  have Hy0 := Lib.hid hy0
  have Hy1 := Lib.hid hy1
  have Hy2 := Lib.hid hy2
  have HS := Lib.hid hs
  have hll := nsz_len l
  have HQ : Hid (∀ (xs : List Nat) (Ao : Option Addr) (co : Nat) (wr : World), xs = leadP l → Acc w 22 1 wr Ao xs.length co (uv xs) → RetNums (leadP l) w (.returned (.slice Ao xs.length co)) wr) := fun xs Ao co wr e h => by
    rw [← e]
    exact ret_acc h
  have HLe : Hid (∀ i, (∀ s ∈ l.take i, s.1 = 2) → (∀ h : i < l.length, l[i].1 ≠ 2) → allP (l.take i) = leadP l) := fun i h1 h2 => by
    rw [leadP_upto l i h1]
    by_cases hi : i < l.length
    · rw [leadP_end hi (h2 hi), List.append_nil]
    · rw [List.drop_of_length_le (by omega)]; simp [leadP]
  obtain ⟨Q, hQ⟩ : ∃ Q, Q = RetNums (leadP l) w := ⟨_, rfl⟩
  rw [← hQ] at HQ ⊢
  clear hj hy0 hy1 hy2 hs hQ
  go_enter Try.func145, Try.ntmps145
  go_wp2_with fail
  go_loopw [3, 8] (fun v3 v8 wr => ∃ (i : Nat) (xs : List Nat) (Ao : Option Addr) (co : Nat), i ≤ l.length ∧ v8 = .int .i64 i ∧ xs = allP (l.take i) ∧ v3 = .slice Ao xs.length co ∧ (∀ s ∈ l.take i, s.1 = 2) ∧ Acc w 22 1 wr Ao xs.length co (uv xs)) (fun _ v8 _ => l.length - (intOf v8).toNat)
  case atStart => exact ⟨0, [], none, 0, by omega, rfl, rfl, rfl, fun s h => by simp at h, ⟨foot.Own.none_ _ _ _, Below.refl _ _, fun k h => absurd h (sf_none k)⟩⟩
  case round =>
    obtain ⟨i, xs, Ao, co, hi, rfl, hxs, rfl, hk, hacc⟩ := hrel
    have HA := Lib.hid hacc
    have HK := Lib.hid hk
    have hxl : xs.length ≤ nsz (l.take i) := by rw [hxs]; exact allP_sz _
    have HX := Lib.hid hxs
    have hnt := nsz_take l i
    clear hacc hk hxs
    by_cases hlt : i < l.length
    · have hn := nsz_at hlt
      obtain ⟨b, off, cs, rfl, _, hb, hr, hc⟩ := HS.out.at_ keeps_seg hlt
      obtain ⟨A2, c2, rfl, _, hA2, _, _, hu2, _⟩ := seg_at hr
      have q0 := (HA.out.bel.cell (p := ⟨b, off + i * 2 + 0, none⟩) hb).trans (hc 0 _ rfl)
      have q1 := (HA.out.bel.cell (p := ⟨b, off + i * 2 + 1, none⟩) hb).trans (hc 1 _ rfl)
      rw [Nat.add_zero] at q0
      have hi' : (i : Int) < (l.length : Int) := by omega
      have HUa : Hid (Us (wr.alloc (.cells #[.int .i64 l[i].1, .slice A2 l[i].2.length c2] 122)) G A2 l[i].2) := Rg.bel hu2 (HA.out.bel.alloc HA.out.bel.size _)
      have HAa : Hid (Acc w 22 1 (wr.alloc (.cells #[.int .i64 l[i].1, .slice A2 l[i].2.length c2] 122)) Ao xs.length co (uv xs)) := HA.out.go ((Below.refl _ _).alloc (Nat.le_refl _) _)
      have HAl := Lib.hid (allP_take hlt)
      have HA2 := Lib.hid hA2
      clear hc hr hb hu2 hA2
      by_cases hk : l[i].1 = 2
      · have HK2 : Hid (∀ s ∈ l.take (i + 1), s.1 = 2) := fun s hs => by
          rw [List.take_succ_eq_append_getElem hlt] at hs
          rcases List.mem_append.1 hs with hs | hs
          · exact HK.out s hs
          · simp only [List.mem_singleton] at hs; rw [hs]; exact hk
        rw [hk] at q0 HUa HAa
        generalize l[i].2 = ns at *
        clear hk
        go_wp2_with (at_builtin; refine wpList_app _ rfl (.tmp 15) (.tmp 17) _ rfl 22 j0 _ 1 4 Try.underlying67 Hj.out Hy0.out Hy1.out Hy2.out rfl (by omega) Ao xs.length co (uv xs) rfl HAa.out.own _ A2 ns.length c2 HA2.out (uv ns) rfl HUa.out (uv_one ns) (by unfold maxLen; omega) (by omega) ?_; intro A3 c3 w3 ho3 hc3 hf3; have HA3 := Lib.hid (HAa.out.app ho3 hc3 hf3); clear ho3 hc3 hf3)
        go_roundw
        case rel => exact ⟨i + 1, xs ++ ns, A3, c3, by omega, by go_num, by rw [HAl.out, HX.out], by rw [List.length_append], HK2.out, by rw [List.length_append, uv_app]; exact HA3.out⟩
        case measure => simp [intOf]; omega
      · have HL := Lib.hid (HX.out.trans (HLe.out i HK.out fun _ => hk))
        have d2 : (l[i].1 == 2) = false := by rw [beq_eq_false_iff_ne]; exact hk
        have d3 : (l[i].1 != 2) = true := by simp [hk]
        generalize l[i].2.length = ns at *
        generalize l[i].1 = kd at *
        go_wp2_with fail
        exact HQ.out xs Ao co _ HL.out HAa.out
    · obtain rfl : i = l.length := by omega
      have HL := Lib.hid (HX.out.trans (HLe.out _ HK.out fun h => absurd h (by omega)))
      go_wp2_with fail
      exact HQ.out xs Ao co _ HL.out HA.out
set_option maxRecDepth 100000 in
set_option maxHeartbeats 2000000 in
theorem All_any (A : Option Addr) (c : Nat) (l : List Sg) (G : Foot) (w : World) (hl : nsz l ≤ 1000000) (hs : Els 2 rSeg w G A l) :
    Calls Try.prog 149 #[.slice A l.length c] w (RetNums (setN (allP l)) w) := by
  obtain ⟨j0, hj, hy0, hy1, hy2⟩ := info_parts info_u32
  have Hj := Lib.hid hj
  have Hy0 := Lib.hid hy0
  have Hy1 := Lib.hid hy1
  have Hy2 := Lib.hid hy2
  have HS := Lib.hid hs
  have hll := nsz_len l
  have HSe : Hid (∀ (xs : List Nat) (Ao : Option Addr) (co : Nat) (wr : World), xs = allP l → xs.length ≤ 1000000 → Acc w 22 1 wr Ao xs.length co (uv xs) → Calls Try.prog 103 #[.slice Ao xs.length co] wr (RetNums (setN (allP l)) w)) := fun xs Ao co wr e hx h => by
    refine (Set_any Ao co xs _ wr (by omega) h.own.nil h.own.cap h.own.max h.own.rg).mono ?_
    rintro e2 w2 ⟨t, ht, _, hr⟩
    obtain rfl := ht.eq (setN_ok xs)
    obtain ⟨A', c', rfl, h1, h2, h3⟩ := hr
    rw [e] at h1 ⊢
    exact ⟨A', c', rfl, h1, fun k hk => Nat.le_trans h.bel.size (h2 k hk), h.bel.trans (h3.mono h.bel.size)⟩
  have HF : Hid (∀ e w', RetNums (setN (allP l)) w e w' → ∃ A n c, e = .returned (.slice A n c)) := fun e w' => by
    rintro ⟨A, c, rfl, _⟩
    exact ⟨A, _, c, rfl⟩
  obtain ⟨Q, hQ⟩ : ∃ Q, Q = RetNums (setN (allP l)) w := ⟨_, rfl⟩
  rw [← hQ] at HSe HF ⊢
  clear hj hy0 hy1 hy2 hs hQ
  go_enter Try.func149, Try.ntmps149
  go_wp2_with fail
  go_loopw [3, 8] (fun v3 v8 wr => ∃ (i : Nat) (xs : List Nat) (Ao : Option Addr) (co : Nat), i ≤ l.length ∧ v8 = .int .i64 i ∧ xs = allP (l.take i) ∧ v3 = .slice Ao xs.length co ∧ Acc w 22 1 wr Ao xs.length co (uv xs)) (fun _ v8 _ => l.length - (intOf v8).toNat)
  case atStart => exact ⟨0, [], none, 0, by omega, rfl, rfl, rfl, ⟨foot.Own.none_ _ _ _, Below.refl _ _, fun k h => absurd h (sf_none k)⟩⟩
  case round =>
    obtain ⟨i, xs, Ao, co, hi, rfl, hxs, rfl, hacc⟩ := hrel
    have HA := Lib.hid hacc
    have hxl : xs.length ≤ nsz (l.take i) := by rw [hxs]; exact allP_sz _
    have HX := Lib.hid hxs
    have hnt := nsz_take l i
    clear hacc hxs
    by_cases hlt : i < l.length
    · have hn := nsz_at hlt
      obtain ⟨b, off, cs, rfl, _, hb, hr, hc⟩ := HS.out.at_ keeps_seg hlt
      obtain ⟨A2, c2, rfl, _, hA2, _, _, hu2, _⟩ := seg_at hr
      have q0 := (HA.out.bel.cell (p := ⟨b, off + i * 2 + 0, none⟩) hb).trans (hc 0 _ rfl)
      have q1 := (HA.out.bel.cell (p := ⟨b, off + i * 2 + 1, none⟩) hb).trans (hc 1 _ rfl)
      rw [Nat.add_zero] at q0
      have hi' : (i : Int) < (l.length : Int) := by omega
      have HUa : Hid (Us (wr.alloc (.cells #[.int .i64 l[i].1, .slice A2 l[i].2.length c2] 122)) G A2 l[i].2) := Rg.bel hu2 (HA.out.bel.alloc HA.out.bel.size _)
      have HAa : Hid (Acc w 22 1 (wr.alloc (.cells #[.int .i64 l[i].1, .slice A2 l[i].2.length c2] 122)) Ao xs.length co (uv xs)) := HA.out.go ((Below.refl _ _).alloc (Nat.le_refl _) _)
      have HAl := Lib.hid (allP_take hlt)
      have HA2 := Lib.hid hA2
      clear hc hr hb hu2 hA2
      generalize l[i].2 = ns at *
      generalize l[i].1 = kd at *
      go_wp2_with (at_builtin; refine wpList_app _ rfl (.tmp 12) (.tmp 14) _ rfl 22 j0 _ 1 4 Try.underlying67 Hj.out Hy0.out Hy1.out Hy2.out rfl (by omega) Ao xs.length co (uv xs) rfl HAa.out.own _ A2 ns.length c2 HA2.out (uv ns) rfl HUa.out (uv_one ns) (by unfold maxLen; omega) (by omega) ?_; intro A3 c3 w3 ho3 hc3 hf3; have HA3 := Lib.hid (HAa.out.app ho3 hc3 hf3); clear ho3 hc3 hf3)
      go_roundw
      case rel => exact ⟨i + 1, xs ++ ns, A3, c3, by omega, by go_num, by rw [HAl.out, HX.out], by rw [List.length_append], by rw [List.length_append, uv_app]; exact HA3.out⟩
      case measure => simp [intOf]; omega
    · obtain rfl : i = l.length := by omega
      rw [List.take_length] at HX hxl
      have HSx := Lib.hid (HSe.out xs Ao co wr HX.out (by omega) HA.out)
      go_wp2_with (go_at_call 103; refine HSx.out.mono ?_; rintro e w' hp; go_must (obtain ⟨A', n, c', rfl⟩ := HF.out e w' hp); have HP := Lib.hid hp; clear hp)
      exact HP.out
end Go.Proofs.Ytafepficapdepaa.pth
