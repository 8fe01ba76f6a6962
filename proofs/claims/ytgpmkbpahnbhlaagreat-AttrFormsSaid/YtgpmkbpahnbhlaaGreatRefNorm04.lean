/- What confluenceref04.Norm returns. Condition: at most 10^5 pieces and numbers together. -/
import Derived.Test.YtgpmkbpahnbhlaaGreatRefJoin04
namespace Go.Proofs.YtgpmkbpahnbhlaaGreat.attr
open Go.RowKit Go.Proofs.YtgpmkbpahnbhlaaGreat.kit Go.Proofs.YtgpmkbpahnbhlaaGreat.mem Go.Proofs.YtgpmkbpahnbhlaaGreat.foot Go.Proofs.YtgpmkbpahnbhlaaGreat.nums Go.Proofs.YtgpmkbpahnbhlaaGreat.asn Go.Proofs.YtgpmkbpahnbhlaaGreat.pth
set_option linter.unusedVariables false
set_option linter.unusedSimpArgs false
def rstep (out : List Sg) (s : Sg) : List Sg := if s.1 = 2 then s.2.foldl putS out else if s.1 = 1 ∧ 0 < s.2.length then out ++ [(1, setN s.2)] else out
def rnorm (l : List Sg) : List Sg := l.foldl rstep []
/-- does not end with a sequence -/
def NoSeq (o : List Sg) : Prop := ∀ s, o.getLast? = some s → s.1 ≠ 2
theorem putS_app {q : List Sg} (hq : q ≠ []) (n : Nat) : ∀ o : List Sg, putS (o ++ q) n = o ++ putS q n
  | [] => rfl
  | x :: o => by rw [List.cons_append, putS_cons (by simp [hq]), putS_app hq n o, List.cons_append]
theorem putS_at {o : List Sg} (ho : NoSeq o) (r : List Nat) (n : Nat) : putS (o ++ sgs 2 r) n = o ++ sgs 2 (r ++ [n]) := by
  by_cases hr : r = []
  · subst hr
    have e : sgs 2 ([] : List Nat) = [] := by unfold sgs; rw [ck_nil]; rfl
    rw [e, List.append_nil, List.nil_append]
    have e2 : sgs 2 [n] = [(2, [n])] := by unfold sgs; rw [ck_short (by simp) (by simp)]; rfl
    rw [e2]
    exact putS_no (fun s hs h => ho s hs h.1) n
  · have hq : sgs 2 r ≠ [] := by rw [sgs_cons 2 hr]; simp
    rw [putS_app hq, putS_sgs]
theorem puts_at {o : List Sg} (ho : NoSeq o) : ∀ (xs r : List Nat), xs.foldl putS (o ++ sgs 2 r) = o ++ sgs 2 (r ++ xs)
  | [], r => by simp
  | x :: xs, r => by rw [List.foldl_cons, putS_at ho, puts_at ho xs (r ++ [x])]; simp
theorem rnorm_key : ∀ (l : List Sg) (st : List Sg × List Nat), NoSeq st.1 → l.foldl rstep (st.1 ++ sgs 2 st.2) = (l.foldl nstep st).1 ++ sgs 2 (l.foldl nstep st).2
  | [], st, _ => rfl
  | s :: l, st, h => by
    rw [List.foldl_cons, List.foldl_cons]
    by_cases h2 : s.1 = 2
    · have e1 : rstep (st.1 ++ sgs 2 st.2) s = st.1 ++ sgs 2 (st.2 ++ s.2) := by unfold rstep; rw [if_pos h2, puts_at h]
      have e2 : nstep st s = (st.1, st.2 ++ s.2) := by unfold nstep; rw [if_pos h2]
      rw [e1, e2]
      exact rnorm_key l (st.1, st.2 ++ s.2) h
    · by_cases h1 : s.1 = 1 ∧ 0 < s.2.length
      · have e1 : rstep (st.1 ++ sgs 2 st.2) s = st.1 ++ sgs 2 st.2 ++ [(1, setN s.2)] := by unfold rstep; rw [if_neg h2, if_pos h1]
        have e2 : nstep st s = (st.1 ++ sgs 2 st.2 ++ [(1, setN s.2)], []) := by unfold nstep; rw [if_neg h2, if_pos h1]
        rw [e1, e2]
        have := rnorm_key l (st.1 ++ sgs 2 st.2 ++ [(1, setN s.2)], []) (fun t ht => by
          rw [List.getLast?_concat] at ht
          cases ht
          simp)
        rw [show sgs 2 ([] : List Nat) = [] by unfold sgs; rw [ck_nil]; rfl, List.append_nil] at this
        exact this
      · have e1 : rstep (st.1 ++ sgs 2 st.2) s = st.1 ++ sgs 2 st.2 := by unfold rstep; rw [if_neg h2, if_neg h1]
        have e2 : nstep st s = st := by unfold nstep; rw [if_neg h2, if_neg h1]
        rw [e1, e2]
        exact rnorm_key l st h
theorem rnorm_eq (l : List Sg) : rnorm l = normS l := by
  have := rnorm_key l ([], []) (fun s hs => by simp at hs)
  rw [show sgs 2 ([] : List Nat) = [] by unfold sgs; rw [ck_nil]; rfl, List.append_nil] at this
  exact this
theorem rstep_len (o : List Sg) (s : Sg) : (rstep o s).length ≤ o.length + (1 + s.2.length) := by
  unfold rstep
  split
  · have := puts_len s.2 o; omega
  · split
    · rw [List.length_append]; simp only [List.length_singleton]; omega
    · omega
theorem rnorm_len (l : List Sg) : ∀ o : List Sg, (l.foldl rstep o).length ≤ o.length + nsz l := by
  induction l with
  | nil => intro o; simp
  | cons s l ih =>
    intro o
    rw [List.foldl_cons]
    have h1 := ih (rstep o s)
    have h2 := rstep_len o s
    simp only [nsz, List.map_cons, List.sum_cons] at h1 ⊢
    omega
theorem rnorm_take {l : List Sg} {i : Nat} (h : i < l.length) : rnorm (l.take (i + 1)) = rstep (rnorm (l.take i)) l[i] := by
  unfold rnorm
  rw [List.take_succ_eq_append_getElem h, List.foldl_append]
  rfl
set_option maxRecDepth 100000 in
set_option maxHeartbeats 8000000 in
theorem refNorm04_any (A : Option Addr) (c : Nat) (l : List Sg) (G : Foot) (w : World) (hl : nsz l ≤ 100000) (hs : Els 2 rSeg w G A l) :
    Calls Tryz.prog 26 #[.slice A l.length c] w (RetP (normS l) w) := by
  obtain ⟨i0, hi, hz0, hz1, hz2⟩ := info_parts info_seg
  have Hi := Lib.hid hi
  have Hz0 := Lib.hid hz0
  have Hz1 := Lib.hid hz1
  have Hz2 := Lib.hid hz2
  have HS := Lib.hid hs
  have hll := nsz_len l
  have HPu : Hid (∀ (Ax : Option Addr) (cx n : Nat) (xs : List Sg) (w' : World), xs.length ≤ 100000 → n < 4294967296 → LS w w' Ax cx xs → Calls Tryz.prog 39 #[.slice Ax xs.length cx, .int .u32 n] w' fun e w' => ∃ A' c', e = .returned (.slice A' (putS xs n).length c') ∧ LS w w' A' c' (putS xs n)) := fun Ax cx n xs w' h1 h2 h3 => refPut04_any Ax cx n xs w w' h1 h2 h3
  have HQ : Hid (∀ (xs : List Sg) (Ao : Option Addr) (co : Nat) (wr : World), xs = rnorm l → LS w wr Ao co xs → RetP (normS l) w (.returned (.slice Ao xs.length co)) wr) := fun xs Ao co wr e h => by
    rw [← rnorm_eq, ← e]
    obtain ⟨vs, h⟩ := h
    exact ⟨Ao, co, vs, rfl, h⟩
  obtain ⟨Q, hQ⟩ : ∃ Q, Q = RetP (normS l) w := ⟨_, rfl⟩
  rw [← hQ] at HQ ⊢
  have HL0 : Hid (LS w (w.alloc (.cells #[] 55)) (some ⟨w.heap.size, 0, none⟩) 0 []) := ⟨[], Lst.start ((Below.refl _ _).alloc (Nat.le_refl _) _) (Bk.new w _ _) (Nat.le_refl _)⟩
  clear hi hz0 hz1 hz2 hs hQ
  go_enter Tryz.func26, Tryz.ntmps26
  go_wp2_with fail
  go_loopw [3, 4] (fun v3 v4 wr => ∃ (i : Nat) (xs : List Sg) (Ao : Option Addr) (co : Nat), i ≤ l.length ∧ v4 = .int .i64 i ∧ xs = rnorm (l.take i) ∧ v3 = .slice Ao xs.length co ∧ LS w wr Ao co xs) (fun _ v4 _ => l.length - (intOf v4).toNat)
  case atStart => exact ⟨0, [], _, 0, by omega, rfl, rfl, rfl, HL0.out⟩
  case round =>
    obtain ⟨i, xs, Ao, co, hi, rfl, hxs, rfl, hL⟩ := hrel
    have HL := Lib.hid hL
    have HX := Lib.hid hxs
    by_cases hlt : i < l.length
    · have hxl : xs.length + (1 + l[i].2.length) ≤ 100000 := by
        have h1 := rnorm_len (l.take i) []
        have h2 := nsz_at hlt
        rw [hxs]
        unfold rnorm
        simp at h1
        omega
      obtain ⟨b, off, cs, rfl, _, hbl, hrr, hc⟩ := HS.out.at_ keeps_seg hlt
      obtain ⟨A1, c1, rfl, hkw, hA1, hc1, hm1, hu1, hw1⟩ := seg_at hrr
      have HU : Hid (∀ w', Below w.heap.size w w' → w'.cell? ⟨b, off + i * 2, none⟩ = some (.int .i64 l[i].1) ∧ w'.cell? ⟨b, off + i * 2 + 1, none⟩ = some (.slice A1 l[i].2.length c1) ∧ Sn w' G A1 c1 l[i].2) := fun w' hb => ⟨(hb.cell (p := ⟨b, off + i * 2 + 0, none⟩) hbl).trans (hc 0 _ rfl), (hb.cell (p := ⟨b, off + i * 2 + 1, none⟩) hbl).trans (hc 1 _ rfl), ⟨hA1, hc1, hm1, Rg.bel hu1 hb⟩⟩
      have HLb : Hid (∀ w' A c xs, LS w w' A c xs → Below w.heap.size w w') := fun w' A c xs h => by obtain ⟨vs, h⟩ := h; exact h.acc.bel
      have hi1 : (i : Int) < (l.length : Int) := by omega
      have HNx : Hid (rnorm (l.take (i + 1)) = rstep xs l[i]) := by rw [Hid, rnorm_take hlt, HX.out]
      have HW1 := Lib.hid hw1
      obtain ⟨q0, q1, hsn⟩ := HU.out wr (HLb.out _ _ _ _ hL)
      have HSn := Lib.hid hsn
      clear hc hrr hbl hkw hA1 hc1 hm1 hu1 hw1 hL hxs hsn
      generalize hsg : l[i] = sg at *
      obtain ⟨kd, ns⟩ := sg
      dsimp only at *
      clear hsg
      by_cases h2 : kd = 2
      · subst h2
        have HNy : Hid (rnorm (l.take (i + 1)) = ns.foldl putS xs) := by rw [Hid, HNx.out]; rfl
        have HN0 : Hid (xs = (ns.take 0).foldl putS xs) := rfl
        go_wp2_with fail
        go_loopw [3, 5] (fun v3 v5 wr => ∃ (k : Nat) (ys : List Sg) (Ay : Option Addr) (cy : Nat), k ≤ ns.length ∧ v5 = .int .i64 k ∧ ys = (ns.take k).foldl putS xs ∧ v3 = .slice Ay ys.length cy ∧ LS w wr Ay cy ys) (fun _ v5 _ => ns.length - (intOf v5).toNat)
        case atStart => exact ⟨0, xs, Ao, co, by omega, rfl, HN0.out, rfl, HL.out⟩
        case round =>
          obtain ⟨k, ys, Ay, cy, hk, rfl, hys, rfl, hLy⟩ := hrel
          have HLy := Lib.hid hLy
          have HY := Lib.hid hys
          have hyl : ys.length ≤ xs.length + k := by
            have h1 := puts_len (ns.take k) xs
            have h2 : (ns.take k).length ≤ k := by rw [List.length_take]; omega
            rw [hys]
            omega
          obtain ⟨r0, r1, hsn⟩ := HU.out wr (HLb.out _ _ _ _ hLy)
          have HSn := Lib.hid hsn
          clear hsn hys hLy
          by_cases hkl : k < ns.length
          · obtain ⟨p1, o1, rfl, l1, c1⟩ := HSn.out.at_ hkl
            have hk1 : (k : Int) < (ns.length : Int) := by omega
            have HPx := Lib.hid (HPu.out Ay cy ns[k] ys wr (by omega) (HW1.out _ (List.getElem_mem hkl)) HLy.out)
            have HNe : Hid (putS ys ns[k] = (ns.take (k + 1)).foldl putS xs) := by
              rw [Hid, HY.out, List.take_succ_eq_append_getElem hkl, List.foldl_append]
              rfl
            generalize ns[k] = x at *
            generalize putS ys x = zs at *
            generalize hnl : ns.length = nl at *
            go_wp2_with (go_at_call 39; refine HPx.out.mono ?_; rintro e w2 ⟨A2, c2, rfl, h2⟩; have HL2 := Lib.hid h2; clear h2)
            go_roundw
            case rel => exact ⟨k + 1, zs, A2, c2, by omega, by go_num, HNe.out, rfl, HL2.out⟩
            case measure => simp [intOf]; omega
          · obtain rfl : k = ns.length := by omega
            have HNz : Hid (ys = rnorm (l.take (i + 1))) := by
              have h := HY.out
              rw [List.take_length] at h
              rw [Hid, HNy.out, h]
            clear HY HNx HNy
            generalize hnl : ns.length = nl at *
            clear hkl
            go_wp2_with fail
            go_roundw
            case rel => exact ⟨i + 1, ys, Ay, cy, by omega, by go_num, HNz.out, rfl, HLy.out⟩
            case measure => simp [intOf]; omega
      · have d2 : (kd == 2) = false := by rw [beq_eq_false_iff_ne]; exact h2
        by_cases h1 : kd = 1
        · subst h1
          rcases Nat.eq_zero_or_pos ns.length with h0 | hpos
          · have HNz : Hid (xs = rnorm (l.take (i + 1))) := by
              rw [Hid, HNx.out]
              unfold rstep
              rw [if_neg (by simp), if_neg (by simp; exact List.length_eq_zero_iff.1 h0)]
            rw [h0] at q1
            go_wp2_with fail
            go_roundw
            case rel => exact ⟨i + 1, xs, Ao, co, by omega, by go_num, HNz.out, rfl, HL.out⟩
            case measure => simp [intOf]; omega
          · have HNz : Hid (xs ++ [(1, setN ns)] = rnorm (l.take (i + 1))) := by
              rw [Hid, HNx.out]
              unfold rstep
              rw [if_neg (by simp), if_pos ⟨rfl, hpos⟩]
            have HSt : Hid (Calls Tryz.prog 27 #[.slice A1 ns.length c1] wr (RetNums (setN ns) wr)) := refSet02 A1 c1 ns G wr (by omega) HSn.out
            have HW2 : Hid (W32 (setN ns)) := setN_w32 HW1.out
            obtain ⟨vs, hls⟩ := HL.out
            have HLs := Lib.hid hls
            have HOw : Hid (∀ w5 A5 c5, foot.Own w5 23 1 A5 (setN ns).length c5 (uv (setN ns)) → (∀ k, sf A5 k → wr.heap.size ≤ k) → Below wr.heap.size wr w5 → foot.Own (w5.alloc (.cells #[.int .i64 1, .slice A5 (setN ns).length c5] 55)) 55 2 Ao xs.length co vs ∧ Rg (w5.alloc (.cells #[.int .i64 1, .slice A5 (setN ns).length c5] 55)) (fun k => k = w5.heap.size) 2 (some ⟨w5.heap.size, 0, none⟩) 1 [.int .i64 1, .slice A5 (setN ns).length c5]) := fun w5 A5 c5 h1 h2 h3 => ⟨(hls.acc.own.bel h3).bel ((Below.refl _ _).alloc (Nat.le_refl _) _), rg_two (Bk.new w5 _ _)⟩
            have HFin : Hid (∀ w5 A5 c5 w8 A8 c8, (foot.Own w5 23 1 A5 (setN ns).length c5 (uv (setN ns)) ∧ (∀ k, sf A5 k → wr.heap.size ≤ k) ∧ Below wr.heap.size wr w5) → foot.Own w8 55 2 A8 (xs.length + 1) c8 (vs ++ [.int .i64 1, .slice A5 (setN ns).length c5]) → Chg (sf Ao) (w5.alloc (.cells #[.int .i64 1, .slice A5 (setN ns).length c5] 55)) w8 → Fresh (w5.alloc (.cells #[.int .i64 1, .slice A5 (setN ns).length c5] 55)) (sf Ao) (sf A8) → LS w w8 A8 c8 (xs ++ [(1, setN ns)])) := fun w5 A5 c5 w8 A8 c8 h1 h2 h3 h4 => by
              refine ⟨vs ++ [.int .i64 1, .slice A5 (setN ns).length c5], ?_⟩
              have := seg_app (k := 1) (by decide) HLs.out h1.1 h1.2.1 h1.2.2 HW2.out h2 h3 h4
              rw [List.length_append]
              exact this
            have hpn : (0 : Int) < (ns.length : Int) := by omega
            generalize setN ns = st at *
            generalize hnl : ns.length = nl at *
            clear hls HL
            go_wp2_with (first
              | (go_at_call 27; refine HSt.out.mono ?_; rintro e w5 ⟨A5, c5, rfl, h1, h2, h3⟩; have H5 := Lib.hid (And.intro h1 (And.intro h2 h3)); have HO5 := Lib.hid (HOw.out w5 A5 c5 h1 h2 h3); clear h1 h2 h3)
              | (at_builtin; refine wpList_app _ rfl (.tmp 54) (.tmp 62) _ rfl 55 i0 _ 2 32 Tryz.underlying22 Hi.out Hz0.out Hz1.out Hz2.out rfl (by omega) Ao xs.length co vs rfl HO5.out.1 _ (some ⟨w5.heap.size, 0, none⟩) 1 1 (by intro h; cases h) _ rfl HO5.out.2 (by intro u hu; simp at hu; rcases hu with rfl | rfl <;> rfl) (by unfold maxLen; omega) (by omega) ?_; intro A8 c8 w8 ho8 hc8 hf8; have H8 := Lib.hid (HFin.out w5 A5 c5 w8 A8 c8 H5.out ho8 hc8 hf8); clear ho8 hc8 hf8))
            go_roundw
            case rel => exact ⟨i + 1, xs ++ [(1, st)], A8, c8, by omega, by go_num, HNz.out, by rw [List.length_append]; rfl, H8.out⟩
            case measure => simp [intOf]; omega
        · have d1 : (kd == 1) = false := by rw [beq_eq_false_iff_ne]; exact h1
          have HNz : Hid (xs = rnorm (l.take (i + 1))) := by
            rw [Hid, HNx.out]
            unfold rstep
            rw [if_neg h2, if_neg (fun h => h1 h.1)]
          generalize hnl : ns.length = nl at *
          go_wp2_with fail
          go_roundw
          case rel => exact ⟨i + 1, xs, Ao, co, by omega, by go_num, HNz.out, rfl, HL.out⟩
          case measure => simp [intOf]; omega
    · obtain rfl : i = l.length := by omega
      rw [List.take_length] at HX
      have HEn := Lib.hid (HQ.out xs Ao co wr HX.out HL.out)
      clear hL hxs
      go_wp2_with fail
      exact HEn.out
end Go.Proofs.YtgpmkbpahnbhlaaGreat.attr
