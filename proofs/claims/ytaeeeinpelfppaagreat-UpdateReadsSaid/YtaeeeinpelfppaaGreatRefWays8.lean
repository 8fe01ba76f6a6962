/- What confluenceref08.Ways and numbers return. Condition: at most 10^5 pieces and numbers together; at most 10^5 bytes. -/
import Derived.Test.YtaeeeinpelfppaaGreatRefGood04
import Derived.Test.YtaeeeinpelfppaaGreatRefPath8
namespace Go.Proofs.YtaeeeinpelfppaaGreat.attr
open Go.RowKit Go.Proofs.YtaeeeinpelfppaaGreat.kit Go.Proofs.YtaeeeinpelfppaaGreat.mem Go.Proofs.YtaeeeinpelfppaaGreat.foot Go.Proofs.YtaeeeinpelfppaaGreat.nums Go.Proofs.YtaeeeinpelfppaaGreat.asn Go.Proofs.YtaeeeinpelfppaaGreat.pth Go.Proofs.YtaeeeinpelfppaaGreat.octet
set_option linter.unusedVariables false
set_option linter.unusedSimpArgs false
set_option maxRecDepth 100000 in
set_option maxHeartbeats 2000000 in
theorem refWays_any (A : Option Addr) (c : Nat) (l : List Sg) (G : Foot) (w : World) (z : Bool) (hz : z = true ↔ WaysS l) (hl : nsz l ≤ 100000) (hs : Els 2 rSeg w G A l) :
    Calls Tryz.prog 86 #[.slice A l.length c] w fun e w' => e = .returned (.bool z) ∧ Below w.heap.size w w' := by
  have HS := Lib.hid hs
  have HZ := Lib.hid hz
  have hll := nsz_len l
  have HG : Hid (∀ (g : Bool) (w' : World), (g = true ↔ GoodS l) → Below w.heap.size w w' → Calls Tryz.prog 112 #[.slice A l.length c] w' fun e w2 => e = .returned (.bool g) ∧ Below w'.heap.size w' w2) := fun g w' hg hb => refGood04_any A c l G w' g hg hl (hs.bel keeps_seg hb)
  obtain ⟨g, hg⟩ : ∃ g : Bool, g = true ↔ GoodS l := by
    rcases Classical.em (GoodS l) with h | h
    · exact ⟨true, by simp [h]⟩
    · exact ⟨false, by simp [h]⟩
  have HGg := Lib.hid hg
  have hal := allP_sz l
  clear hs hz hg
  go_enter Tryz.func86, Tryz.ntmps86
  go_wp2_with fail
  go_loopw [3, 4] (fun v3 v8 wr => ∃ i n : Nat, i ≤ l.length ∧ v8 = .int .i64 i ∧ v3 = .int .i64 n ∧ n = (allP (l.take i)).length ∧ Below w.heap.size w wr) (fun _ v8 _ => l.length - (intOf v8).toNat)
  case atStart => exact ⟨0, 0, by omega, rfl, rfl, rfl, Below.refl _ _⟩
  case round =>
    obtain ⟨i, n, hi, rfl, rfl, hn, hb⟩ := hrel
    have HB := Lib.hid hb
    have HN := Lib.hid hn
    have hn1 := allP_sz (l.take i)
    have hn2 := nsz_take l i
    have hn3 : n ≤ 100000 := by omega
    clear hb hn hn1 hn2
    by_cases hlt : i < l.length
    · have hsz := nsz_at hlt
      obtain ⟨b, off, cs, rfl, _, hbl, hrr, hc⟩ := HS.out.at_ keeps_seg hlt
      obtain ⟨A1, c1, rfl, _, _, _, _, _, _⟩ := seg_at hrr
      have q0 := (HB.out.cell (p := ⟨b, off + i * 2 + 0, none⟩) hbl).trans (hc 0 _ rfl)
      have q1 := (HB.out.cell (p := ⟨b, off + i * 2 + 1, none⟩) hbl).trans (hc 1 _ rfl)
      rw [Nat.add_zero] at q0
      have hi1 : (i : Int) < (l.length : Int) := by omega
      have HN2 : Hid (n + l[i].2.length = (allP (l.take (i + 1))).length) := by rw [Hid, allP_take hlt, List.length_append, HN.out]
      have hn4 : l[i].2.length ≤ 100000 := by omega
      clear hc hrr hbl hsz hal
      generalize l[i].1 = k1 at *
      generalize l[i].2.length = m at *
      go_wp2_with fail
      go_roundw
      case rel => exact ⟨i + 1, n + m, by omega, by go_num, by go_num, HN2.out, HB.out⟩
      case measure => simp [intOf]; omega
    · obtain rfl : i = l.length := by omega
      rw [List.take_length] at HN
      have HGa := Lib.hid (HG.out g wr HGg.out HB.out)
      by_cases h2 : n ≤ 2000
      · have d2 : decide ((n : Int) ≤ 2000) = true := by rw [decide_eq_true_iff]; omega
        have HZg : Hid (z = g) := by
          rw [Hid, Bool.eq_iff_iff, HZ.out, HGg.out]
          exact ⟨fun h => h.1, fun h => ⟨h, by rw [← HN.out]; exact h2⟩⟩
        have hcs : g = true ∨ g = false := by cases g <;> simp
        rcases hcs with rfl | rfl
        all_goals
          go_wp2_with (go_at_call 112; refine HGa.out.mono ?_; rintro e w2 ⟨rfl, hb2⟩; have HB2 := Lib.hid (HB.out.trans (hb2.mono HB.out.size)); clear hb2)
          go_ret
          exact ⟨by rw [HZg.out]; rfl, HB2.out⟩
      · have d2 : decide ((n : Int) ≤ 2000) = false := by rw [decide_eq_false_iff_not]; omega
        have HZf : Hid (z = false) := by
          rw [← Bool.not_eq_true, HZ.out]
          intro h
          have := h.2
          rw [← HN.out] at this
          omega
        have hcs : g = true ∨ g = false := by cases g <;> simp
        rcases hcs with rfl | rfl
        all_goals
          go_wp2_with (go_at_call 112; refine HGa.out.mono ?_; rintro e w2 ⟨rfl, hb2⟩; have HB2 := Lib.hid (HB.out.trans (hb2.mono HB.out.size)); clear hb2)
          go_ret
          exact ⟨by rw [HZf.out]; rfl, HB2.out⟩
theorem nums4_some (l : List UInt8) (h : 4 ≤ l.length) : nums4 l = num (l.take 4) :: nums4 (l.drop 4) := by
  match l, h with
  | a :: b :: c :: d :: t, _ => rfl
theorem nums4_none (l : List UInt8) (h : l.length < 4) : nums4 l = [] := by
  match l, h with
  | [], _ => rfl
  | [_], _ => rfl
  | [_, _], _ => rfl
  | [_, _, _], _ => rfl
set_option maxRecDepth 100000 in
set_option maxHeartbeats 4000000 in
theorem refNumbers_any (A : Option Addr) (c : Nat) (G : Foot) (l : List UInt8) (w : World) (hl : l.length ≤ 100000) (hs : Bn w G A c l) :
    Calls Tryz.prog 100 #[.slice A l.length c] w (RetNums (nums4 l) w) := by
  obtain ⟨j0, hj, hy0, hy1, hy2⟩ := info_parts info_u32
  have Hj := Lib.hid hj
  have Hy0 := Lib.hid hy0
  have Hy1 := Lib.hid hy1
  have Hy2 := Lib.hid hy2
  have HS := Lib.hid hs
  have HNum := Lib.hid (fun (A : Option Addr) (c B : Nat) (l : List UInt8) (w : World) (h1 : l.length ≤ 4) (h2 : Bs w B A l) => Num_any A c B l w h1 h2)
  have HA0 : Hid (Acc w 26 1 (w.alloc (.cells #[] 26)) (some ⟨w.heap.size, 0, none⟩) 0 0 []) := Acc.start ((Below.refl _ _).alloc (Nat.le_refl _) _) (Bk.new w _ _) (Nat.le_refl _)
  obtain ⟨Q, hQ⟩ : ∃ Q, Q = RetNums (nums4 l) w := ⟨_, rfl⟩
  have HQ : Hid (∀ (xs : List Nat) (A' : Option Addr) (c' : Nat) (w' : World), xs = nums4 l → Acc w 26 1 w' A' xs.length c' (uv xs) → Q (.returned (.slice A' xs.length c')) w') := fun xs A' c' w' h1 h2 => by
    subst h1
    rw [hQ]
    exact ⟨A', c', rfl, h2.own, h2.low, h2.bel⟩
  rw [← hQ]
  have hcm := hs.max
  have hcap := hs.cap
  unfold maxLen at hcm
  clear hQ hj hy0 hy1 hy2 hs
  go_enter Tryz.func100, Tryz.ntmps100
  go_wp2_with fail
  go_loopw [3, 4] (fun v3 v4 wr => ∃ (i : Nat) (xs : List Nat) (Ao : Option Addr) (co : Nat), 4 * i ≤ l.length ∧ xs.length = i ∧ v4 = .int .i64 (4 * i : Nat) ∧ v3 = .slice Ao xs.length co ∧ nums4 l = xs ++ nums4 (l.drop (4 * i)) ∧ Acc w 26 1 wr Ao xs.length co (uv xs)) (fun _ v4 _ => l.length + 4 - (intOf v4).toNat)
  case atStart => exact ⟨0, [], _, 0, by omega, rfl, rfl, rfl, rfl, HA0.out⟩
  case round =>
    obtain ⟨i, xs, Ao, co, hi, hxi, rfl, rfl, hx, ha⟩ := hrel
    have HX := Lib.hid hx
    have HA := Lib.hid ha
    have HXi := Lib.hid hxi
    have hxl : xs.length ≤ 25000 := by omega
    clear hx ha hxi
    by_cases hlt : 4 * i + 4 ≤ l.length
    · obtain ⟨b, off, rfl⟩ := bn_some HS.out (by omega)
      have hdl : (l.drop (4 * i)).length = l.length - 4 * i := List.length_drop
      have hn := nums4_some (l.drop (4 * i)) (by omega)
      rw [List.drop_drop] at hn
      have HNx : Hid (nums4 l = (xs ++ [num ((l.drop (4 * i)).take 4)]) ++ nums4 (l.drop (4 * (i + 1)))) := by
        rw [Hid, HX.out, hn]
        simp [Nat.mul_add]
      have hsl : ∀ w', (Instr.slice 22 (.slice (some ⟨b, off, none⟩) l.length c) (some (.int .i64 (4 * i : Nat))) (some (.int .i64 (((4 * i : Nat) : Int) + 4))) none).run Tryz.prog w' = .ok (.slice (some ⟨b, off + 4 * i, none⟩) 4 (c - 4 * i)) w' := fun w' => by
        have := run_cut8 b off l.length c (4 * i) (4 * i + 4) ((4 * i : Nat) : Int) (((4 * i : Nat) : Int) + 4) rfl (by omega) (by omega) (by omega) (by omega) hcap (by unfold maxLen; omega) w'
        rw [show 4 * i + 4 - 4 * i = 4 by omega] at this
        exact this
      have HUx : Hid (∀ wz, Below w.heap.size w wz → Calls Tryz.prog 29 #[.slice (some ⟨b, off + 4 * i, none⟩) 4 (c - 4 * i)] wz fun e w' => e = .returned (.int .u32 (num ((l.drop (4 * i)).take 4) : Int)) ∧ wz = w') := fun wz hb => by
        have h1 := bs_mid (HS.out.bel hb) (lo := 4 * i) (n := 4) (by omega)
        have h2 := HNum.out _ (c - 4 * i) _ _ wz (by rw [List.length_take]; omega) h1
        rw [show ((l.drop (4 * i)).take 4).length = 4 by rw [List.length_take]; omega] at h2
        exact h2
      have HUy := Lib.hid (HUx.out wr HA.out.bel)
      have HDl : Hid (i + 1 = (xs ++ [num ((l.drop (4 * i)).take 4)]).length) := by rw [Hid, List.length_append, HXi.out]; rfl
      clear hn hdl
      generalize num ((l.drop (4 * i)).take 4) = x at *
      generalize hm4 : 4 * i = m4 at *
      have d1 : decide ((m4 : Int) + 4 ≤ (l.length : Int)) = true := by rw [decide_eq_true_iff]; omega
      generalize off + m4 = o4 at *
      generalize c - m4 = c4 at *
      have HOa : Hid (foot.Own (wr.alloc (.cells #[.int .u32 (x : Int)] 26)) 26 1 Ao xs.length co (uv xs)) := HA.out.own.bel ((Below.refl _ _).alloc (Nat.le_refl _) _)
      have HRa := Lib.hid (Rg.new wr 26 1 1 #[.int .u32 (x : Int)] rfl)
      have HFin : Hid (∀ (w8 : World) (A8 : Option Addr) (c8 : Nat), foot.Own w8 26 1 A8 (xs.length + 1) c8 (uv xs ++ [.int .u32 (x : Int)]) → Chg (sf Ao) (wr.alloc (.cells #[.int .u32 (x : Int)] 26)) w8 → Fresh (wr.alloc (.cells #[.int .u32 (x : Int)] 26)) (sf Ao) (sf A8) → Acc w 26 1 w8 A8 (xs ++ [x]).length c8 (uv (xs ++ [x]))) := fun w8 A8 c8 h1 h2 h3 => by
        rw [List.length_append, uv_app]
        exact (HA.out.go ((Below.refl _ _).alloc (Nat.le_refl _) _)).app h1 h2 h3
      go_wp2_with (first
        | (go_at_call 29; refine HUy.out.mono ?_; rintro e w' ⟨rfl, rfl⟩)
        | (at_builtin; refine wpList_app _ rfl (.tmp 13) (.tmp 20) _ rfl 26 j0 _ 1 4 Tryz.underlying27 Hj.out Hy0.out Hy1.out Hy2.out rfl (by omega) Ao xs.length co (uv xs) rfl HOa.out _ (some ⟨wr.heap.size, 0, none⟩) 1 1 (by intro h; cases h) [.int .u32 (x : Int)] rfl HRa.out (by intro u hu; simp at hu; rw [hu]; rfl) (by unfold maxLen; omega) (by omega) ?_; intro A8 c8 w8 ho8 hc8 hf8; have H8 := Lib.hid (HFin.out w8 A8 c8 ho8 hc8 hf8); clear ho8 hc8 hf8))
      go_roundw
      case rel => exact ⟨i + 1, xs ++ [x], A8, c8, by omega, HDl.out.symm, by have : m4 + 4 = 4 * (i + 1) := by { omega }; go_num, by rw [List.length_append]; rfl, HNx.out, H8.out⟩
      case measure => simp [intOf]; omega
    · have HEn : Hid (xs = nums4 l) := by
        rw [Hid, HX.out, nums4_none (l.drop (4 * i)) (by rw [List.length_drop]; omega), List.append_nil]
      have HF := Lib.hid (HQ.out xs Ao co wr HEn.out HA.out)
      generalize hm4 : 4 * i = m4 at *
      have d1 : decide ((m4 : Int) + 4 ≤ (l.length : Int)) = false := by rw [decide_eq_false_iff_not]; omega
      go_wp2_with fail
      exact HF.out
end Go.Proofs.YtaeeeinpelfppaaGreat.attr
