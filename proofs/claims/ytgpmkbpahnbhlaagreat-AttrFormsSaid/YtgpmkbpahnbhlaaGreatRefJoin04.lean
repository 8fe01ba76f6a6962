/- What confluenceref04.put returns, and confluenceref04.Join without a set. Condition: at most 10^5 numbers. -/
import Derived.Test.YtgpmkbpahnbhlaaGreatRefAsn
import Derived.Test.YtgpmkbpahnbhlaaGreatAttrAll
namespace Go.Proofs.YtgpmkbpahnbhlaaGreat.attr
open Go.RowKit Go.Proofs.YtgpmkbpahnbhlaaGreat.kit Go.Proofs.YtgpmkbpahnbhlaaGreat.mem Go.Proofs.YtgpmkbpahnbhlaaGreat.foot Go.Proofs.YtgpmkbpahnbhlaaGreat.nums Go.Proofs.YtgpmkbpahnbhlaaGreat.asn Go.Proofs.YtgpmkbpahnbhlaaGreat.pth
set_option linter.unusedVariables false
set_option linter.unusedSimpArgs false
theorem wf_two : (Lit.int .i64 2).wf = true := by decide
/-- what the loop holds -/
abbrev LS (w wr : World) (A : Option Addr) (c : Nat) (l : List Sg) : Prop := ∃ vs, Lst 2 rSeg 55 (fun k => w.heap.size ≤ k) w wr A l.length c vs l
theorem putS_yes {p : List Sg} {s : Sg} (h : s.1 = 2) (h2 : s.2.length < 255) (n : Nat) : putS (p ++ [s]) n = p ++ [(2, s.2 ++ [n])] := by
  unfold putS
  rw [List.getLast?_concat]
  dsimp only
  rw [if_pos ⟨h, h2⟩, List.dropLast_concat]
theorem putS_no {p : List Sg} (h : ∀ s, p.getLast? = some s → ¬ (s.1 = 2 ∧ s.2.length < 255)) (n : Nat) : putS p n = p ++ [(2, [n])] := by
  unfold putS
  rcases hl : p.getLast? with _ | s
  · rfl
  · dsimp only
    rw [if_neg (h s hl)]
/-- the elements again, in a row that is begun -/
theorem all_again {w wr : World} {A : Option Addr} {m c k : Nat} {vs : List Value} {l : List Sg} (h : Lst 2 rSeg 55 (fun k => w.heap.size ≤ k) w wr A m c vs l) :
    rAll rSeg (wr.alloc (.cells #[] 55)) (fun j => w.heap.size ≤ j ∧ ¬ sf (some ⟨wr.heap.size, 0, none⟩) j) (vs.take (k * 2)) (l.take k) := by
  have h1 : rAll rSeg wr (fun j => w.heap.size ≤ j ∧ ¬ sf (some ⟨wr.heap.size, 0, none⟩) j) (vs.take (k * 2)) (l.take k) := (h.all.take keeps_seg k).mono keeps_seg fun j hj hG => ⟨hG.1, fun e => by rw [sf_some] at e; have : wr.heap.size = j := e; omega⟩
  exact h1.chg keeps_seg (F := fun _ => False) (Chg.of_below ((Below.refl _ _).alloc (Nat.le_refl _) _) _) (fun _ _ _ e => e)
set_option maxRecDepth 100000 in
set_option maxHeartbeats 4000000 in
theorem refPut04_yes (A : Option Addr) (c n : Nat) (p : List Sg) (s : Sg) (w wr : World) (hp : p.length ≤ 100000) (hn : n < 4294967296) (hs2 : s.1 = 2) (hs : s.2.length < 255) (vs : List Value)
    (h : Lst 2 rSeg 55 (fun k => w.heap.size ≤ k) w wr A (p.length + 1) c vs (p ++ [s])) :
    Calls Tryz.prog 39 #[.slice A (p.length + 1 : Nat) c, .int .u32 n] wr fun e w' => ∃ A' c', e = .returned (.slice A' (p.length + 1) c') ∧ ∃ vs', Lst 2 rSeg 55 (fun k => w.heap.size ≤ k) w w' A' (p.length + 1) c' vs' (p ++ [(2, s.2 ++ [n])]) := by
  obtain ⟨i0, hi, hz0, hz1, hz2⟩ := info_parts info_seg
  obtain ⟨j0, hj, hy0, hy1, hy2⟩ := info_parts info_u32
  have Hi := Lib.hid hi
  have Hz0 := Lib.hid hz0
  have Hz1 := Lib.hid hz1
  have Hz2 := Lib.hid hz2
  have Hj := Lib.hid hj
  have Hy0 := Lib.hid hy0
  have Hy1 := Lib.hid hy1
  have Hy2 := Lib.hid hy2
  have HL := Lib.hid h
  have hels := h.els keeps_seg
  obtain ⟨b, off, cs, rfl, _, hbl, hrr, hc⟩ := hels.at_ keeps_seg (k := p.length) (by simp)
  rw [List.getElem_concat_length rfl] at hrr
  obtain ⟨A2, c2, rfl, _, hA2, _, _, hu2, hw2⟩ := seg_at hrr
  have HA2 := Lib.hid hA2
  have HW2 := Lib.hid hw2
  have HU : Hid (∀ w', Below wr.heap.size wr w' → w'.cell? ⟨b, off + p.length * 2, none⟩ = some (.int .i64 2) ∧ w'.cell? ⟨b, off + p.length * 2 + 1, none⟩ = some (.slice A2 s.2.length c2)) := fun w' hb => ⟨by have := (hb.cell (p := ⟨b, off + p.length * 2 + 0, none⟩) hbl).trans (hc 0 _ rfl); rw [hs2] at this; exact this, (hb.cell (p := ⟨b, off + p.length * 2 + 1, none⟩) hbl).trans (hc 1 _ rfl)⟩
  have HUs : Hid (∀ w', Below wr.heap.size wr w' → Us w' (fun k => w.heap.size ≤ k ∨ w.heap.size ≤ k) A2 s.2) := fun w' hb => Rg.bel hu2 hb
  have hB0 : Below wr.heap.size wr (wr.alloc (.cells #[] 55)) := (Below.refl _ _).alloc (Nat.le_refl _) _
  have HL0 : Hid (Lst 2 rSeg 55 (fun k => w.heap.size ≤ k) w (wr.alloc (.cells #[] 55)) (some ⟨wr.heap.size, 0, none⟩) 0 0 [] []) := Lst.start (h.acc.bel.trans (hB0.mono h.acc.bel.size)) (Bk.new wr _ _) h.acc.bel.size
  have HAl := Lib.hid (all_again (k := p.length) h)
  rw [List.take_left] at HAl
  have HRt : Hid (Rg (wr.alloc (.cells #[] 55)) (sf (some ⟨b, off, none⟩)) 2 (some ⟨b, off, none⟩) p.length (vs.take (p.length * 2))) := (h.acc.own.rg.take (by omega)).bel hB0
  have HOnes : Hid (∀ u ∈ vs.take (p.length * 2), u.oneCell' = true) := fun u hu => rAll.one keeps_seg h.all u (List.mem_of_mem_take hu)
  obtain ⟨q0, q1⟩ := HU.out _ (Below.refl _ _)
  have hcp := h.acc.own.cap
  have hB00 := Lib.hid hB0
  clear hi hz0 hz1 hz2 hj hy0 hy1 hy2 h hels hbl hrr hc hA2 hu2 hw2 hB0 hs2
  obtain ⟨k1, ns⟩ := s
  dsimp only at *
  have hkk : ((p.length + 1 : Nat) : Int) - 1 = (p.length : Int) := by omega
  have d0 : (0 : Int) ≤ (p.length : Int) := by omega
  have d1 : decide ((ns.length : Int) < 255) = true := by rw [decide_eq_true_iff]; omega
  have hix : (p.length : Int) < ((p.length + 1 : Nat) : Int) := by omega
  have HFin : Hid (∀ (w1 w3 w4 : World) (A1 A4 A6 : Option Addr) (x1 x4 x6 : Nat), Lst 2 rSeg 55 (fun k => w.heap.size ≤ k) w w1 A1 p.length x1 (vs.take (p.length * 2)) p → Acc w1 23 1 w3 A4 (ns.length + 1) x4 (uv ns ++ [.int .u32 (n : Int)]) →
      foot.Own w4 55 2 A6 (p.length + 1) x6 (vs.take (p.length * 2) ++ [.int .i64 2, .slice A4 (ns.length + 1) x4]) → Chg (sf A1) (w3.alloc (.cells #[.int .i64 2, .slice A4 (ns.length + 1) x4] 55)) w4 → Fresh (w3.alloc (.cells #[.int .i64 2, .slice A4 (ns.length + 1) x4] 55)) (sf A1) (sf A6) →
      ∃ vs', Lst 2 rSeg 55 (fun k => w.heap.size ≤ k) w w4 A6 (p.length + 1) x6 vs' (p ++ [(2, ns ++ [n])])) := fun w1 w3 w4 A1 A4 A6 x1 x4 x6 h1 h2 h3 h4 h5 => by
    have e1 : uv ns ++ [.int .u32 (n : Int)] = uv (ns ++ [n]) := by rw [uv_app]; rfl
    have e2 : ns.length + 1 = (ns ++ [n]).length := by simp
    rw [e1, e2] at h2
    rw [e2] at h3 h4 h5
    exact ⟨_, seg_app wf_two h1 h2.own h2.low h2.bel (HW2.out.app (fun m hm => by simp at hm; omega)) h3 h4 h5⟩
  go_enter Tryz.func39, Tryz.ntmps39
  go_wp2_with (first
    | (at_builtin; refine wpList_app _ rfl (.tmp 29) (.tmp 32) _ rfl 55 i0 _ 2 32 Tryz.underlying22 Hi.out Hz0.out Hz1.out Hz2.out rfl (by omega) (some ⟨wr.heap.size, 0, none⟩) 0 0 [] rfl HL0.out.acc.own _ (some ⟨b, off, none⟩) p.length c (by intro h; cases h) (vs.take (p.length * 2)) rfl HRt.out HOnes.out (by unfold maxLen; omega) (by omega) ?_; intro A1 x1 w1 ho hc' hf; rw [Nat.zero_add p.length] at ho ⊢; have HL1 : Hid (Lst 2 rSeg 55 (fun k => w.heap.size ≤ k) w w1 A1 p.length x1 (vs.take (p.length * 2)) p) := (by have h := HL0.out.app keeps_seg HAl.out (k := p.length) rfl (by rw [Nat.zero_add]; exact ho) hc' hf; rw [Nat.zero_add] at h; exact h); have HB1 : Hid (Below wr.heap.size wr w1) := hB00.out.trans (hc'.below (fun k hk => by rw [sf_some] at hk; exact Nat.le_of_eq hk) hB00.out.size); have q0 := (HU.out _ (HB1.out.alloc HB1.out.size (.cells #[] 23))).1; have q1 := (HU.out _ (HB1.out.alloc HB1.out.size (.cells #[] 23))).2; have HN0 : Hid (Acc w1 23 1 (w1.alloc (.cells #[] 23)) (some ⟨w1.heap.size, 0, none⟩) 0 0 []) := Acc.start ((Below.refl _ _).alloc (Nat.le_refl _) _) (Bk.new w1 _ _) (Nat.le_refl _); have HUx := Lib.hid (HUs.out _ (HB1.out.alloc HB1.out.size (.cells #[] 23))); clear ho hc' hf)
    | (at_builtin; refine wpList_app _ rfl (.tmp 35) (.tmp 40) _ rfl 23 j0 _ 1 4 Tryz.underlying24 Hj.out Hy0.out Hy1.out Hy2.out rfl (by omega) (some ⟨w1.heap.size, 0, none⟩) 0 0 [] rfl HN0.out.own _ A2 ns.length c2 HA2.out (uv ns) rfl HUx.out (uv_one ns) (by unfold maxLen; omega) (by omega) ?_; intro A3 x3 w2 ho hc' hf; rw [Nat.zero_add ns.length] at ho ⊢; have HN2 : Hid (Acc w1 23 1 (w2.alloc (.cells #[.int .u32 (n : Int)] 23)) A3 ns.length x3 (uv ns)) := ((HN0.out.app ho hc' hf).go ((Below.refl _ _).alloc (Nat.le_refl _) _)); clear ho hc' hf)
    | (at_builtin; refine wpList_app _ rfl (.tmp 41) (.tmp 43) _ rfl 23 j0 _ 1 4 Tryz.underlying24 Hj.out Hy0.out Hy1.out Hy2.out rfl (by omega) A3 ns.length x3 (uv ns) rfl HN2.out.own _ (some ⟨w2.heap.size, 0, none⟩) 1 1 (by intro h; cases h) [.int .u32 (n : Int)] rfl (rg_one (Bk.new w2 _ _)) (by intro u hu; simp at hu; rw [hu]; rfl) (by unfold maxLen; omega) (by omega) ?_; intro A4 x4 w3 ho hc' hf; have HN3 := Lib.hid (HN2.out.app ho hc' hf); have HL3 : Hid (Lst 2 rSeg 55 (fun k => w.heap.size ≤ k) w (w3.alloc (.cells #[.int .i64 2, .slice A4 (ns.length + 1) x4] 55)) A1 p.length x1 (vs.take (p.length * 2)) p) := (HL1.out.go keeps_seg HN3.out.bel).go keeps_seg ((Below.refl _ _).alloc (Nat.le_refl _) _); clear ho hc' hf)
    | (at_builtin; refine wpList_app _ rfl (.tmp 34) (.tmp 46) _ rfl 55 i0 _ 2 32 Tryz.underlying22 Hi.out Hz0.out Hz1.out Hz2.out rfl (by omega) A1 p.length x1 (vs.take (p.length * 2)) rfl HL3.out.acc.own _ (some ⟨w3.heap.size, 0, none⟩) 1 1 (by intro h; cases h) [.int .i64 2, .slice A4 (ns.length + 1) x4] rfl (rg_two (Bk.new w3 _ _)) (by intro u hu; simp at hu; rcases hu with rfl | rfl <;> rfl) (by unfold maxLen; omega) (by omega) ?_; intro A6 x6 w4 ho hc' hf; have HE := Lib.hid (HFin.out _ _ _ _ _ _ _ _ _ HL1.out HN3.out ho hc' hf); clear ho hc' hf))
  go_ret
  exact ⟨A6, x6, rfl, HE.out⟩
theorem lst_whole {w wr : World} {A : Option Addr} {m c : Nat} {vs : List Value} {l : List Sg} (h : Lst 2 rSeg 55 (fun k => w.heap.size ≤ k) w wr A m c vs l) :
    rAll rSeg (wr.alloc (.cells #[] 55)) (fun j => w.heap.size ≤ j ∧ ¬ sf (some ⟨wr.heap.size, 0, none⟩) j) vs l := by
  have h1 := all_again (k := l.length) h
  rw [List.take_length, List.take_of_length_le (by rw [h.all.len keeps_seg]; exact Nat.le_refl _)] at h1
  exact h1
set_option maxRecDepth 100000 in
set_option maxHeartbeats 4000000 in
theorem refPut04_no (A : Option Addr) (c n : Nat) (l : List Sg) (w wr : World) (hl : l.length ≤ 100000) (hn : n < 4294967296) (hno : ∀ s, l.getLast? = some s → ¬ (s.1 = 2 ∧ s.2.length < 255)) (vs : List Value)
    (h : Lst 2 rSeg 55 (fun k => w.heap.size ≤ k) w wr A l.length c vs l) :
    Calls Tryz.prog 39 #[.slice A l.length c, .int .u32 n] wr fun e w' => ∃ A' c', e = .returned (.slice A' (l.length + 1) c') ∧ ∃ vs', Lst 2 rSeg 55 (fun k => w.heap.size ≤ k) w w' A' (l.length + 1) c' vs' (l ++ [(2, [n])]) := by
  obtain ⟨i0, hi, hz0, hz1, hz2⟩ := info_parts info_seg
  have Hi := Lib.hid hi
  have Hz0 := Lib.hid hz0
  have Hz1 := Lib.hid hz1
  have Hz2 := Lib.hid hz2
  have hB0 : Below wr.heap.size wr (wr.alloc (.cells #[] 55)) := (Below.refl _ _).alloc (Nat.le_refl _) _
  have HL0 : Hid (Lst 2 rSeg 55 (fun k => w.heap.size ≤ k) w (wr.alloc (.cells #[] 55)) (some ⟨wr.heap.size, 0, none⟩) 0 0 [] []) := Lst.start (h.acc.bel.trans (hB0.mono h.acc.bel.size)) (Bk.new wr _ _) h.acc.bel.size
  have HAl := Lib.hid (lst_whole h)
  have HRt : Hid (Rg (wr.alloc (.cells #[] 55)) (sf A) 2 A l.length vs) := h.acc.own.rg.bel hB0
  have HOnes : Hid (∀ u ∈ vs, u.oneCell' = true) := rAll.one keeps_seg h.all
  have HAn := Lib.hid h.acc.own.nil
  have HFin : Hid (∀ (w1 w4 : World) (A1 A6 : Option Addr) (x1 x6 : Nat), Lst 2 rSeg 55 (fun k => w.heap.size ≤ k) w w1 A1 l.length x1 vs l →
      foot.Own w4 55 2 A6 (l.length + 1) x6 (vs ++ [.int .i64 2, .slice (some ⟨w1.heap.size, 0, none⟩) 1 1]) → Chg (sf A1) ((w1.alloc (.cells #[.int .u32 (n : Int)] 23)).alloc (.cells #[.int .i64 2, .slice (some ⟨w1.heap.size, 0, none⟩) 1 1] 55)) w4 → Fresh ((w1.alloc (.cells #[.int .u32 (n : Int)] 23)).alloc (.cells #[.int .i64 2, .slice (some ⟨w1.heap.size, 0, none⟩) 1 1] 55)) (sf A1) (sf A6) →
      ∃ vs', Lst 2 rSeg 55 (fun k => w.heap.size ≤ k) w w4 A6 (l.length + 1) x6 vs' (l ++ [(2, [n])])) := fun w1 w4 A1 A6 x1 x6 h1 h3 h4 h5 =>
    ⟨_, seg_app (t := [n]) wf_two h1 (foot.Own.made w1 23 1 1 1 #[.int .u32 (n : Int)] _ (Nat.le_refl _) (by unfold maxLen; omega) rfl rfl rfl) (fun k hk => by rw [sf_some] at hk; exact Nat.le_of_eq hk) ((Below.refl _ _).alloc (Nat.le_refl _) _) (fun m hm => by simp at hm; omega) h3 h4 h5⟩
  have HGo : Hid (∀ (w1 : World) (A1 : Option Addr) (x1 : Nat), Lst 2 rSeg 55 (fun k => w.heap.size ≤ k) w w1 A1 l.length x1 vs l → Lst 2 rSeg 55 (fun k => w.heap.size ≤ k) w ((w1.alloc (.cells #[.int .u32 (n : Int)] 23)).alloc (.cells #[.int .i64 2, .slice (some ⟨w1.heap.size, 0, none⟩) 1 1] 55)) A1 l.length x1 vs l) := fun w1 A1 x1 h => (h.go keeps_seg ((Below.refl _ _).alloc (Nat.le_refl _) _)).go keeps_seg ((Below.refl _ _).alloc (Nat.le_refl _) _)
  have HRz : Hid (∀ w1 : World, Rg ((w1.alloc (.cells #[.int .u32 (n : Int)] 23)).alloc (.cells #[.int .i64 2, .slice (some ⟨w1.heap.size, 0, none⟩) 1 1] 55)) (fun k => k = w1.heap.size + 1) 2 (some ⟨w1.heap.size + 1, 0, none⟩) 1 [.int .i64 2, .slice (some ⟨w1.heap.size, 0, none⟩) 1 1]) := fun w1 => by
    have := Bk.new (w1.alloc (.cells #[.int .u32 (n : Int)] 23)) 55 #[.int .i64 2, .slice (some ⟨w1.heap.size, 0, none⟩) 1 1]
    rw [World.size_alloc] at this
    exact rg_two this
  have hcp := h.acc.own.cap
  have hels := h.els keeps_seg
  have hcs : l = [] ∨ ∃ p s, l = p ++ [s] := by
    rcases List.eq_nil_or_concat l with h | ⟨p, s, h⟩
    · exact .inl h
    · exact .inr ⟨p, s, by rw [h, List.concat_eq_append]⟩
  clear hi hz0 hz1 hz2 h
  rcases hcs with h0 | ⟨p, s, hps⟩
  case inl =>
    have hl0 : l.length = 0 := by rw [h0]; rfl
    have d0 : decide ((0 : Int) ≤ (l.length : Int) - 1) = false := by rw [decide_eq_false_iff_not]; omega
    have d00 : ¬ (1 : Int) ≤ (l.length : Int) := by omega
    clear hels h0 hno hl0 hB0
    generalize hLn : l.length = L at *
    go_enter Tryz.func39, Tryz.ntmps39
    go_upto_region 5 with fail
    go_wp2_with (first
      | (at_builtin; refine wpList_app _ rfl (.tmp 48) (.tmp 49) _ rfl 55 i0 _ 2 32 Tryz.underlying22 Hi.out Hz0.out Hz1.out Hz2.out rfl (by omega) (some ⟨wr.heap.size, 0, none⟩) 0 0 [] rfl HL0.out.acc.own _ _ L c HAn.out vs rfl HRt.out HOnes.out (by unfold maxLen; omega) (by omega) ?_; intro A1 x1 w1 ho hc' hf; rw [Nat.zero_add L] at ho ⊢; have HL1 : Hid (Lst 2 rSeg 55 (fun k => w.heap.size ≤ k) w w1 A1 L x1 vs l) := (by have h := HL0.out.app keeps_seg HAl.out (k := L) hLn (by rw [Nat.zero_add]; exact ho) hc' hf; rw [Nat.zero_add] at h; exact h); have HL2 := Lib.hid (HGo.out w1 A1 x1 HL1.out); have HRy := Lib.hid (HRz.out w1); clear ho hc' hf)
      | (at_builtin; refine wpList_app _ rfl (.tmp 50) (.tmp 54) _ rfl 55 i0 _ 2 32 Tryz.underlying22 Hi.out Hz0.out Hz1.out Hz2.out rfl (by omega) A1 L x1 vs rfl HL2.out.acc.own _ (some ⟨w1.heap.size + 1, 0, none⟩) 1 1 (by intro h; cases h) [.int .i64 2, .slice (some ⟨w1.heap.size, 0, none⟩) 1 1] rfl HRy.out (by intro u hu; simp at hu; rcases hu with rfl | rfl <;> rfl) (by unfold maxLen; omega) (by omega) ?_; intro A6 x6 w4 ho hc' hf; have HE := Lib.hid (HFin.out _ _ _ _ _ _ HL1.out ho hc' hf); clear ho hc' hf))
    go_ret
    exact ⟨A6, x6, rfl, HE.out⟩
  case inr =>
    have hno := hno s (by rw [hps, List.getLast?_concat])
    obtain ⟨b, off, cs, rfl, _, hbl, hrr, hc⟩ := hels.at_ keeps_seg (k := p.length) (by rw [hps]; simp)
    have hgs : l[p.length]'(by rw [hps]; simp) = s := by subst hps; exact List.getElem_concat_length rfl _
    rw [hgs] at hrr
    obtain ⟨A2, c2, rfl, _, _, _, _, _, _⟩ := seg_at hrr
    have q0 := hc 0 _ rfl
    have q1 := hc 1 _ rfl
    rw [Nat.add_zero] at q0
    have hlp : l.length = p.length + 1 := by rw [hps]; simp
    have hkk : (l.length : Int) - 1 = (p.length : Int) := by omega
    have d0 : (0 : Int) ≤ (p.length : Int) := by omega
    have hix : (p.length : Int) < (l.length : Int) := by omega
    obtain ⟨k1, ns⟩ := s
    dsimp only at *
    clear hps hels hc hrr hgs hlp hB0
    generalize ns.length = nn at *
    generalize p.length = np at *
    generalize hLn : l.length = L at *
    have hw : k1 ≠ 2 ∨ (k1 = 2 ∧ ¬ nn < 255) := by
      by_cases h : k1 = 2
      · exact .inr ⟨h, fun h2 => hno ⟨h, h2⟩⟩
      · exact .inl h
    clear hno
    rcases hw with h | ⟨rfl, h⟩
    · have d1 : (k1 == 2) = false := by rw [beq_eq_false_iff_ne]; exact h
      go_enter Tryz.func39, Tryz.ntmps39
      go_upto_region 5 with fail
      go_wp2_with (first
        | (at_builtin; refine wpList_app _ rfl (.tmp 48) (.tmp 49) _ rfl 55 i0 _ 2 32 Tryz.underlying22 Hi.out Hz0.out Hz1.out Hz2.out rfl (by omega) (some ⟨wr.heap.size, 0, none⟩) 0 0 [] rfl HL0.out.acc.own _ _ L c HAn.out vs rfl HRt.out HOnes.out (by unfold maxLen; omega) (by omega) ?_; intro A1 x1 w1 ho hc' hf; rw [Nat.zero_add L] at ho ⊢; have HL1 : Hid (Lst 2 rSeg 55 (fun k => w.heap.size ≤ k) w w1 A1 L x1 vs l) := (by have h := HL0.out.app keeps_seg HAl.out (k := L) hLn (by rw [Nat.zero_add]; exact ho) hc' hf; rw [Nat.zero_add] at h; exact h); have HL2 := Lib.hid (HGo.out w1 A1 x1 HL1.out); have HRy := Lib.hid (HRz.out w1); clear ho hc' hf)
        | (at_builtin; refine wpList_app _ rfl (.tmp 50) (.tmp 54) _ rfl 55 i0 _ 2 32 Tryz.underlying22 Hi.out Hz0.out Hz1.out Hz2.out rfl (by omega) A1 L x1 vs rfl HL2.out.acc.own _ (some ⟨w1.heap.size + 1, 0, none⟩) 1 1 (by intro h; cases h) [.int .i64 2, .slice (some ⟨w1.heap.size, 0, none⟩) 1 1] rfl HRy.out (by intro u hu; simp at hu; rcases hu with rfl | rfl <;> rfl) (by unfold maxLen; omega) (by omega) ?_; intro A6 x6 w4 ho hc' hf; have HE := Lib.hid (HFin.out _ _ _ _ _ _ HL1.out ho hc' hf); clear ho hc' hf))
      go_ret
      exact ⟨A6, x6, rfl, HE.out⟩
    · have d1 : decide ((nn : Int) < 255) = false := by rw [decide_eq_false_iff_not]; omega
      go_enter Tryz.func39, Tryz.ntmps39
      go_upto_region 5 with fail
      go_wp2_with (first
        | (at_builtin; refine wpList_app _ rfl (.tmp 48) (.tmp 49) _ rfl 55 i0 _ 2 32 Tryz.underlying22 Hi.out Hz0.out Hz1.out Hz2.out rfl (by omega) (some ⟨wr.heap.size, 0, none⟩) 0 0 [] rfl HL0.out.acc.own _ _ L c HAn.out vs rfl HRt.out HOnes.out (by unfold maxLen; omega) (by omega) ?_; intro A1 x1 w1 ho hc' hf; rw [Nat.zero_add L] at ho ⊢; have HL1 : Hid (Lst 2 rSeg 55 (fun k => w.heap.size ≤ k) w w1 A1 L x1 vs l) := (by have h := HL0.out.app keeps_seg HAl.out (k := L) hLn (by rw [Nat.zero_add]; exact ho) hc' hf; rw [Nat.zero_add] at h; exact h); have HL2 := Lib.hid (HGo.out w1 A1 x1 HL1.out); have HRy := Lib.hid (HRz.out w1); clear ho hc' hf)
        | (at_builtin; refine wpList_app _ rfl (.tmp 50) (.tmp 54) _ rfl 55 i0 _ 2 32 Tryz.underlying22 Hi.out Hz0.out Hz1.out Hz2.out rfl (by omega) A1 L x1 vs rfl HL2.out.acc.own _ (some ⟨w1.heap.size + 1, 0, none⟩) 1 1 (by intro h; cases h) [.int .i64 2, .slice (some ⟨w1.heap.size, 0, none⟩) 1 1] rfl HRy.out (by intro u hu; simp at hu; rcases hu with rfl | rfl <;> rfl) (by unfold maxLen; omega) (by omega) ?_; intro A6 x6 w4 ho hc' hf; have HE := Lib.hid (HFin.out _ _ _ _ _ _ HL1.out ho hc' hf); clear ho hc' hf))
      go_ret
      exact ⟨A6, x6, rfl, HE.out⟩
/-- a number put behind a path that is being made -/
theorem refPut04_any (A : Option Addr) (c n : Nat) (l : List Sg) (w wr : World) (hl : l.length ≤ 100000) (hn : n < 4294967296) (h : LS w wr A c l) :
    Calls Tryz.prog 39 #[.slice A l.length c, .int .u32 n] wr fun e w' => ∃ A' c', e = .returned (.slice A' (putS l n).length c') ∧ LS w w' A' c' (putS l n) := by
  obtain ⟨vs, h⟩ := h
  by_cases hy : ∃ p s, l = p ++ [s] ∧ s.1 = 2 ∧ s.2.length < 255
  · obtain ⟨p, s, rfl, h1, h2⟩ := hy
    have e0 : (p ++ [s]).length = p.length + 1 := by simp
    have e1 : (p ++ [(2, s.2 ++ [n])] : List Sg).length = p.length + 1 := by simp
    rw [putS_yes h1 h2, e0]
    rw [e0] at h hl
    refine (refPut04_yes A c n p s w wr (by omega) hn h1 h2 vs h).mono ?_
    rintro e w' ⟨A', c', rfl, hh⟩
    unfold LS
    rw [e1]
    exact ⟨A', c', rfl, hh⟩
  · have hno : ∀ s, l.getLast? = some s → ¬ (s.1 = 2 ∧ s.2.length < 255) := fun s hs ⟨h1, h2⟩ => by
      obtain ⟨p, hp⟩ := List.getLast?_eq_some_iff.1 hs
      exact hy ⟨p, s, hp, h1, h2⟩
    have e1 : (l ++ [(2, [n])] : List Sg).length = l.length + 1 := by simp
    rw [putS_no hno]
    refine (refPut04_no A c n l w wr hl hn hno vs h).mono ?_
    rintro e w' ⟨A', c', rfl, hh⟩
    unfold LS
    rw [e1]
    exact ⟨A', c', rfl, hh⟩
theorem putS_len (p : List Sg) (n : Nat) : (putS p n).length ≤ p.length + 1 := by
  unfold putS
  split
  · split
    · simp
    · simp
  · simp
theorem puts_len : ∀ (xs : List Nat) (p : List Sg), (xs.foldl putS p).length ≤ p.length + xs.length
  | [], p => by simp
  | x :: xs, p => by
    have h1 := puts_len xs (putS p x)
    have h2 := putS_len p x
    simp only [List.foldl_cons, List.length_cons]
    omega
end Go.Proofs.YtgpmkbpahnbhlaaGreat.attr
