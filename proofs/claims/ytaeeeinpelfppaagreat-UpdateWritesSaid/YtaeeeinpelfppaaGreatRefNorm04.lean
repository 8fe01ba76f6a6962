/- What confluenceref04.put returns, and confluenceref04.Join without a set. Condition: at most 10^5 numbers. What confluenceref04.Norm returns. Condition: at most 10^5 pieces and numbers together. -/
import Derived.Test.YtaeeeinpelfppaaGreatRefAsn
import Derived.Test.YtaeeeinpelfppaaGreatAttrAll
namespace Go.Proofs.YtaeeeinpelfppaaGreat.attr
open Go.RowKit Go.Proofs.YtaeeeinpelfppaaGreat.kit Go.Proofs.YtaeeeinpelfppaaGreat.mem Go.Proofs.YtaeeeinpelfppaaGreat.foot Go.Proofs.YtaeeeinpelfppaaGreat.nums Go.Proofs.YtaeeeinpelfppaaGreat.asn Go.Proofs.YtaeeeinpelfppaaGreat.pth
set_option linter.unusedVariables false
set_option linter.unusedSimpArgs false
theorem wf_two : (Lit.int .i64 2).wf = true := by decide
/-- what the loop holds -/
abbrev LS (w wr : World) (A : Option Addr) (c : Nat) (l : List Sg) : Prop := ∃ vs, Lst 2 rSeg 128 (fun k => w.heap.size ≤ k) w wr A l.length c vs l
theorem putS_yes {p : List Sg} {s : Sg} (h : s.1 = 2) (h2 : s.2.length < 255) (n : Nat) : putS (p ++ [s]) n = p ++ [(2, s.2 ++ [n])] := by
  unfold putS
  rw [List.getLast?_concat]
  dsimp only
  rw [if_pos ⟨h, h2⟩, List.dropLast_concat]
theorem putS_no {p : List Sg} (h : ∀ s, p.getLast? = some s → ¬ (s.1 = 2 ∧ s.2.length < 255)) (n : Nat) : putS p n = p ++ [(2, [n])] := by
  unfold putS
  rcases hl : p.getLast? with _ | s
  · rfl
  · dsimp only
    rw [if_neg (h s hl)]
/-- the elements again, in a row that is begun -/
theorem all_again {w wr : World} {A : Option Addr} {m c k : Nat} {vs : List Value} {l : List Sg} (h : Lst 2 rSeg 128 (fun k => w.heap.size ≤ k) w wr A m c vs l) :
    rAll rSeg (wr.alloc (.cells #[] 128)) (fun j => w.heap.size ≤ j ∧ ¬ sf (some ⟨wr.heap.size, 0, none⟩) j) (vs.take (k * 2)) (l.take k) := by
  have h1 : rAll rSeg wr (fun j => w.heap.size ≤ j ∧ ¬ sf (some ⟨wr.heap.size, 0, none⟩) j) (vs.take (k * 2)) (l.take k) := (h.all.take keeps_seg k).mono keeps_seg fun j hj hG => ⟨hG.1, fun e => by rw [sf_some] at e; have : wr.heap.size = j := e; omega⟩
  exact h1.chg keeps_seg (F := fun _ => False) (Chg.of_below ((Below.refl _ _).alloc (Nat.le_refl _) _) _) (fun _ _ _ e => e)
set_option maxRecDepth 100000 in
set_option maxHeartbeats 4000000 in
theorem refPut04_yes (A : Option Addr) (c n : Nat) (p : List Sg) (s : Sg) (w wr : World) (hp : p.length ≤ 100000) (hn : n < 4294967296) (hs2 : s.1 = 2) (hs : s.2.length < 255) (vs : List Value)
    (h : Lst 2 rSeg 128 (fun k => w.heap.size ≤ k) w wr A (p.length + 1) c vs (p ++ [s])) :
    Calls Tryz.prog 121 #[.slice A (p.length + 1 : Nat) c, .int .u32 n] wr fun e w' => ∃ A' c', e = .returned (.slice A' (p.length + 1) c') ∧ ∃ vs', Lst 2 rSeg 128 (fun k => w.heap.size ≤ k) w w' A' (p.length + 1) c' vs' (p ++ [(2, s.2 ++ [n])]) := by
  obtain ⟨i0, hi, hz0, hz1, hz2⟩ := info_parts info_seg
  obtain ⟨j0, hj, hy0, hy1, hy2⟩ := info_parts info_u32
  have Hi := Lib.hid hi
  have Hz0 := Lib.hid hz0
  have Hz1 := Lib.hid hz1
  have Hz2 := Lib.hid hz2
  have Hj := Lib.hid hj
  have Hy0 := Lib.hid hy0
  have Hy1 := Lib.hid hy1
  have Hy2 := Lib.hid hy2
  have HL := Lib.hid h
  have hels := h.els keeps_seg
  obtain ⟨b, off, cs, rfl, _, hbl, hrr, hc⟩ := hels.at_ keeps_seg (k := p.length) (by simp)
  rw [List.getElem_concat_length rfl] at hrr
  obtain ⟨A2, c2, rfl, _, hA2, _, _, hu2, hw2⟩ := seg_at hrr
  have HA2 := Lib.hid hA2
  have HW2 := Lib.hid hw2
  have HU : Hid (∀ w', Below wr.heap.size wr w' → w'.cell? ⟨b, off + p.length * 2, none⟩ = some (.int .i64 2) ∧ w'.cell? ⟨b, off + p.length * 2 + 1, none⟩ = some (.slice A2 s.2.length c2)) := fun w' hb => ⟨by have := (hb.cell (p := ⟨b, off + p.length * 2 + 0, none⟩) hbl).trans (hc 0 _ rfl); rw [hs2] at this; exact this, (hb.cell (p := ⟨b, off + p.length * 2 + 1, none⟩) hbl).trans (hc 1 _ rfl)⟩
  have HUs : Hid (∀ w', Below wr.heap.size wr w' → Us w' (fun k => w.heap.size ≤ k ∨ w.heap.size ≤ k) A2 s.2) := fun w' hb => Rg.bel hu2 hb
  have hB0 : Below wr.heap.size wr (wr.alloc (.cells #[] 128)) := (Below.refl _ _).alloc (Nat.le_refl _) _
  have HL0 : Hid (Lst 2 rSeg 128 (fun k => w.heap.size ≤ k) w (wr.alloc (.cells #[] 128)) (some ⟨wr.heap.size, 0, none⟩) 0 0 [] []) := Lst.start (h.acc.bel.trans (hB0.mono h.acc.bel.size)) (Bk.new wr _ _) h.acc.bel.size
  have HAl := Lib.hid (all_again (k := p.length) h)
  rw [List.take_left] at HAl
  have HRt : Hid (Rg (wr.alloc (.cells #[] 128)) (sf (some ⟨b, off, none⟩)) 2 (some ⟨b, off, none⟩) p.length (vs.take (p.length * 2))) := (h.acc.own.rg.take (by omega)).bel hB0
  have HOnes : Hid (∀ u ∈ vs.take (p.length * 2), u.oneCell' = true) := fun u hu => rAll.one keeps_seg h.all u (List.mem_of_mem_take hu)
  obtain ⟨q0, q1⟩ := HU.out _ (Below.refl _ _)
  have hcp := h.acc.own.cap
  have hB00 := Lib.hid hB0
  clear hi hz0 hz1 hz2 hj hy0 hy1 hy2 h hels hbl hrr hc hA2 hu2 hw2 hB0 hs2
  obtain ⟨k1, ns⟩ := s
  dsimp only at *
  have hkk : ((p.length + 1 : Nat) : Int) - 1 = (p.length : Int) := by omega
  have d0 : (0 : Int) ≤ (p.length : Int) := by omega
  have d1 : decide ((ns.length : Int) < 255) = true := by rw [decide_eq_true_iff]; omega
  have hix : (p.length : Int) < ((p.length + 1 : Nat) : Int) := by omega
  have HFin : Hid (∀ (w1 w3 w4 : World) (A1 A4 A6 : Option Addr) (x1 x4 x6 : Nat), Lst 2 rSeg 128 (fun k => w.heap.size ≤ k) w w1 A1 p.length x1 (vs.take (p.length * 2)) p → Acc w1 26 1 w3 A4 (ns.length + 1) x4 (uv ns ++ [.int .u32 (n : Int)]) →
      foot.Own w4 128 2 A6 (p.length + 1) x6 (vs.take (p.length * 2) ++ [.int .i64 2, .slice A4 (ns.length + 1) x4]) → Chg (sf A1) (w3.alloc (.cells #[.int .i64 2, .slice A4 (ns.length + 1) x4] 128)) w4 → Fresh (w3.alloc (.cells #[.int .i64 2, .slice A4 (ns.length + 1) x4] 128)) (sf A1) (sf A6) →
      ∃ vs', Lst 2 rSeg 128 (fun k => w.heap.size ≤ k) w w4 A6 (p.length + 1) x6 vs' (p ++ [(2, ns ++ [n])])) := fun w1 w3 w4 A1 A4 A6 x1 x4 x6 h1 h2 h3 h4 h5 => by
    have e1 : uv ns ++ [.int .u32 (n : Int)] = uv (ns ++ [n]) := by rw [uv_app]; rfl
    have e2 : ns.length + 1 = (ns ++ [n]).length := by simp
    rw [e1, e2] at h2
    rw [e2] at h3 h4 h5
    exact ⟨_, seg_app wf_two h1 h2.own h2.low h2.bel (HW2.out.app (fun m hm => by simp at hm; omega)) h3 h4 h5⟩
  go_enter Tryz.func121, Tryz.ntmps121
  go_wp2_with (first
    | (at_builtin; refine wpList_app _ rfl (.tmp 29) (.tmp 32) _ rfl 128 i0 _ 2 32 Tryz.underlying25 Hi.out Hz0.out Hz1.out Hz2.out rfl (by omega) (some ⟨wr.heap.size, 0, none⟩) 0 0 [] rfl HL0.out.acc.own _ (some ⟨b, off, none⟩) p.length c (by intro h; cases h) (vs.take (p.length * 2)) rfl HRt.out HOnes.out (by unfold maxLen; omega) (by omega) ?_; intro A1 x1 w1 ho hc' hf; rw [Nat.zero_add p.length] at ho ⊢; have HL1 : Hid (Lst 2 rSeg 128 (fun k => w.heap.size ≤ k) w w1 A1 p.length x1 (vs.take (p.length * 2)) p) := (by have h := HL0.out.app keeps_seg HAl.out (k := p.length) rfl (by rw [Nat.zero_add]; exact ho) hc' hf; rw [Nat.zero_add] at h; exact h); have HB1 : Hid (Below wr.heap.size wr w1) := hB00.out.trans (hc'.below (fun k hk => by rw [sf_some] at hk; exact Nat.le_of_eq hk) hB00.out.size); have q0 := (HU.out _ (HB1.out.alloc HB1.out.size (.cells #[] 26))).1; have q1 := (HU.out _ (HB1.out.alloc HB1.out.size (.cells #[] 26))).2; have HN0 : Hid (Acc w1 26 1 (w1.alloc (.cells #[] 26)) (some ⟨w1.heap.size, 0, none⟩) 0 0 []) := Acc.start ((Below.refl _ _).alloc (Nat.le_refl _) _) (Bk.new w1 _ _) (Nat.le_refl _); have HUx := Lib.hid (HUs.out _ (HB1.out.alloc HB1.out.size (.cells #[] 26))); clear ho hc' hf)
    | (at_builtin; refine wpList_app _ rfl (.tmp 35) (.tmp 40) _ rfl 26 j0 _ 1 4 Tryz.underlying27 Hj.out Hy0.out Hy1.out Hy2.out rfl (by omega) (some ⟨w1.heap.size, 0, none⟩) 0 0 [] rfl HN0.out.own _ A2 ns.length c2 HA2.out (uv ns) rfl HUx.out (uv_one ns) (by unfold maxLen; omega) (by omega) ?_; intro A3 x3 w2 ho hc' hf; rw [Nat.zero_add ns.length] at ho ⊢; have HN2 : Hid (Acc w1 26 1 (w2.alloc (.cells #[.int .u32 (n : Int)] 26)) A3 ns.length x3 (uv ns)) := ((HN0.out.app ho hc' hf).go ((Below.refl _ _).alloc (Nat.le_refl _) _)); clear ho hc' hf)
    | (at_builtin; refine wpList_app _ rfl (.tmp 41) (.tmp 43) _ rfl 26 j0 _ 1 4 Tryz.underlying27 Hj.out Hy0.out Hy1.out Hy2.out rfl (by omega) A3 ns.length x3 (uv ns) rfl HN2.out.own _ (some ⟨w2.heap.size, 0, none⟩) 1 1 (by intro h; cases h) [.int .u32 (n : Int)] rfl (rg_one (Bk.new w2 _ _)) (by intro u hu; simp at hu; rw [hu]; rfl) (by unfold maxLen; omega) (by omega) ?_; intro A4 x4 w3 ho hc' hf; have HN3 := Lib.hid (HN2.out.app ho hc' hf); have HL3 : Hid (Lst 2 rSeg 128 (fun k => w.heap.size ≤ k) w (w3.alloc (.cells #[.int .i64 2, .slice A4 (ns.length + 1) x4] 128)) A1 p.length x1 (vs.take (p.length * 2)) p) := (HL1.out.go keeps_seg HN3.out.bel).go keeps_seg ((Below.refl _ _).alloc (Nat.le_refl _) _); clear ho hc' hf)
    | (at_builtin; refine wpList_app _ rfl (.tmp 34) (.tmp 46) _ rfl 128 i0 _ 2 32 Tryz.underlying25 Hi.out Hz0.out Hz1.out Hz2.out rfl (by omega) A1 p.length x1 (vs.take (p.length * 2)) rfl HL3.out.acc.own _ (some ⟨w3.heap.size, 0, none⟩) 1 1 (by intro h; cases h) [.int .i64 2, .slice A4 (ns.length + 1) x4] rfl (rg_two (Bk.new w3 _ _)) (by intro u hu; simp at hu; rcases hu with rfl | rfl <;> rfl) (by unfold maxLen; omega) (by omega) ?_; intro A6 x6 w4 ho hc' hf; have HE := Lib.hid (HFin.out _ _ _ _ _ _ _ _ _ HL1.out HN3.out ho hc' hf); clear ho hc' hf))
  go_ret
  exact ⟨A6, x6, rfl, HE.out⟩
theorem lst_whole {w wr : World} {A : Option Addr} {m c : Nat} {vs : List Value} {l : List Sg} (h : Lst 2 rSeg 128 (fun k => w.heap.size ≤ k) w wr A m c vs l) :
    rAll rSeg (wr.alloc (.cells #[] 128)) (fun j => w.heap.size ≤ j ∧ ¬ sf (some ⟨wr.heap.size, 0, none⟩) j) vs l := by
  have h1 := all_again (k := l.length) h
  rw [List.take_length, List.take_of_length_le (by rw [h.all.len keeps_seg]; exact Nat.le_refl _)] at h1
  exact h1
set_option maxRecDepth 100000 in
set_option maxHeartbeats 4000000 in
theorem refPut04_no (A : Option Addr) (c n : Nat) (l : List Sg) (w wr : World) (hl : l.length ≤ 100000) (hn : n < 4294967296) (hno : ∀ s, l.getLast? = some s → ¬ (s.1 = 2 ∧ s.2.length < 255)) (vs : List Value)
    (h : Lst 2 rSeg 128 (fun k => w.heap.size ≤ k) w wr A l.length c vs l) :
    Calls Tryz.prog 121 #[.slice A l.length c, .int .u32 n] wr fun e w' => ∃ A' c', e = .returned (.slice A' (l.length + 1) c') ∧ ∃ vs', Lst 2 rSeg 128 (fun k => w.heap.size ≤ k) w w' A' (l.length + 1) c' vs' (l ++ [(2, [n])]) := by
  obtain ⟨i0, hi, hz0, hz1, hz2⟩ := info_parts info_seg
  have Hi := Lib.hid hi
  have Hz0 := Lib.hid hz0
  have Hz1 := Lib.hid hz1
  have Hz2 := Lib.hid hz2
  have hB0 : Below wr.heap.size wr (wr.alloc (.cells #[] 128)) := (Below.refl _ _).alloc (Nat.le_refl _) _
  have HL0 : Hid (Lst 2 rSeg 128 (fun k => w.heap.size ≤ k) w (wr.alloc (.cells #[] 128)) (some ⟨wr.heap.size, 0, none⟩) 0 0 [] []) := Lst.start (h.acc.bel.trans (hB0.mono h.acc.bel.size)) (Bk.new wr _ _) h.acc.bel.size
  have HAl := Lib.hid (lst_whole h)
  have HRt : Hid (Rg (wr.alloc (.cells #[] 128)) (sf A) 2 A l.length vs) := h.acc.own.rg.bel hB0
  have HOnes : Hid (∀ u ∈ vs, u.oneCell' = true) := rAll.one keeps_seg h.all
  have HAn := Lib.hid h.acc.own.nil
  have HFin : Hid (∀ (w1 w4 : World) (A1 A6 : Option Addr) (x1 x6 : Nat), Lst 2 rSeg 128 (fun k => w.heap.size ≤ k) w w1 A1 l.length x1 vs l →
      foot.Own w4 128 2 A6 (l.length + 1) x6 (vs ++ [.int .i64 2, .slice (some ⟨w1.heap.size, 0, none⟩) 1 1]) → Chg (sf A1) ((w1.alloc (.cells #[.int .u32 (n : Int)] 26)).alloc (.cells #[.int .i64 2, .slice (some ⟨w1.heap.size, 0, none⟩) 1 1] 128)) w4 → Fresh ((w1.alloc (.cells #[.int .u32 (n : Int)] 26)).alloc (.cells #[.int .i64 2, .slice (some ⟨w1.heap.size, 0, none⟩) 1 1] 128)) (sf A1) (sf A6) →
      ∃ vs', Lst 2 rSeg 128 (fun k => w.heap.size ≤ k) w w4 A6 (l.length + 1) x6 vs' (l ++ [(2, [n])])) := fun w1 w4 A1 A6 x1 x6 h1 h3 h4 h5 =>
    ⟨_, seg_app (t := [n]) wf_two h1 (foot.Own.made w1 26 1 1 1 #[.int .u32 (n : Int)] _ (Nat.le_refl _) (by unfold maxLen; omega) rfl rfl rfl) (fun k hk => by rw [sf_some] at hk; exact Nat.le_of_eq hk) ((Below.refl _ _).alloc (Nat.le_refl _) _) (fun m hm => by simp at hm; omega) h3 h4 h5⟩
  have HGo : Hid (∀ (w1 : World) (A1 : Option Addr) (x1 : Nat), Lst 2 rSeg 128 (fun k => w.heap.size ≤ k) w w1 A1 l.length x1 vs l → Lst 2 rSeg 128 (fun k => w.heap.size ≤ k) w ((w1.alloc (.cells #[.int .u32 (n : Int)] 26)).alloc (.cells #[.int .i64 2, .slice (some ⟨w1.heap.size, 0, none⟩) 1 1] 128)) A1 l.length x1 vs l) := fun w1 A1 x1 h => (h.go keeps_seg ((Below.refl _ _).alloc (Nat.le_refl _) _)).go keeps_seg ((Below.refl _ _).alloc (Nat.le_refl _) _)
  have HRz : Hid (∀ w1 : World, Rg ((w1.alloc (.cells #[.int .u32 (n : Int)] 26)).alloc (.cells #[.int .i64 2, .slice (some ⟨w1.heap.size, 0, none⟩) 1 1] 128)) (fun k => k = w1.heap.size + 1) 2 (some ⟨w1.heap.size + 1, 0, none⟩) 1 [.int .i64 2, .slice (some ⟨w1.heap.size, 0, none⟩) 1 1]) := fun w1 => by
    have := Bk.new (w1.alloc (.cells #[.int .u32 (n : Int)] 26)) 128 #[.int .i64 2, .slice (some ⟨w1.heap.size, 0, none⟩) 1 1]
    rw [World.size_alloc] at this
    exact rg_two this
  have hcp := h.acc.own.cap
  have hels := h.els keeps_seg
  have hcs : l = [] ∨ ∃ p s, l = p ++ [s] := by
    rcases List.eq_nil_or_concat l with h | ⟨p, s, h⟩
    · exact .inl h
    · exact .inr ⟨p, s, by rw [h, List.concat_eq_append]⟩
  clear hi hz0 hz1 hz2 h
  rcases hcs with h0 | ⟨p, s, hps⟩
  case inl =>
    have hl0 : l.length = 0 := by rw [h0]; rfl
    have d0 : decide ((0 : Int) ≤ (l.length : Int) - 1) = false := by rw [decide_eq_false_iff_not]; omega
    have d00 : ¬ (1 : Int) ≤ (l.length : Int) := by omega
    clear hels h0 hno hl0 hB0
    generalize hLn : l.length = L at *
    go_enter Tryz.func121, Tryz.ntmps121
    go_upto_region 5 with fail
    go_wp2_with (first
      | (at_builtin; refine wpList_app _ rfl (.tmp 48) (.tmp 49) _ rfl 128 i0 _ 2 32 Tryz.underlying25 Hi.out Hz0.out Hz1.out Hz2.out rfl (by omega) (some ⟨wr.heap.size, 0, none⟩) 0 0 [] rfl HL0.out.acc.own _ _ L c HAn.out vs rfl HRt.out HOnes.out (by unfold maxLen; omega) (by omega) ?_; intro A1 x1 w1 ho hc' hf; rw [Nat.zero_add L] at ho ⊢; have HL1 : Hid (Lst 2 rSeg 128 (fun k => w.heap.size ≤ k) w w1 A1 L x1 vs l) := (by have h := HL0.out.app keeps_seg HAl.out (k := L) hLn (by rw [Nat.zero_add]; exact ho) hc' hf; rw [Nat.zero_add] at h; exact h); have HL2 := Lib.hid (HGo.out w1 A1 x1 HL1.out); have HRy := Lib.hid (HRz.out w1); clear ho hc' hf)
      | (at_builtin; refine wpList_app _ rfl (.tmp 50) (.tmp 54) _ rfl 128 i0 _ 2 32 Tryz.underlying25 Hi.out Hz0.out Hz1.out Hz2.out rfl (by omega) A1 L x1 vs rfl HL2.out.acc.own _ (some ⟨w1.heap.size + 1, 0, none⟩) 1 1 (by intro h; cases h) [.int .i64 2, .slice (some ⟨w1.heap.size, 0, none⟩) 1 1] rfl HRy.out (by intro u hu; simp at hu; rcases hu with rfl | rfl <;> rfl) (by unfold maxLen; omega) (by omega) ?_; intro A6 x6 w4 ho hc' hf; have HE := Lib.hid (HFin.out _ _ _ _ _ _ HL1.out ho hc' hf); clear ho hc' hf))
    go_ret
    exact ⟨A6, x6, rfl, HE.out⟩
  case inr =>
    have hno := hno s (by rw [hps, List.getLast?_concat])
    obtain ⟨b, off, cs, rfl, _, hbl, hrr, hc⟩ := hels.at_ keeps_seg (k := p.length) (by rw [hps]; simp)
    have hgs : l[p.length]'(by rw [hps]; simp) = s := by subst hps; exact List.getElem_concat_length rfl _
    rw [hgs] at hrr
    obtain ⟨A2, c2, rfl, _, _, _, _, _, _⟩ := seg_at hrr
    have q0 := hc 0 _ rfl
    have q1 := hc 1 _ rfl
    rw [Nat.add_zero] at q0
    have hlp : l.length = p.length + 1 := by rw [hps]; simp
    have hkk : (l.length : Int) - 1 = (p.length : Int) := by omega
    have d0 : (0 : Int) ≤ (p.length : Int) := by omega
    have hix : (p.length : Int) < (l.length : Int) := by omega
    obtain ⟨k1, ns⟩ := s
    dsimp only at *
    clear hps hels hc hrr hgs hlp hB0
    generalize ns.length = nn at *
    generalize p.length = np at *
    generalize hLn : l.length = L at *
    have hw : k1 ≠ 2 ∨ (k1 = 2 ∧ ¬ nn < 255) := by
      by_cases h : k1 = 2
      · exact .inr ⟨h, fun h2 => hno ⟨h, h2⟩⟩
      · exact .inl h
    clear hno
    rcases hw with h | ⟨rfl, h⟩
    · have d1 : (k1 == 2) = false := by rw [beq_eq_false_iff_ne]; exact h
      go_enter Tryz.func121, Tryz.ntmps121
      go_upto_region 5 with fail
      go_wp2_with (first
        | (at_builtin; refine wpList_app _ rfl (.tmp 48) (.tmp 49) _ rfl 128 i0 _ 2 32 Tryz.underlying25 Hi.out Hz0.out Hz1.out Hz2.out rfl (by omega) (some ⟨wr.heap.size, 0, none⟩) 0 0 [] rfl HL0.out.acc.own _ _ L c HAn.out vs rfl HRt.out HOnes.out (by unfold maxLen; omega) (by omega) ?_; intro A1 x1 w1 ho hc' hf; rw [Nat.zero_add L] at ho ⊢; have HL1 : Hid (Lst 2 rSeg 128 (fun k => w.heap.size ≤ k) w w1 A1 L x1 vs l) := (by have h := HL0.out.app keeps_seg HAl.out (k := L) hLn (by rw [Nat.zero_add]; exact ho) hc' hf; rw [Nat.zero_add] at h; exact h); have HL2 := Lib.hid (HGo.out w1 A1 x1 HL1.out); have HRy := Lib.hid (HRz.out w1); clear ho hc' hf)
        | (at_builtin; refine wpList_app _ rfl (.tmp 50) (.tmp 54) _ rfl 128 i0 _ 2 32 Tryz.underlying25 Hi.out Hz0.out Hz1.out Hz2.out rfl (by omega) A1 L x1 vs rfl HL2.out.acc.own _ (some ⟨w1.heap.size + 1, 0, none⟩) 1 1 (by intro h; cases h) [.int .i64 2, .slice (some ⟨w1.heap.size, 0, none⟩) 1 1] rfl HRy.out (by intro u hu; simp at hu; rcases hu with rfl | rfl <;> rfl) (by unfold maxLen; omega) (by omega) ?_; intro A6 x6 w4 ho hc' hf; have HE := Lib.hid (HFin.out _ _ _ _ _ _ HL1.out ho hc' hf); clear ho hc' hf))
      go_ret
      exact ⟨A6, x6, rfl, HE.out⟩
    · have d1 : decide ((nn : Int) < 255) = false := by rw [decide_eq_false_iff_not]; omega
      go_enter Tryz.func121, Tryz.ntmps121
      go_upto_region 5 with fail
      go_wp2_with (first
        | (at_builtin; refine wpList_app _ rfl (.tmp 48) (.tmp 49) _ rfl 128 i0 _ 2 32 Tryz.underlying25 Hi.out Hz0.out Hz1.out Hz2.out rfl (by omega) (some ⟨wr.heap.size, 0, none⟩) 0 0 [] rfl HL0.out.acc.own _ _ L c HAn.out vs rfl HRt.out HOnes.out (by unfold maxLen; omega) (by omega) ?_; intro A1 x1 w1 ho hc' hf; rw [Nat.zero_add L] at ho ⊢; have HL1 : Hid (Lst 2 rSeg 128 (fun k => w.heap.size ≤ k) w w1 A1 L x1 vs l) := (by have h := HL0.out.app keeps_seg HAl.out (k := L) hLn (by rw [Nat.zero_add]; exact ho) hc' hf; rw [Nat.zero_add] at h; exact h); have HL2 := Lib.hid (HGo.out w1 A1 x1 HL1.out); have HRy := Lib.hid (HRz.out w1); clear ho hc' hf)
        | (at_builtin; refine wpList_app _ rfl (.tmp 50) (.tmp 54) _ rfl 128 i0 _ 2 32 Tryz.underlying25 Hi.out Hz0.out Hz1.out Hz2.out rfl (by omega) A1 L x1 vs rfl HL2.out.acc.own _ (some ⟨w1.heap.size + 1, 0, none⟩) 1 1 (by intro h; cases h) [.int .i64 2, .slice (some ⟨w1.heap.size, 0, none⟩) 1 1] rfl HRy.out (by intro u hu; simp at hu; rcases hu with rfl | rfl <;> rfl) (by unfold maxLen; omega) (by omega) ?_; intro A6 x6 w4 ho hc' hf; have HE := Lib.hid (HFin.out _ _ _ _ _ _ HL1.out ho hc' hf); clear ho hc' hf))
      go_ret
      exact ⟨A6, x6, rfl, HE.out⟩
/-- a number put behind a path that is being made -/
theorem refPut04_any (A : Option Addr) (c n : Nat) (l : List Sg) (w wr : World) (hl : l.length ≤ 100000) (hn : n < 4294967296) (h : LS w wr A c l) :
    Calls Tryz.prog 121 #[.slice A l.length c, .int .u32 n] wr fun e w' => ∃ A' c', e = .returned (.slice A' (putS l n).length c') ∧ LS w w' A' c' (putS l n) := by
  obtain ⟨vs, h⟩ := h
  by_cases hy : ∃ p s, l = p ++ [s] ∧ s.1 = 2 ∧ s.2.length < 255
  · obtain ⟨p, s, rfl, h1, h2⟩ := hy
    have e0 : (p ++ [s]).length = p.length + 1 := by simp
    have e1 : (p ++ [(2, s.2 ++ [n])] : List Sg).length = p.length + 1 := by simp
    rw [putS_yes h1 h2, e0]
    rw [e0] at h hl
    refine (refPut04_yes A c n p s w wr (by omega) hn h1 h2 vs h).mono ?_
    rintro e w' ⟨A', c', rfl, hh⟩
    unfold LS
    rw [e1]
    exact ⟨A', c', rfl, hh⟩
  · have hno : ∀ s, l.getLast? = some s → ¬ (s.1 = 2 ∧ s.2.length < 255) := fun s hs ⟨h1, h2⟩ => by
      obtain ⟨p, hp⟩ := List.getLast?_eq_some_iff.1 hs
      exact hy ⟨p, s, hp, h1, h2⟩
    have e1 : (l ++ [(2, [n])] : List Sg).length = l.length + 1 := by simp
    rw [putS_no hno]
    refine (refPut04_no A c n l w wr hl hn hno vs h).mono ?_
    rintro e w' ⟨A', c', rfl, hh⟩
    unfold LS
    rw [e1]
    exact ⟨A', c', rfl, hh⟩
theorem putS_len (p : List Sg) (n : Nat) : (putS p n).length ≤ p.length + 1 := by
  unfold putS
  split
  · split
    · simp
    · simp
  · simp
theorem puts_len : ∀ (xs : List Nat) (p : List Sg), (xs.foldl putS p).length ≤ p.length + xs.length
  | [], p => by simp
  | x :: xs, p => by
    have h1 := puts_len xs (putS p x)
    have h2 := putS_len p x
    simp only [List.foldl_cons, List.length_cons]
    omega
end Go.Proofs.YtaeeeinpelfppaaGreat.attr

namespace Go.Proofs.YtaeeeinpelfppaaGreat.attr
open Go.RowKit Go.Proofs.YtaeeeinpelfppaaGreat.kit Go.Proofs.YtaeeeinpelfppaaGreat.mem Go.Proofs.YtaeeeinpelfppaaGreat.foot Go.Proofs.YtaeeeinpelfppaaGreat.nums Go.Proofs.YtaeeeinpelfppaaGreat.asn Go.Proofs.YtaeeeinpelfppaaGreat.pth
set_option linter.unusedVariables false
set_option linter.unusedSimpArgs false
def rstep (out : List Sg) (s : Sg) : List Sg := if s.1 = 2 then s.2.foldl putS out else if s.1 = 1 ∧ 0 < s.2.length then out ++ [(1, setN s.2)] else out
def rnorm (l : List Sg) : List Sg := l.foldl rstep []
/-- does not end with a sequence -/
def NoSeq (o : List Sg) : Prop := ∀ s, o.getLast? = some s → s.1 ≠ 2
theorem putS_app {q : List Sg} (hq : q ≠ []) (n : Nat) : ∀ o : List Sg, putS (o ++ q) n = o ++ putS q n
  | [] => rfl
  | x :: o => by rw [List.cons_append, putS_cons (by simp [hq]), putS_app hq n o, List.cons_append]
theorem putS_at {o : List Sg} (ho : NoSeq o) (r : List Nat) (n : Nat) : putS (o ++ sgs 2 r) n = o ++ sgs 2 (r ++ [n]) := by
  by_cases hr : r = []
  · subst hr
    have e : sgs 2 ([] : List Nat) = [] := by unfold sgs; rw [ck_nil]; rfl
    rw [e, List.append_nil, List.nil_append]
    have e2 : sgs 2 [n] = [(2, [n])] := by unfold sgs; rw [ck_short (by simp) (by simp)]; rfl
    rw [e2]
    exact putS_no (fun s hs h => ho s hs h.1) n
  · have hq : sgs 2 r ≠ [] := by rw [sgs_cons 2 hr]; simp
    rw [putS_app hq, putS_sgs]
theorem puts_at {o : List Sg} (ho : NoSeq o) : ∀ (xs r : List Nat), xs.foldl putS (o ++ sgs 2 r) = o ++ sgs 2 (r ++ xs)
  | [], r => by simp
  | x :: xs, r => by rw [List.foldl_cons, putS_at ho, puts_at ho xs (r ++ [x])]; simp
theorem rnorm_key : ∀ (l : List Sg) (st : List Sg × List Nat), NoSeq st.1 → l.foldl rstep (st.1 ++ sgs 2 st.2) = (l.foldl nstep st).1 ++ sgs 2 (l.foldl nstep st).2
  | [], st, _ => rfl
  | s :: l, st, h => by
    rw [List.foldl_cons, List.foldl_cons]
    by_cases h2 : s.1 = 2
    · have e1 : rstep (st.1 ++ sgs 2 st.2) s = st.1 ++ sgs 2 (st.2 ++ s.2) := by unfold rstep; rw [if_pos h2, puts_at h]
      have e2 : nstep st s = (st.1, st.2 ++ s.2) := by unfold nstep; rw [if_pos h2]
      rw [e1, e2]
      exact rnorm_key l (st.1, st.2 ++ s.2) h
    · by_cases h1 : s.1 = 1 ∧ 0 < s.2.length
      · have e1 : rstep (st.1 ++ sgs 2 st.2) s = st.1 ++ sgs 2 st.2 ++ [(1, setN s.2)] := by unfold rstep; rw [if_neg h2, if_pos h1]
        have e2 : nstep st s = (st.1 ++ sgs 2 st.2 ++ [(1, setN s.2)], []) := by unfold nstep; rw [if_neg h2, if_pos h1]
        rw [e1, e2]
        have := rnorm_key l (st.1 ++ sgs 2 st.2 ++ [(1, setN s.2)], []) (fun t ht => by
          rw [List.getLast?_concat] at ht
          cases ht
          simp)
        rw [show sgs 2 ([] : List Nat) = [] by unfold sgs; rw [ck_nil]; rfl, List.append_nil] at this
        exact this
      · have e1 : rstep (st.1 ++ sgs 2 st.2) s = st.1 ++ sgs 2 st.2 := by unfold rstep; rw [if_neg h2, if_neg h1]
        have e2 : nstep st s = st := by unfold nstep; rw [if_neg h2, if_neg h1]
        rw [e1, e2]
        exact rnorm_key l st h
theorem rnorm_eq (l : List Sg) : rnorm l = normS l := by
  have := rnorm_key l ([], []) (fun s hs => by simp at hs)
  rw [show sgs 2 ([] : List Nat) = [] by unfold sgs; rw [ck_nil]; rfl, List.append_nil] at this
  exact this
theorem rstep_len (o : List Sg) (s : Sg) : (rstep o s).length ≤ o.length + (1 + s.2.length) := by
  unfold rstep
  split
  · have := puts_len s.2 o; omega
  · split
    · rw [List.length_append]; simp only [List.length_singleton]; omega
    · omega
theorem rnorm_len (l : List Sg) : ∀ o : List Sg, (l.foldl rstep o).length ≤ o.length + nsz l := by
  induction l with
  | nil => intro o; simp
  | cons s l ih =>
    intro o
    rw [List.foldl_cons]
    have h1 := ih (rstep o s)
    have h2 := rstep_len o s
    simp only [nsz, List.map_cons, List.sum_cons] at h1 ⊢
    omega
theorem rnorm_take {l : List Sg} {i : Nat} (h : i < l.length) : rnorm (l.take (i + 1)) = rstep (rnorm (l.take i)) l[i] := by
  unfold rnorm
  rw [List.take_succ_eq_append_getElem h, List.foldl_append]
  rfl
set_option maxRecDepth 100000 in
set_option maxHeartbeats 8000000 in
theorem refNorm04_any (A : Option Addr) (c : Nat) (l : List Sg) (G : Foot) (w : World) (hl : nsz l ≤ 100000) (hs : Els 2 rSeg w G A l) :
    Calls Tryz.prog 102 #[.slice A l.length c] w (RetP (normS l) w) := by
  obtain ⟨i0, hi, hz0, hz1, hz2⟩ := info_parts info_seg
  have Hi := Lib.hid hi
  have Hz0 := Lib.hid hz0
  have Hz1 := Lib.hid hz1
  have Hz2 := Lib.hid hz2
  have HS := Lib.hid hs
  have hll := nsz_len l
  have HPu : Hid (∀ (Ax : Option Addr) (cx n : Nat) (xs : List Sg) (w' : World), xs.length ≤ 100000 → n < 4294967296 → LS w w' Ax cx xs → Calls Tryz.prog 121 #[.slice Ax xs.length cx, .int .u32 n] w' fun e w' => ∃ A' c', e = .returned (.slice A' (putS xs n).length c') ∧ LS w w' A' c' (putS xs n)) := fun Ax cx n xs w' h1 h2 h3 => refPut04_any Ax cx n xs w w' h1 h2 h3
  have HQ : Hid (∀ (xs : List Sg) (Ao : Option Addr) (co : Nat) (wr : World), xs = rnorm l → LS w wr Ao co xs → RetP (normS l) w (.returned (.slice Ao xs.length co)) wr) := fun xs Ao co wr e h => by
    rw [← rnorm_eq, ← e]
    obtain ⟨vs, h⟩ := h
    exact ⟨Ao, co, vs, rfl, h⟩
  obtain ⟨Q, hQ⟩ : ∃ Q, Q = RetP (normS l) w := ⟨_, rfl⟩
  rw [← hQ] at HQ ⊢
  have HL0 : Hid (LS w (w.alloc (.cells #[] 128)) (some ⟨w.heap.size, 0, none⟩) 0 []) := ⟨[], Lst.start ((Below.refl _ _).alloc (Nat.le_refl _) _) (Bk.new w _ _) (Nat.le_refl _)⟩
  clear hi hz0 hz1 hz2 hs hQ
  go_enter Tryz.func102, Tryz.ntmps102
  go_wp2_with fail
  go_loopw [3, 4] (fun v3 v4 wr => ∃ (i : Nat) (xs : List Sg) (Ao : Option Addr) (co : Nat), i ≤ l.length ∧ v4 = .int .i64 i ∧ xs = rnorm (l.take i) ∧ v3 = .slice Ao xs.length co ∧ LS w wr Ao co xs) (fun _ v4 _ => l.length - (intOf v4).toNat)
  case atStart => exact ⟨0, [], _, 0, by omega, rfl, rfl, rfl, HL0.out⟩
  case round =>
    obtain ⟨i, xs, Ao, co, hi, rfl, hxs, rfl, hL⟩ := hrel
    have HL := Lib.hid hL
    have HX := Lib.hid hxs
    by_cases hlt : i < l.length
    · have hxl : xs.length + (1 + l[i].2.length) ≤ 100000 := by
        have h1 := rnorm_len (l.take i) []
        have h2 := nsz_at hlt
        rw [hxs]
        unfold rnorm
        simp at h1
        omega
      obtain ⟨b, off, cs, rfl, _, hbl, hrr, hc⟩ := HS.out.at_ keeps_seg hlt
      obtain ⟨A1, c1, rfl, hkw, hA1, hc1, hm1, hu1, hw1⟩ := seg_at hrr
      have HU : Hid (∀ w', Below w.heap.size w w' → w'.cell? ⟨b, off + i * 2, none⟩ = some (.int .i64 l[i].1) ∧ w'.cell? ⟨b, off + i * 2 + 1, none⟩ = some (.slice A1 l[i].2.length c1) ∧ Sn w' G A1 c1 l[i].2) := fun w' hb => ⟨(hb.cell (p := ⟨b, off + i * 2 + 0, none⟩) hbl).trans (hc 0 _ rfl), (hb.cell (p := ⟨b, off + i * 2 + 1, none⟩) hbl).trans (hc 1 _ rfl), ⟨hA1, hc1, hm1, Rg.bel hu1 hb⟩⟩
      have HLb : Hid (∀ w' A c xs, LS w w' A c xs → Below w.heap.size w w') := fun w' A c xs h => by obtain ⟨vs, h⟩ := h; exact h.acc.bel
      have hi1 : (i : Int) < (l.length : Int) := by omega
      have HNx : Hid (rnorm (l.take (i + 1)) = rstep xs l[i]) := by rw [Hid, rnorm_take hlt, HX.out]
      have HW1 := Lib.hid hw1
      obtain ⟨q0, q1, hsn⟩ := HU.out wr (HLb.out _ _ _ _ hL)
      have HSn := Lib.hid hsn
      clear hc hrr hbl hkw hA1 hc1 hm1 hu1 hw1 hL hxs hsn
      generalize hsg : l[i] = sg at *
      obtain ⟨kd, ns⟩ := sg
      dsimp only at *
      clear hsg
      by_cases h2 : kd = 2
      · subst h2
        have HNy : Hid (rnorm (l.take (i + 1)) = ns.foldl putS xs) := by rw [Hid, HNx.out]; rfl
        have HN0 : Hid (xs = (ns.take 0).foldl putS xs) := rfl
        go_wp2_with fail
        go_loopw [3, 5] (fun v3 v5 wr => ∃ (k : Nat) (ys : List Sg) (Ay : Option Addr) (cy : Nat), k ≤ ns.length ∧ v5 = .int .i64 k ∧ ys = (ns.take k).foldl putS xs ∧ v3 = .slice Ay ys.length cy ∧ LS w wr Ay cy ys) (fun _ v5 _ => ns.length - (intOf v5).toNat)
        case atStart => exact ⟨0, xs, Ao, co, by omega, rfl, HN0.out, rfl, HL.out⟩
        case round =>
          obtain ⟨k, ys, Ay, cy, hk, rfl, hys, rfl, hLy⟩ := hrel
          have HLy := Lib.hid hLy
          have HY := Lib.hid hys
          have hyl : ys.length ≤ xs.length + k := by
            have h1 := puts_len (ns.take k) xs
            have h2 : (ns.take k).length ≤ k := by rw [List.length_take]; omega
            rw [hys]
            omega
          obtain ⟨r0, r1, hsn⟩ := HU.out wr (HLb.out _ _ _ _ hLy)
          have HSn := Lib.hid hsn
          clear hsn hys hLy
          by_cases hkl : k < ns.length
          · obtain ⟨p1, o1, rfl, l1, c1⟩ := HSn.out.at_ hkl
            have hk1 : (k : Int) < (ns.length : Int) := by omega
            have HPx := Lib.hid (HPu.out Ay cy ns[k] ys wr (by omega) (HW1.out _ (List.getElem_mem hkl)) HLy.out)
            have HNe : Hid (putS ys ns[k] = (ns.take (k + 1)).foldl putS xs) := by
              rw [Hid, HY.out, List.take_succ_eq_append_getElem hkl, List.foldl_append]
              rfl
            generalize ns[k] = x at *
            generalize putS ys x = zs at *
            generalize hnl : ns.length = nl at *
            go_wp2_with (go_at_call 121; refine HPx.out.mono ?_; rintro e w2 ⟨A2, c2, rfl, h2⟩; have HL2 := Lib.hid h2; clear h2)
            go_roundw
            case rel => exact ⟨k + 1, zs, A2, c2, by omega, by go_num, HNe.out, rfl, HL2.out⟩
            case measure => simp [intOf]; omega
          · obtain rfl : k = ns.length := by omega
            have HNz : Hid (ys = rnorm (l.take (i + 1))) := by
              have h := HY.out
              rw [List.take_length] at h
              rw [Hid, HNy.out, h]
            clear HY HNx HNy
            generalize hnl : ns.length = nl at *
            clear hkl
            go_wp2_with fail
            go_roundw
            case rel => exact ⟨i + 1, ys, Ay, cy, by omega, by go_num, HNz.out, rfl, HLy.out⟩
            case measure => simp [intOf]; omega
      · have d2 : (kd == 2) = false := by rw [beq_eq_false_iff_ne]; exact h2
        by_cases h1 : kd = 1
        · subst h1
          rcases Nat.eq_zero_or_pos ns.length with h0 | hpos
          · have HNz : Hid (xs = rnorm (l.take (i + 1))) := by
              rw [Hid, HNx.out]
              unfold rstep
              rw [if_neg (by simp), if_neg (by simp; exact List.length_eq_zero_iff.1 h0)]
            rw [h0] at q1
            go_wp2_with fail
            go_roundw
            case rel => exact ⟨i + 1, xs, Ao, co, by omega, by go_num, HNz.out, rfl, HL.out⟩
            case measure => simp [intOf]; omega
          · have HNz : Hid (xs ++ [(1, setN ns)] = rnorm (l.take (i + 1))) := by
              rw [Hid, HNx.out]
              unfold rstep
              rw [if_neg (by simp), if_pos ⟨rfl, hpos⟩]
            have HSt : Hid (Calls Tryz.prog 103 #[.slice A1 ns.length c1] wr (RetNums (setN ns) wr)) := refSet02 A1 c1 ns G wr (by omega) HSn.out
            have HW2 : Hid (W32 (setN ns)) := setN_w32 HW1.out
            obtain ⟨vs, hls⟩ := HL.out
            have HLs := Lib.hid hls
            have HOw : Hid (∀ w5 A5 c5, foot.Own w5 26 1 A5 (setN ns).length c5 (uv (setN ns)) → (∀ k, sf A5 k → wr.heap.size ≤ k) → Below wr.heap.size wr w5 → foot.Own (w5.alloc (.cells #[.int .i64 1, .slice A5 (setN ns).length c5] 128)) 128 2 Ao xs.length co vs ∧ Rg (w5.alloc (.cells #[.int .i64 1, .slice A5 (setN ns).length c5] 128)) (fun k => k = w5.heap.size) 2 (some ⟨w5.heap.size, 0, none⟩) 1 [.int .i64 1, .slice A5 (setN ns).length c5]) := fun w5 A5 c5 h1 h2 h3 => ⟨(hls.acc.own.bel h3).bel ((Below.refl _ _).alloc (Nat.le_refl _) _), rg_two (Bk.new w5 _ _)⟩
            have HFin : Hid (∀ w5 A5 c5 w8 A8 c8, (foot.Own w5 26 1 A5 (setN ns).length c5 (uv (setN ns)) ∧ (∀ k, sf A5 k → wr.heap.size ≤ k) ∧ Below wr.heap.size wr w5) → foot.Own w8 128 2 A8 (xs.length + 1) c8 (vs ++ [.int .i64 1, .slice A5 (setN ns).length c5]) → Chg (sf Ao) (w5.alloc (.cells #[.int .i64 1, .slice A5 (setN ns).length c5] 128)) w8 → Fresh (w5.alloc (.cells #[.int .i64 1, .slice A5 (setN ns).length c5] 128)) (sf Ao) (sf A8) → LS w w8 A8 c8 (xs ++ [(1, setN ns)])) := fun w5 A5 c5 w8 A8 c8 h1 h2 h3 h4 => by
              refine ⟨vs ++ [.int .i64 1, .slice A5 (setN ns).length c5], ?_⟩
              have := seg_app (k := 1) (by decide) HLs.out h1.1 h1.2.1 h1.2.2 HW2.out h2 h3 h4
              rw [List.length_append]
              exact this
            have hpn : (0 : Int) < (ns.length : Int) := by omega
            generalize setN ns = st at *
            generalize hnl : ns.length = nl at *
            clear hls HL
            go_wp2_with (first
              | (go_at_call 103; refine HSt.out.mono ?_; rintro e w5 ⟨A5, c5, rfl, h1, h2, h3⟩; have H5 := Lib.hid (And.intro h1 (And.intro h2 h3)); have HO5 := Lib.hid (HOw.out w5 A5 c5 h1 h2 h3); clear h1 h2 h3)
              | (at_builtin; refine wpList_app _ rfl (.tmp 54) (.tmp 62) _ rfl 128 i0 _ 2 32 Tryz.underlying25 Hi.out Hz0.out Hz1.out Hz2.out rfl (by omega) Ao xs.length co vs rfl HO5.out.1 _ (some ⟨w5.heap.size, 0, none⟩) 1 1 (by intro h; cases h) _ rfl HO5.out.2 (by intro u hu; simp at hu; rcases hu with rfl | rfl <;> rfl) (by unfold maxLen; omega) (by omega) ?_; intro A8 c8 w8 ho8 hc8 hf8; have H8 := Lib.hid (HFin.out w5 A5 c5 w8 A8 c8 H5.out ho8 hc8 hf8); clear ho8 hc8 hf8))
            go_roundw
            case rel => exact ⟨i + 1, xs ++ [(1, st)], A8, c8, by omega, by go_num, HNz.out, by rw [List.length_append]; rfl, H8.out⟩
            case measure => simp [intOf]; omega
        · have d1 : (kd == 1) = false := by rw [beq_eq_false_iff_ne]; exact h1
          have HNz : Hid (xs = rnorm (l.take (i + 1))) := by
            rw [Hid, HNx.out]
            unfold rstep
            rw [if_neg h2, if_neg (fun h => h1 h.1)]
          generalize hnl : ns.length = nl at *
          go_wp2_with fail
          go_roundw
          case rel => exact ⟨i + 1, xs, Ao, co, by omega, by go_num, HNz.out, rfl, HL.out⟩
          case measure => simp [intOf]; omega
    · obtain rfl : i = l.length := by omega
      rw [List.take_length] at HX
      have HEn := Lib.hid (HQ.out xs Ao co wr HX.out HL.out)
      clear hL hxs
      go_wp2_with fail
      exact HEn.out
end Go.Proofs.YtaeeeinpelfppaaGreat.attr
