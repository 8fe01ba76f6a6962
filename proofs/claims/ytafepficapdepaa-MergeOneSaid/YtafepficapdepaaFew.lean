/- What confluencelaw04.Few, confluencelaw08.Few and confluencelaw28.One return. Condition: at most 10^6 pieces. -/
import Derived.Test.YtafepficapdepaaAttr
import Derived.Test.YtafepficapdepaaAttrFns
import Derived.Test.YtafepficapdepaaBuild
import Derived.Test.YtafepficapdepaaAttrNorm
namespace Go.Proofs.Ytafepficapdepaa.attr
open Go.RowKit Go.Proofs.Ytafepficapdepaa.kit Go.Proofs.Ytafepficapdepaa.mem Go.Proofs.Ytafepficapdepaa.foot Go.Proofs.Ytafepficapdepaa.nums Go.Proofs.Ytafepficapdepaa.asn Go.Proofs.Ytafepficapdepaa.pth
set_option linter.unusedVariables false
set_option linter.unusedSimpArgs false
/-- a piece behind those that stand -/
theorem seg_app {k : Int} (hk : (Lit.int .i64 k).wf = true) {w w3 w4 w6 : World} {out : List Sg} {m : Nat} {t : List Nat} {A3 A5 A6 : Option Addr} {c3 c5 c6 : Nat} {vs : List Value} (h : Lst 2 rSeg 122 (fun k => w.heap.size ≤ k) w w3 A3 m c3 vs out) (ho5 : foot.Own w4 22 1 A5 t.length c5 (uv t)) (hlo5 : ∀ k, sf A5 k → w3.heap.size ≤ k) (hb5 : Below w3.heap.size w3 w4) (hw : W32 t)
    (ho : foot.Own w6 122 2 A6 (m + 1) c6 (vs ++ [.int .i64 k, .slice A5 t.length c5])) (hc : Chg (sf A3) (w4.alloc (.cells #[.int .i64 k, .slice A5 t.length c5] 122)) w6) (hf : Fresh (w4.alloc (.cells #[.int .i64 k, .slice A5 t.length c5] 122)) (sf A3) (sf A6)) :
    Lst 2 rSeg 122 (fun k => w.heap.size ≤ k) w w6 A6 (m + 1) c6 (vs ++ [.int .i64 k, .slice A5 t.length c5]) (out ++ [(k, t)]) := by
  have hlt := foot.Own.lt h.acc.own
  have hb : Below w4.heap.size w4 (w4.alloc (.cells #[.int .i64 k, .slice A5 t.length c5] 122)) := (Below.refl _ _).alloc (Nat.le_refl _) _
  have hs := seg_of (G := fun k => w.heap.size ≤ k ∧ ¬ sf A3 k) (k := k) hk (Rel_own (foot.Own.bel ho5 hb) hw fun k hk => ⟨Nat.le_trans h.acc.bel.size (hlo5 k hk), fun e => by have := hlt k e; have := hlo5 k hk; omega⟩)
  exact ((h.go keeps_seg hb5).go keeps_seg hb).app keeps_seg (rAll.single hs) rfl ho hc hf
def fewQ (l : List Sg) (i : Nat) : List Sg := (l.take i).map fun s => (s.1, s.2.take 300)
theorem fewQ_succ {l : List Sg} {i : Nat} (h : i < l.length) : fewQ l (i + 1) = fewQ l i ++ [(l[i].1, l[i].2.take 300)] := by
  unfold fewQ
  rw [List.take_succ_eq_append_getElem h, List.map_append]
  rfl
theorem fewQ_end {l : List Sg} {i : Nat} (h : i ≤ l.length) (h2 : i = 12 ∨ (i = l.length ∧ i ≤ 12)) : fewQ l i = fewP l ∧ (fewP l).length = i := by
  have h1 : l.take i = l.take 12 := by
    rcases h2 with rfl | ⟨rfl, h3⟩
    · rfl
    · rw [List.take_of_length_le (Nat.le_refl _), List.take_of_length_le h3]
  unfold fewQ fewP
  rw [h1]
  refine ⟨rfl, ?_⟩
  rw [List.length_map, ← h1, List.length_take]
  omega
set_option maxRecDepth 100000 in
set_option maxHeartbeats 4000000 in
theorem Few4_any (A : Option Addr) (c : Nat) (l : List Sg) (G : Foot) (w : World) (hl : l.length ≤ maxLen) (hs : Els 2 rSeg w G A l) :
    Calls Try.prog 76 #[.slice A l.length c] w (RetP (fewP l) w) := by
  obtain ⟨i0, hi, hz0, hz1, hz2⟩ := info_parts info_seg
  have Hi := Lib.hid hi
  have Hz0 := Lib.hid hz0
  have Hz1 := Lib.hid hz1
  have Hz2 := Lib.hid hz2
  have HS := Lib.hid hs
  have HQ : Hid (∀ (i : Nat) (Ao : Option Addr) (co : Nat) (vs : List Value) (w' : World), i ≤ l.length → (i = 12 ∨ (i = l.length ∧ i ≤ 12)) → Lst 2 rSeg 122 (fun k => w.heap.size ≤ k) w w' Ao i co vs (fewQ l i) → RetP (fewP l) w (.returned (.slice Ao i co)) w') := fun i Ao co vs w' h1 h2 h3 => by
    obtain ⟨e1, e2⟩ := fewQ_end h1 h2
    rw [e1] at h3
    rw [← e2] at h3 ⊢
    exact ⟨Ao, co, vs, rfl, h3⟩
  obtain ⟨Q, hQ⟩ : ∃ Q, Q = RetP (fewP l) w := ⟨_, rfl⟩
  rw [← hQ] at HQ ⊢
  have HL0 : Hid (Lst 2 rSeg 122 (fun k => w.heap.size ≤ k) w (w.alloc (.cells #[] 122)) (some ⟨w.heap.size, 0, none⟩) 0 0 [] (fewQ l 0)) := Lst.start ((Below.refl _ _).alloc (Nat.le_refl _) _) (Bk.new w _ _) (Nat.le_refl _)
  clear hi hz0 hz1 hz2 hs hQ
  unfold maxLen at hl
  go_enter Try.func76, Try.ntmps76
  go_wp2_with fail
  go_loopw [3, 4] (fun v3 v4 wr => ∃ (i : Nat) (Ao : Option Addr) (co : Nat) (vs : List Value), i ≤ l.length ∧ i ≤ 12 ∧ v4 = .int .i64 i ∧ v3 = .slice Ao i co ∧ Lst 2 rSeg 122 (fun k => w.heap.size ≤ k) w wr Ao i co vs (fewQ l i)) (fun _ v4 _ => 12 - (intOf v4).toNat)
  case atStart => exact ⟨0, _, 0, [], by omega, by omega, rfl, rfl, HL0.out⟩
  case round =>
    obtain ⟨i, Ao, co, vs, hi, hi12, rfl, rfl, hL⟩ := hrel
    have HL := Lib.hid hL
    clear hL
    by_cases hlt : i < l.length
    · by_cases h12 : i < 12
      · have hi1 : (i : Int) < (l.length : Int) := by omega
        have d1 : decide ((i : Int) < 12) = true := by rw [decide_eq_true_iff]; omega
        obtain ⟨b, off, cs, rfl, _, hbl, hrr, hc⟩ := HS.out.at_ keeps_seg hlt
        obtain ⟨A1, c1, rfl, hkw, hA1, hc1, hm1, hu1, hw1⟩ := seg_at hrr
        have HU : Hid (∀ w', Below w.heap.size w w' → w'.cell? ⟨b, off + i * 2, none⟩ = some (.int .i64 l[i].1) ∧ w'.cell? ⟨b, off + i * 2 + 1, none⟩ = some (.slice A1 l[i].2.length c1)) := fun w' hb => ⟨(hb.cell (p := ⟨b, off + i * 2 + 0, none⟩) hbl).trans (hc 0 _ rfl), (hb.cell (p := ⟨b, off + i * 2 + 1, none⟩) hbl).trans (hc 1 _ rfl)⟩
        have HLd : Hid (Lst 2 rSeg 122 (fun k => w.heap.size ≤ k) w wr.drew Ao i co vs (fewQ l i)) := HL.out.go keeps_seg (Below.refl _ _).drew
        have HFw : Hid (Calls Try.prog 77 #[.slice A1 l[i].2.length c1, .int .i64 300] wr.drew (RetNums (l[i].2.take 300) wr.drew)) := (Few_any A1 c1 l[i].2 300 G wr.drew (by omega) hA1 hc1 hm1 (Rg.bel hu1 HLd.out.acc.bel))
        have HFs := Lib.hid (fewQ_succ hlt)
        have HWk := Lib.hid hkw
        have HW1 : Hid (W32 (l[i].2.take 300)) := hw1.take 300
        clear hc hrr hbl hkw hA1 hc1 hm1 hu1 hw1
        generalize l[i].1 = kd at *
        generalize l[i].2.take 300 = ns at *
        generalize l[i].2.length = n1 at *
        obtain ⟨q0, q1⟩ := HU.out _ HL.out.acc.bel
        obtain ⟨r0, r1⟩ := HU.out _ HLd.out.acc.bel
        have HU0 : Hid (wr.cell? ⟨b, off + i * 2, none⟩ = some (.int .i64 kd) ∧ wr.cell? ⟨b, off + i * 2 + 1, none⟩ = some (.slice A1 n1 c1)) := ⟨q0, q1⟩
        go_wp2_with fail
        go_region_held3 (fun w' => w'.cell? ⟨b, off + i * 2, none⟩ = some (.int .i64 kd) ∧ w'.cell? ⟨b, off + i * 2 + 1, none⟩ = some (.slice A1 n1 c1)) (first | exact HU4.out | exact HU5.out | exact HU3.out | exact HU0.out | exact ⟨r0, r1⟩) (first
          | (go_at_call 77; (with_reducible refine HFw.out.mono ?_); rintro e w3 ⟨A5, c5, rfl, ho5, hlo5, hb5⟩; go_must (have HO5 := Lib.hid (And.intro ho5 (And.intro hlo5 hb5))); go_must (have HU3 := Lib.hid (HU.out w3 (HLd.out.acc.bel.trans (hb5.mono HLd.out.acc.bel.size)))); go_must (have HU5 := Lib.hid (HU.out (w3.alloc (.cells #[.int .i64 kd, .slice A5 ns.length c5] 122)) ((HLd.out.acc.bel.trans (hb5.mono HLd.out.acc.bel.size)).alloc (Nat.le_trans HLd.out.acc.bel.size hb5.size) _))); clear ho5 hlo5 hb5)
          | ((have HL5 : Hid (Lst 2 rSeg 122 (fun k => w.heap.size ≤ k) w (w3.alloc (.cells #[.int .i64 kd, .slice A5 ns.length c5] 122)) Ao i co vs (fewQ l i)) := (HLd.out.go keeps_seg HO5.out.2.2).go keeps_seg ((Below.refl _ _).alloc (Nat.le_refl _) _)); refine step_app _ (by rfl) (.tmp 16) (.tmp 29) _ (by rfl) 122 i0 _ 2 32 Try.underlying73 Hi.out Hz0.out Hz1.out Hz2.out rfl (by omega) Ao i co vs (by rfl) HL5.out.acc.own _ (some ⟨w3.heap.size, 0, none⟩) 1 1 (by intro h; cases h) [.int .i64 kd, .slice A5 ns.length c5] (by rfl) (rg_two (Bk.new w3 _ _)) (by intro u hu; simp at hu; rcases hu with rfl | rfl <;> rfl) (by unfold maxLen; omega) (by omega) ?_; intro A6 c6 w6 ho6 hc6 hf6; go_must (have HL6 := Lib.hid (seg_app HWk.out HLd.out HO5.out.1 HO5.out.2.1 HO5.out.2.2 HW1.out ho6 hc6 hf6)); go_must (have HU4 := Lib.hid (HU.out w6 HL6.out.acc.bel)); clear ho6 hc6 hf6))
        go_wp2_with fail
        go_roundw
        case rel => exact ⟨i + 1, A6, c6, _, by omega, by omega, by go_num, rfl, by rw [HFs.out]; exact HL6.out⟩
        case measure => simp [intOf]; omega
      · have hi1 : (i : Int) < (l.length : Int) := by omega
        obtain rfl : i = 12 := by omega
        have HR := Lib.hid (HQ.out 12 Ao co vs wr hi (.inl rfl) HL.out)
        go_wp2_with fail
        exact HR.out
    · obtain rfl : i = l.length := by omega
      have HR := Lib.hid (HQ.out _ Ao co vs wr hi (.inr ⟨rfl, hi12⟩) HL.out)
      go_wp2_with fail
      exact HR.out
theorem fewP_len (l : List Sg) : (fewP l).length ≤ 12 := by unfold fewP; rw [List.length_map, List.length_take]; omega
set_option maxRecDepth 100000 in
set_option maxHeartbeats 4000000 in
theorem Few8_any (a : Atr) (Ap Ac : Option Addr) (cp cc : Nat) (G : Foot) (w : World) (hm : Am w G a Ap cp Ac cc) :
    Calls Try.prog 42 #[.agg (atc a Ap cp Ac cc).toArray] w (RetA (fewA a) w) := by
  have hpl := hm.sp.cap
  have hpm := hm.sp.max
  have HF4 : Hid (∀ w', Below w.heap.size w w' → Calls Try.prog 76 #[.slice Ap a.path.length cp] w' (RetP (fewP a.path) w')) := fun w' hb => Few4_any Ap cp a.path G w' (Nat.le_trans hpl hpm) (hm.sp.els.bel keeps_seg hb)
  have HF2 : Hid (∀ w', Below w.heap.size w w' → Calls Try.prog 77 #[.slice Ac a.comms.length cc, .int .i64 260] w' (RetNums (a.comms.take 260) w')) := fun w' hb => Few_any Ac cc a.comms 260 G w' (by omega) hm.sn.nil hm.sn.cap hm.sn.max (Rg.bel hm.sn.us hb)
  have HW := Lib.hid hm.wf
  have HW32 := Lib.hid (hm.w32.take 260)
  have HSz : Hid ((Try.prog.info? 76).map (·.size) = some 9) := info_atr
  obtain ⟨ps, hps⟩ : ∃ ps, ps = fewP a.path := ⟨_, rfl⟩
  obtain ⟨ns, hns⟩ : ∃ ns, ns = a.comms.take 260 := ⟨_, rfl⟩
  have hF : fewA a = { a with path := ps, comms := ns } := by rw [hps, hns]; rfl
  rw [← hps] at HF4
  rw [← hns] at HF2 HW32
  rw [hF]
  clear hF hps hns
  obtain ⟨Q, hQ⟩ : ∃ Q, Q = RetA { a with path := ps, comms := ns } w := ⟨_, rfl⟩
  have HQ : Hid (∀ (Ap : Option Addr) (cp : Nat) (Ac : Option Addr) (cc : Nat) (w' : World), Am w' (fun k => w.heap.size ≤ k) { a with path := ps, comms := ns } Ap cp Ac cc → Below w.heap.size w w' → Q (.returned (.agg (atc { a with path := ps, comms := ns } Ap cp Ac cc).toArray)) w') := fun Ap cp Ac cc w' h1 h2 => by
    rw [hQ]
    exact ⟨Ap, cp, Ac, cc, rfl, h1, h2⟩
  rw [← hQ]
  clear hQ hm hpl hpm
  obtain ⟨cs, hcs⟩ : ∃ cs, cs = atc a Ap cp Ac cc := ⟨_, rfl⟩
  have HC := Lib.hid hcs
  obtain ⟨w1, hw1⟩ : ∃ w1, w1 = (w.alloc (.cells cs.toArray 76)).alloc (.cells zeroC.toArray 76) := ⟨_, rfl⟩
  have hb2 := Bk.new (w.alloc (.cells cs.toArray 76)) 76 zeroC.toArray
  have e2 : (w.alloc (.cells cs.toArray 76)).heap.size = w.heap.size + 1 := by simp
  rw [e2] at hb2
  have HB : Hid (Below w.heap.size w w1) := by rw [hw1]; exact ((Below.refl _ _).alloc (Nat.le_refl _) _).alloc (by simp) _
  have HK1 : Hid (Bk w1 w.heap.size 76 cs.toArray) := by rw [hw1]; exact (Bk.new w _ _).alloc _
  have HK2 : Hid (Bk w1 (w.heap.size + 1) 76 zeroC.toArray) := by rw [hw1]; exact hb2
  have HU : Hid (∀ w', Below w1.heap.size w1 w' → (w'.cell? ⟨w.heap.size, 2, none⟩ = some (.slice Ap a.path.length cp) ∧ w'.cell? ⟨w.heap.size, 8, none⟩ = some (.slice Ac a.comms.length cc)) ∧ w'.frozen? ⟨w.heap.size, 2, none⟩ = false ∧ w'.frozen? ⟨w.heap.size, 8, none⟩ = false ∧ w.heap.size < w'.heap.size) := fun w' hb => by
    have h := HK1.out.below hb HK1.out.lt
    rw [HC.out] at h
    exact ⟨⟨(h.cell 2).trans rfl, (h.cell 8).trans rfl⟩, h.free 2, h.free 8, h.lt⟩
  have HXc : Hid (Below w1.heap.size w1 w1.drew) := (Below.refl _ _).drew
  obtain ⟨⟨y2, y8⟩, f2, f8, yl⟩ := HU.out _ HXc.out
  rw [← hcs]
  clear hcs hb2 e2
  simp only [zeroC] at hw1
  go_enter Try.func42, Try.ntmps42
  go_upto_region 1 with fail
  rw [← hw1]
  clear hw1
  go_cut [] (fun wx => ∃ Ap' cp' Ac' cc', Bk wx w.heap.size 76 (atc { a with path := ps, comms := ns } Ap' cp' Ac' cc').toArray ∧ Bk wx (w.heap.size + 1) 76 zeroC.toArray ∧ Am wx (fun k => w.heap.size + 1 < k) { a with path := ps, comms := ns } Ap' cp' Ac' cc' ∧ Below w.heap.size w wx)
  case first =>
    go_region_with (first
      | (go_at_call 76; refine (HF4.out _ (HB.out.trans (HXc.out.mono HB.out.size))).mono ?_; rintro e w3 ⟨A3, k3, vs3, rfl, g3⟩; have HX3 := Lib.hid (HXc.out.trans (g3.acc.bel.mono HXc.out.size)); have HP3 : Hid (Sp w3 (fun k => w.heap.size + 1 < k) A3 k3 ps) := (Sp.of_lst g3).mono (fun k _ hk => by have h1 := Nat.lt_of_lt_of_le HK2.out.lt HXc.out.size; rcases hk with hk | hk <;> exact Nat.lt_of_lt_of_le h1 hk); have HXc := HX3; obtain ⟨⟨y2, y8⟩, f2, f8, yl⟩ := HU.out _ HXc.out; clear g3)
      | (go_at_call 77; refine (HF2.out _ (HB.out.trans (HXc.out.mono HB.out.size))).mono ?_; rintro e w4 ⟨A4, k4, rfl, g4, g5, g6⟩; have HX4 := Lib.hid (HXc.out.trans (g6.mono HXc.out.size)); have HP4 : Hid (Sn w4 (fun k => w.heap.size + 1 < k) A4 k4 ns) := Sn.mono (Sn.own g4) (fun k _ hk => Nat.lt_of_lt_of_le (Nat.lt_of_lt_of_le HK2.out.lt HXc.out.size) (g5 k hk)); have HP34 := Lib.hid (HP3.out.bel g6); have HXc := HX4; obtain ⟨⟨y2, y8⟩, f2, f8, yl⟩ := HU.out _ HXc.out; clear g4 g5 g6))
    all_goals
      go_wp2_with fail
      go_meet
      have h1 := HK1.out.below HX4.out HK1.out.lt
      have h2 := HK2.out.below HX4.out HK2.out.lt
      rw [HC.out] at h1
      have hc : ∀ u v, Chg (fun k => k = w.heap.size) w4 ((w4.setCell ⟨w.heap.size, 2, none⟩ u).setCell ⟨w.heap.size, 8, none⟩ v) := fun u v => ((Chg.refl (fun k => k = w.heap.size) w4).put (p := ⟨w.heap.size, 2, none⟩) (.inl rfl) u).trans ((Chg.refl (fun k => k = w.heap.size) _).put (p := ⟨w.heap.size, 8, none⟩) (.inl rfl) v) fun _ _ e => e
      refine ⟨A3, k3, A4, k4, (h1.put 2 _).put 8 _, h2.chg (hc _ _) (by omega), ⟨⟨HW.out.has, HW.out.orig, HW.out.hop, HW.out.med, HW.out.pref, HW.out.aas, HW.out.aid⟩, HP34.out.chg (hc _ _) (fun k _ hk e => by omega), Sn.chg HP4.out (hc _ _) (fun k _ hk e => by omega), HW32.out⟩, (HB.out.trans (HX4.out.mono HB.out.size)).trans ((hc _ _).below (fun k e => by omega) (Nat.le_trans HB.out.size HX4.out.size))⟩
  case rest =>
  obtain ⟨Ax, cx, Ay, cy, h1, h2, h3, h4⟩ := hcut
  have H1 := Lib.hid h1
  have H2 := Lib.hid h2
  have H3 := Lib.hid h3
  have H4 := Lib.hid h4
  clear h1 h2 h3 h4 y2 y8 f2 f8 yl HU
  go_wp2_with (first
    | (refine wpList_loadBk rfl 76 (.tmp 1) rfl w.heap.size (by rfl) 76 (atc { a with path := ps, comms := ns } Ax cx Ay cy).toArray _ H1.out Try.underlying76 (by rfl) HSz.out ?_)
    | (refine wpList_storeBk rfl 76 (.tmp 2) (.tmp 11) rfl (w.heap.size + 1) (by rfl) (atc { a with path := ps, comms := ns } Ax cx Ay cy).toArray (by rfl) 76 zeroC.toArray H2.out HSz.out rfl (by rfl) ?_; intro w5 h5 h6 h7; have H5 := Lib.hid h5; have H6 := Lib.hid h6; clear h5 h6 h7))
  refine bodyPost_ret (results_cell_row rfl _ _ (w.heap.size + 1) 76 (atc { a with path := ps, comms := ns } Ax cx Ay cy).toArray (0, 0) _ rfl H5.out Try.underlying76 rfl HSz.out) rfl ?_
  exact HQ.out _ _ _ _ _ ((H3.out.chg H6.out (fun k _ hk e => by omega)).mono fun k _ hk => by omega) (H4.out.trans (H6.out.below (fun k e => by omega) H4.out.size))
end Go.Proofs.Ytafepficapdepaa.attr
