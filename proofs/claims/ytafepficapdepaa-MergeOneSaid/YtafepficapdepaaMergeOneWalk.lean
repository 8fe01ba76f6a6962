/- The walk of the law MergeOne: the Go text returns true and writes nothing that was there. No condition. -/
import Derived.Test.YtafepficapdepaaMergeFns
import Derived.Test.YtafepficapdepaaRefJoin04
import Derived.Test.YtafepficapdepaaRel
namespace Go.Proofs.Ytafepficapdepaa.mergeOne
open Go.RowKit Go.Joins Go.Proofs.Ytafepficapdepaa.kit Go.Proofs.Ytafepficapdepaa.mem Go.Proofs.Ytafepficapdepaa.foot Go.Proofs.Ytafepficapdepaa.nums Go.Proofs.Ytafepficapdepaa.asn Go.Proofs.Ytafepficapdepaa.pth Go.Proofs.Ytafepficapdepaa.attr
set_option linter.unusedVariables false
set_option linter.unusedSimpArgs false

theorem ck_two {l : List Nat} (h : l.length ≤ 300) : (ck l).length ≤ 2 := by
  by_cases h0 : l = []
  · subst h0; simp [ck_nil]
  · rw [ck_cons h0]
    by_cases h1 : l.drop 255 = []
    · rw [h1]; simp [ck_nil]
    · rw [ck_short h1 (by rw [List.length_drop]; omega)]
      simp
theorem fewP_sgs {l : List Nat} (h : l.length ≤ 300) : fewP (sgs 2 l) = sgs 2 l := by
  have h1 : (sgs 2 l).length ≤ 2 := by unfold sgs; rw [List.length_map]; exact ck_two h
  unfold fewP
  rw [List.take_of_length_le (by omega)]
  have h2 : ∀ s ∈ sgs 2 l, (s.1, s.2.take 300) = s := fun s hs => by
    unfold sgs at hs
    obtain ⟨c, hc, rfl⟩ := List.mem_map.1 hs
    have hc2 := (ck_each l c hc).2
    show ((2 : Int), c.take 300) = (2, c)
    rw [List.take_of_length_le (by omega)]
  conv => rhs; rw [← List.map_id (sgs 2 l)]
  exact List.map_congr_left h2
theorem mg_self (s : List Nat) (h : StN s) : mg true false false s s = [] := by
  have hm := mg_mem true false false _ s s (Nat.le_refl _) h h
  rcases hx : mg true false false s s with _ | ⟨x, t⟩
  · rfl
  · have := (hm x).1 (by rw [hx]; simp)
    simp at this
theorem merged_one (r : Rt) (l : List Nat) (h : r.att.path = sgs 2 l) : mergedR [r] = sgs 2 l := by
  have h1 : leadR [r] = l := by rw [leadR_one, h, leadP_sgs]
  have h2 : numsR [r] = setN l := by
    show mg true true true [] (setN (allP r.att.path)) = _
    rw [h, allP_sgs, mg_nil_l]; rfl
  unfold mergedR joinS
  rw [h1, h2, mg_self _ (setN_ok l).strict]
  simp [setN, sgs, ck_nil]
def rt0 (P : List Sg) : Rt := ⟨0, 0, ⟨4, 0, P, 0, 0, 0, 0, 0, []⟩, 0, 0, 0, false, false⟩
theorem awf0 (P : List Sg) : Awf ⟨4, 0, P, 0, 0, 0, 0, 0, []⟩ := ⟨rfl, rfl, rfl, rfl, rfl, rfl, rfl⟩
theorem rwf0 (P : List Sg) : Rwf (rt0 P) := ⟨by show (0 : Nat) < _; omega, rfl, rfl, rfl, rfl⟩
theorem few0 (P : List Sg) (h : fewP P = P) : fewR (rt0 P) = rt0 P := by
  unfold fewR rt0 fewA
  simp [h]
abbrev cells0 (A : Option Addr) (n c : Nat) : Array Value := #[.int .u32 0, .int .i64 0, .int .i64 4, .int .i64 0, .slice A n c, .int .u32 0, .int .u32 0, .int .u32 0, .int .u32 0, .int .u32 0, .slice none 0 0, .int .u32 0, .int .u32 0, .int .u32 0, .bool false, .bool false]
theorem rtc0 (P : List Sg) (A : Option Addr) (c : Nat) : (rtc (rt0 P) A c none 0).toArray = cells0 A P.length c := rfl
set_option maxRecDepth 100000 in
set_option maxHeartbeats 4000000 in
theorem seq_any (A : Option Addr) (n c : Nat) (w : World) : Calls Try.prog 63 #[.slice A n c] w fun e w' => ∃ g, e = .returned (.agg (cells0 (some ⟨g, 0, none⟩) 1 1)) ∧ Bk w' g 122 #[.int .i64 2, .slice A n c] ∧ w.heap.size ≤ g ∧ Below w.heap.size w w' := by
  have HSz : Hid ((Try.prog.info? 80).map (·.size) = some 16) := info_rt
  have HB1 : Hid (Below w.heap.size w ((w.alloc (.cells zeroR.toArray 80)).alloc (.cells #[.int .i64 2, .slice A n c] 122))) := ((Below.refl _ _).alloc (Nat.le_refl _) _).alloc (by simp) _
  have HZ : Hid (Bk ((w.alloc (.cells zeroR.toArray 80)).alloc (.cells #[.int .i64 2, .slice A n c] 122)) w.heap.size 80 zeroR.toArray) := (Bk.new w _ _).alloc _
  have HS : Hid (Bk ((w.alloc (.cells zeroR.toArray 80)).alloc (.cells #[.int .i64 2, .slice A n c] 122)) (w.heap.size + 1) 122 #[.int .i64 2, .slice A n c]) := by
    have := Bk.new (w.alloc (.cells zeroR.toArray 80)) 122 #[.int .i64 2, .slice A n c]
    rwa [World.size_alloc] at this
  go_enter Try.func63, Try.ntmps63
  go_wp2_with (refine wpList_storeBk rfl 80 (.tmp 2) (.tmp 7) rfl w.heap.size (by rfl) (cells0 (some ⟨w.heap.size + 1, 0, none⟩) 1 1) (by rfl) 80 zeroR.toArray HZ.out HSz.out rfl (by rfl) ?_; intro w3 h3 h4 h5; have H3 := Lib.hid h3; have H4 := Lib.hid h4; clear h3 h4 h5)
  refine bodyPost_ret (results_cell_row rfl _ _ w.heap.size 80 (cells0 (some ⟨w.heap.size + 1, 0, none⟩) 1 1) (0, 0) _ rfl H3.out Try.underlying80 rfl HSz.out) rfl ?_
  exact ⟨w.heap.size + 1, rfl, HS.out.chg H4.out (by omega), by omega, HB1.out.trans (H4.out.below (fun k e => Nat.le_of_eq e.symm) HB1.out.size)⟩
/-- a block of numbers is read -/
theorem us_bk {w : World} {g : Nat} {ns : List Nat} (h : Bk w g 22 (uv ns).toArray) (G : Foot) (hG : G g) : Us w G (some ⟨g, 0, none⟩) ns :=
  ⟨by simp [uv], fun _ => ⟨g, 0, rfl, hG, h.lt, fun j u hu => by rw [h.cell, Nat.zero_add]; simpa using hu⟩⟩
/-- one way whose path is one sequence, in memory -/
theorem am_one {w : World} {g g2 : Nat} {ns : List Nat} (h1 : Bk w g 122 #[.int .i64 2, .slice (some ⟨g2, 0, none⟩) ns.length ns.length]) (h2 : Bk w g2 22 (uv ns).toArray) (hw : W32 ns) (hl : ns.length ≤ 1000) : rRt w (fun _ => True) (cells0 (some ⟨g, 0, none⟩) 1 1).toList (rt0 [(2, ns)]) := by
  refine ⟨some ⟨g, 0, none⟩, 1, none, 0, rfl, rwf0 _, awf0 _, ⟨(fun e => by cases e), Nat.le_refl _, by unfold maxLen; omega, ?_⟩, Sn.empty _ _, fun n hn => by cases hn⟩
  refine ⟨[.int .i64 2, .slice (some ⟨g2, 0, none⟩) ns.length ns.length], (rg_two h1).mono fun _ _ _ => trivial, rAll.single (seg_of (by decide) ?_)⟩
  exact ⟨_, _, rfl, (fun e => by cases e), Nat.le_refl _, by unfold maxLen; omega, us_bk h2 _ trivial, hw⟩
theorem lives_path : mergedR [rt0 [(2, [1, 2, 3])], rt0 [(2, [1, 2, 4])]] = [(2, [1, 2]), (1, [3, 4])] := by
  have h1 : leadR [rt0 [(2, [1, 2, 3])], rt0 [(2, [1, 2, 4])]] = [1, 2] := by decide
  have h2 : numsR [rt0 [(2, [1, 2, 3])], rt0 [(2, [1, 2, 4])]] = [1, 2, 3, 4] := by
    show mg true true true (mg true true true [] (setN [1, 2, 3])) (setN [1, 2, 4]) = _
    rw [show setN [1, 2, 3] = [1, 2, 3] by decide, show setN [1, 2, 4] = [1, 2, 4] by decide]
    simp [mg]
  unfold mergedR
  rw [h1, h2, show setN [1, 2] = [1, 2] by decide]
  simp [mg]
  decide
set_option maxRecDepth 100000 in
set_option maxHeartbeats 4000000 in
theorem lives_any (w : World) : Calls Try.prog 34 #[] w fun e w' => e = .returned (.bool true) ∧ Below w.heap.size w w' := by
  have HSq := Lib.hid (fun A n c w => seq_any A n c w)
  have HSz : Hid ((Try.prog.info? 80).map (·.size) = some 16) := info_rt
  go_enter Try.func34, Try.ntmps34
  go_wp2_with fail
  refine (HSq.out _ _ _ _).mono ?_
  rintro e w1 ⟨g1, rfl, k1, l1, b1⟩
  have K1 := Lib.hid k1
  have B1 := Lib.hid b1
  have L1 := Lib.hid l1
  clear k1 b1 l1
  go_wp2_with fail
  refine (HSq.out _ _ _ _).mono ?_
  rintro e w2 ⟨g2, rfl, k2, l2, b2⟩
  have K2 := Lib.hid k2
  have B2 := Lib.hid b2
  have L2 := Lib.hid l2
  clear k2 b2 l2
  have m1 : Bk w2 w.heap.size 22 (uv [1, 2, 3]).toArray := (((Bk.new w 22 (uv [1, 2, 3]).toArray).below B1.out (by simp)).alloc _).below B2.out (by have := B1.out.size; simp at this; simp; omega)
  have m2 : Bk w2 w1.heap.size 22 (uv [1, 2, 4]).toArray := (Bk.new w1 22 (uv [1, 2, 4]).toArray).below B2.out (by simp)
  have m3 : Bk w2 g1 122 #[.int .i64 2, .slice (some ⟨w.heap.size, 0, none⟩) 3 3] := (K1.out.alloc _).below B2.out (by have := K1.out.lt; simp; omega)
  have m4 := K2.out
  have hE : Els 16 rRt (w2.alloc (.cells ((cells0 (some ⟨g1, 0, none⟩) 1 1).toList ++ (cells0 (some ⟨g2, 0, none⟩) 1 1).toList).toArray 80)) (fun _ => True) (some ⟨w2.heap.size, 0, none⟩) [rt0 [(2, [1, 2, 3])], rt0 [(2, [1, 2, 4])]] := by
    refine ⟨_, (Rg.new w2 80 16 2 _ rfl).mono fun _ _ _ => trivial, ?_⟩
    refine ⟨_, _, rfl, am_one (g2 := w.heap.size) (ns := [1, 2, 3]) (m3.alloc _) (m1.alloc _) (by intro n hn; simp at hn; omega) (by simp), ?_⟩
    exact rAll.single (am_one (g2 := w1.heap.size) (ns := [1, 2, 4]) (m4.alloc _) (m2.alloc _) (by intro n hn; simp at hn; omega) (by simp))
  have HP := Lib.hid (mergePath_any (some ⟨w2.heap.size, 0, none⟩) 2 [rt0 [(2, [1, 2, 3])], rt0 [(2, [1, 2, 4])]] _ _ (by simp) (by intro r hr; simp at hr; rcases hr with rfl | rfl <;> simp [rt0, nsz]) hE)
  rw [lives_path] at HP
  have HBw : Hid (Below w.heap.size w (w2.alloc (.cells ((cells0 (some ⟨g1, 0, none⟩) 1 1).toList ++ (cells0 (some ⟨g2, 0, none⟩) 1 1).toList).toArray 80))) := by
    have h1 := (Below.refl w.heap.size w).alloc (Nat.le_refl _) (.cells (uv [1, 2, 3]).toArray 22)
    have h2 := h1.trans (B1.out.mono h1.size)
    have h3 := h2.alloc h2.size (.cells (uv [1, 2, 4]).toArray 22)
    have h4 := h3.trans (B2.out.mono h3.size)
    exact h4.alloc h4.size _
  clear m1 m2 m3 m4 hE
  go_wp2_with fail
  refine HP.out.mono ?_
  rintro e w3 ⟨A, c, vs, rfl, hL⟩
  have hel := hL.els keeps_seg
  obtain ⟨b, off, cs, rfl, _, _, hr0, hc0⟩ := hel.at_ keeps_seg (k := 0) (by simp)
  obtain ⟨A1, c1, rfl, _, _, _, _, _, _⟩ := seg_at hr0
  obtain ⟨b', off', cs2, e, _, _, hr1, hc1⟩ := hel.at_ keeps_seg (k := 1) (by simp)
  cases e
  obtain ⟨A2, c2, rfl, _, _, _, _, hu2, _⟩ := seg_at hr1
  obtain ⟨b3, o3, rfl, _, _, q3⟩ := hu2.at_ (k := 1) (by simp)
  have q1 : w3.cell? ⟨b, off + 1, none⟩ = some (.slice A1 2 c1) := hc0 1 _ rfl
  have q2 : w3.cell? ⟨b, off + 3, none⟩ = some (.slice (some ⟨b3, o3, none⟩) 2 c2) := hc1 1 _ rfl
  have q4 : w3.cell? ⟨b3, o3 + 1, none⟩ = some (.int .u32 4) := q3
  have HBz := Lib.hid (HBw.out.trans (hL.acc.bel.mono HBw.out.size))
  clear hL hel hr0 hc0 hr1 hc1 hu2 q3
  simp only [List.length_cons, List.length_nil, Nat.reduceAdd]
  go_wp2_with fail
  go_ret
  exact ⟨rfl, HBz.out⟩
abbrev cells1 (A : Option Addr) (n c : Nat) (B : Option Addr) (d : Nat) : Array Value := #[.int .u32 0, .int .i64 0, .int .i64 4, .int .i64 0, .slice A n c, .int .u32 0, .int .u32 0, .int .u32 0, .int .u32 0, .int .u32 0, .slice B 0 d, .int .u32 0, .int .u32 0, .int .u32 0, .bool false, .bool false]
set_option maxRecDepth 100000 in
set_option maxHeartbeats 8000000 in
theorem core (A : Option Addr) (c : Nat) (L : List Nat) (G : Foot) (W : World) (hw : W32 L) (h : Sn W G A c L) :
    Calls Try.prog 5 #[.slice A L.length c] W fun e w' => e = .returned (.bool true) ∧ Below W.heap.size W w' := by
  obtain ⟨i0, hi, hz0, hz1, hz2⟩ := info_parts info_u32
  have Hi := Lib.hid hi
  have Hz0 := Lib.hid hz0
  have Hz1 := Lib.hid hz1
  have Hz2 := Lib.hid hz2
  have HSz : Hid ((Try.prog.info? 80).map (·.size) = some 16) := info_rt
  have hcut : 300 < L.length → ∀ w, (Instr.slice 67 (.slice A L.length c) none (some (.int .i64 300)) none).run Try.prog w = .ok (.slice A 300 c) w := fun hl => cut_nums A c L.length 300 h.nil h.cap h.max (by omega)
  obtain ⟨M, hM⟩ : ∃ M, M = L.take 300 := ⟨_, rfl⟩
  have HWm : Hid (W32 M) := by rw [hM]; exact hw.take 300
  have HUs : Hid (Us W G A M) := by
    rw [hM]
    have := h.us.take (k := (L.take 300).length) (by rw [List.length_take]; omega)
    rw [Nat.mul_one, ← uv_take] at this
    have e : L.take (L.take 300).length = L.take 300 := by
      rw [List.length_take]
      rcases Nat.le_total 300 L.length with h1 | h1
      · rw [Nat.min_eq_left h1]
      · rw [Nat.min_eq_right h1, List.take_of_length_le (Nat.le_refl _), List.take_of_length_le h1]
    rw [e] at this
    exact this
  have hm3 : M.length ≤ 300 := by rw [hM, List.length_take]; omega
  have hn1 : 300 < L.length → M.length = 300 := fun h => by rw [hM, List.length_take]; omega
  have hn2 : ¬ 300 < L.length → M.length = L.length := fun h => by rw [hM, List.length_take]; omega
  have HAn := Lib.hid h.nil
  have HJo : Hid (∀ (w' : World) (A' : Option Addr) (c' : Nat), foot.Own w' 22 1 A' M.length c' (uv M) → Calls Try.prog 30 #[.slice A' M.length c', .slice none 0 0] w' (RetP (sgs 2 M) w')) := fun w' A' c' h => refJoin04_seq A' c' M _ w' (by omega) HWm.out (Sn.own h)
  obtain ⟨P, hP⟩ : ∃ P, P = sgs 2 M := ⟨_, rfl⟩
  have hPl : P.length ≤ 300 := by rw [hP]; exact Nat.le_trans (sgs_len 2 M) hm3
  have hPs : nsz P ≤ 600 := by rw [hP]; have := nsz_sgs 2 M; omega
  have hPf : fewP P = P := by rw [hP]; exact fewP_sgs hm3
  have hPm : mergedR [rt0 P] = P := by rw [merged_one (rt0 P) M hP, hP]
  rw [← hP] at HJo
  have HOne : Hid (∀ (w' : World) (A' : Option Addr) (c' : Nat), Sp w' (fun _ => True) A' c' P → Calls Try.prog 33 #[.agg (cells0 A' P.length c')] w' fun e w2 => ∃ Ap cp Ac cc, e = .returned (.agg (cells1 Ap P.length cp Ac cc)) ∧ Below w'.heap.size w' w2 ∧ ∀ g w3, Below w2.heap.size w2 w3 → Bk w3 g 80 (cells1 Ap P.length cp Ac cc) → Els 16 rRt w3 (fun _ => True) (some ⟨g, 0, none⟩) [rt0 P]) := fun w' A' c' hs => by
    refine (One_any (rt0 P) A' none c' 0 _ w' ⟨awf0 P, hs, Sn.empty _ _, fun n hn => by cases hn⟩).mono ?_
    rintro e w2 ⟨Ap, cp, Ac, cc, rfl, hA, hb⟩
    rw [few0 P hPf] at hA
    refine ⟨Ap, cp, Ac, cc, by rw [few0 P hPf]; rfl, hb, fun g w3 hb3 hk => ?_⟩
    refine ⟨(cells1 Ap P.length cp Ac cc).toList, ⟨rfl, fun _ => ⟨g, 0, rfl, trivial, hk.lt, fun j u hu => by rw [hk.cell, Nat.zero_add]; simpa using hu⟩⟩, rAll.single ⟨Ap, cp, Ac, cc, rfl, rwf0 P, (hA.bel hb3).mono fun _ _ _ => trivial⟩⟩
  have HPa : Hid (∀ (w' : World) (g : Nat), Els 16 rRt w' (fun _ => True) (some ⟨g, 0, none⟩) [rt0 P] → Calls Try.prog 32 #[.bool true, .slice (some ⟨g, 0, none⟩) 1 1] w' (RetP P w')) := fun w' g he => by
    have := mergePath_any (some ⟨g, 0, none⟩) 1 [rt0 P] _ w' (by simp) (by intro r hr; simp at hr; subst hr; show nsz P ≤ 4000; omega) he
    rw [hPm] at this
    exact this
  have HSm : Hid (∀ (w' : World) (A1 A2 : Option Addr) (c1 c2 : Nat), Sp w' (fun _ => True) A1 c1 P → Sp w' (fun _ => True) A2 c2 P → Calls Try.prog 31 #[.slice A1 P.length c1, .slice A2 P.length c2] w' fun e w2 => e = .returned (.bool true) ∧ Below w'.heap.size w' w2) := fun w' A1 A2 c1 c2 h1 h2 => by
    refine (refSame04_q A1 A2 c1 c2 P P _ _ w' (by omega) (by omega) h1.els h2.els).mono ?_
    rintro e w2 ⟨rfl, hd⟩
    exact ⟨by simp, hd.bel⟩
  have HOw : Hid (∀ w' : World, Below W.heap.size W w' → foot.Own (w'.alloc (.cells #[] 22)) 22 1 (some ⟨w'.heap.size, 0, none⟩) 0 0 [] ∧ Us (w'.alloc (.cells #[] 22)) G A M) := fun w' hb => ⟨Own.empty (Bk.new w' _ _), Rg.bel HUs.out (hb.alloc hb.size _)⟩
  have HLi := Lib.hid lives_any
  obtain ⟨HO0, HU0⟩ := HOw.out W (Below.refl _ _)
  have HO0 := Lib.hid HO0
  have HU0 := Lib.hid HU0
  have HB0 : Hid (Below W.heap.size W (W.alloc (.cells #[] 22))) := (Below.refl _ _).alloc (Nat.le_refl _) _
  clear hi hz0 hz1 hz2 hM h hw hP hPs hPf hPm
  by_cases hl : 300 < L.length
  case' pos =>
    have hcut := hcut hl
    have hn := hn1 hl
    have d1 : decide ((300 : Int) < (L.length : Int)) = true := by rw [decide_eq_true_iff]; omega
    clear hn1 hn2
    go_enter Try.func5, Try.ntmps5
    go_upto_region 3 with fail
    rw [show Value.slice A 300 c = Value.slice A M.length c by rw [hn]]
  case' neg =>
    have hn := hn2 hl
    have d1 : decide ((300 : Int) < (L.length : Int)) = false := by rw [decide_eq_false_iff_not]; omega
    clear hn1 hn2 hcut
    go_enter Try.func5, Try.ntmps5
    go_upto_region 3 with fail
    rw [show Value.slice A L.length c = Value.slice A M.length c by rw [hn]]
  all_goals
    clear hn hl d1
    go_upto_region 4 with (first
      | (at_builtin; refine wpList_app _ rfl (.tmp 9) (.tmp 10) _ rfl 22 i0 _ 1 4 Try.underlying67 Hi.out Hz0.out Hz1.out Hz2.out rfl (by omega) (some ⟨W.heap.size, 0, none⟩) 0 0 [] rfl HO0.out _ A M.length c HAn.out (uv M) rfl HU0.out (uv_one M) (by unfold maxLen; omega) (by omega) ?_; intro A1 x1 w1 ho hc' hf; rw [Nat.zero_add M.length] at ho ⊢; have HJx := Lib.hid (HJo.out w1 A1 x1 ho); have HB1 : Hid (Below W.heap.size W w1) := HB0.out.trans (hc'.below (fun k hk => by rw [sf_some] at hk; exact Nat.le_of_eq hk) HB0.out.size); clear ho hc' hf)
      | (go_at_call 30; refine HJx.out.mono ?_; rintro e w2 ⟨A2, c2, vs2, rfl, hL2⟩; have HB2 := Lib.hid (HB1.out.trans (hL2.acc.bel.mono HB1.out.size)); have HOx := Lib.hid (HOne.out (w2.alloc (.cells (cells0 A2 P.length c2) 80)) A2 c2 (((Sp.of_lst hL2).bel ((Below.refl _ _).alloc (Nat.le_refl _) _)).mono fun _ _ _ => trivial)); have HBx : Hid (Below W.heap.size W (w2.alloc (.cells (cells0 A2 P.length c2) 80))) := HB2.out.alloc HB2.out.size _; have HBk2 := Lib.hid (Bk.new w2 80 (cells0 A2 P.length c2)); clear hL2))
    go_wp2_with (first
      | (refine wpList_loadBk rfl 80 (.tmp 3) rfl w2.heap.size (by rfl) 80 (cells0 A2 P.length c2) _ HBk2.out Try.underlying80 (by rfl) HSz.out ?_)
      | (go_at_call 33; refine HOx.out.mono ?_; rintro e w3 ⟨Ap, cp, Ac, cc, rfl, hb3, hels⟩; have HB3 := Lib.hid (HBx.out.trans (hb3.mono HBx.out.size)); have HPx := Lib.hid (HPa.out _ _ (hels w3.heap.size (w3.alloc (.cells (cells1 Ap P.length cp Ac cc) 80)) ((Below.refl _ _).alloc (Nat.le_refl _) _) (Bk.new w3 _ _))); have HB4 : Hid (Below W.heap.size W (w3.alloc (.cells (cells1 Ap P.length cp Ac cc) 80))) := HB3.out.alloc HB3.out.size _; clear hb3 hels)
      | (go_at_call 32; refine HPx.out.mono ?_; rintro e w5 ⟨A5, c5, vs5, rfl, hL5⟩; have HB5 := Lib.hid (HB4.out.trans (hL5.acc.bel.mono HB4.out.size)); have HS5 := Lib.hid ((Sp.of_lst hL5).mono (H := fun _ => True) fun _ _ _ => trivial); have HO5 := Lib.hid (HOw.out w5 HB5.out).1; have HU5 := Lib.hid (HOw.out w5 HB5.out).2; have HB6 : Hid (Below W.heap.size W (w5.alloc (.cells #[] 22))) := HB5.out.alloc HB5.out.size _; have HS6 := Lib.hid (HS5.out.bel ((Below.refl _ _).alloc (Nat.le_refl _) (.cells #[] 22))); clear hL5)
      | (at_builtin; refine wpList_app _ rfl (.tmp 19) (.tmp 20) _ rfl 22 i0 _ 1 4 Try.underlying67 Hi.out Hz0.out Hz1.out Hz2.out rfl (by omega) (some ⟨w5.heap.size, 0, none⟩) 0 0 [] rfl HO5.out _ A M.length c HAn.out (uv M) rfl HU5.out (uv_one M) (by unfold maxLen; omega) (by omega) ?_; intro A7 x7 w7 ho hc' hf; rw [Nat.zero_add M.length] at ho ⊢; have HJy := Lib.hid (HJo.out w7 A7 x7 ho); have HB57 : Hid (Below w5.heap.size w5 w7) := (((Below.refl _ _).alloc (Nat.le_refl _) _).trans (hc'.below (fun k hk => by rw [sf_some] at hk; exact Nat.le_of_eq hk) (by simp))); have HB7 := Lib.hid (HB5.out.trans (HB57.out.mono HB5.out.size)); have HS7 := Lib.hid (HS5.out.bel HB57.out); clear ho hc' hf)
      | (go_at_call 30; refine HJy.out.mono ?_; rintro e w8 ⟨A8, c8, vs8, rfl, hL8⟩; have HB8 := Lib.hid (HB7.out.trans (hL8.acc.bel.mono HB7.out.size)); have HSx := Lib.hid (HSm.out w8 A5 A8 c5 c8 (HS7.out.bel hL8.acc.bel) ((Sp.of_lst hL8).mono fun _ _ _ => trivial)); clear hL8)
      | (go_at_call 31; refine HSx.out.mono ?_; rintro e w9 ⟨rfl, hb9⟩; have HB9 := Lib.hid (HB8.out.trans (hb9.mono HB8.out.size)); clear hb9)
      | (go_at_call 34; refine (HLi.out _).mono ?_; rintro e w10 ⟨rfl, hb10⟩; have HB10 := Lib.hid (HB9.out.trans (hb10.mono HB9.out.size)); clear hb10))
    refine bodyPost_ret (results_tmp rfl _ _ _) (by rfl) ?_
    exact ⟨rfl, HB10.out⟩
set_option maxRecDepth 100000 in
theorem walk {H : Type} {enc : TypeId × Value → H} {W : World} {base : Nat} {v0 : Value} {d0 : DataW H} {p0 : List MemPlace}
    (hv0 : Value.okWide Try.prog W .any base 67 v0) (h0 : DataW.Trod enc Try.prog W 0 (fun _ => true) true 67 v0 d0 p0) :
    Calls Try.prog 5 #[v0] W fun e w' => e = .returned (.bool true) ∧ Below W.heap.size W w' := by
  obtain ⟨A, c, l, rfl, hA, hc, hm, vs, hr, hall⟩ := open_sl Try.underlying67 (opens_sl (keeps_int .u32) Try.underlying67 (by kernel_rfl) (by omega) (opens_int Try.underlying22)) hv0 h0
  obtain ⟨e, hw⟩ := nums_of_ints hall
  have hl : (l.map Int.toNat).length = l.length := by simp
  rw [← hl]
  rw [← hl] at hc hr
  exact core A c _ _ W hw ⟨hA, hc, hm, by rw [e] at hr; exact hr⟩
end Go.Proofs.Ytafepficapdepaa.mergeOne
