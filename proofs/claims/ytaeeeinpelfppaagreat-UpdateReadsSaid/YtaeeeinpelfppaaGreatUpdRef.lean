/- What confluenceref10.no and Decode return. Condition: at most 50000 bytes. -/
import Derived.Test.YtaeeeinpelfppaaGreatUpdDecode
import Derived.Test.YtaeeeinpelfppaaGreatCutB
namespace Go.Proofs.YtaeeeinpelfppaaGreat.upd
open Go.RowKit Go.Proofs.YtaeeeinpelfppaaGreat.kit Go.Proofs.YtaeeeinpelfppaaGreat.mem Go.Proofs.YtaeeeinpelfppaaGreat.foot Go.Proofs.YtaeeeinpelfppaaGreat.nums Go.Proofs.YtaeeeinpelfppaaGreat.asn Go.Proofs.YtaeeeinpelfppaaGreat.pth Go.Proofs.YtaeeeinpelfppaaGreat.octet Go.Proofs.YtaeeeinpelfppaaGreat.attr Go.Proofs.YtaeeeinpelfppaaGreat.mv
set_option linter.unusedVariables false
set_option linter.unusedSimpArgs false
set_option maxRecDepth 100000 in
set_option maxHeartbeats 2000000 in
theorem no_any (s : Int) (A : Option Addr) (n c : Nat) (w : World) : Calls Tryz.prog 28 #[.int .i64 s, .slice A n c] w fun e w' => e = .returned (.tuple #[.agg zeroUC.toArray, .agg (nt 3 s A n c).toArray]) ∧ Below w.heap.size w w' := by
  have HSu : Hid ((Tryz.prog.info? 31).map (·.size) = some 11) := info_upd
  have HSn : Hid ((Tryz.prog.info? 33).map (·.size) = some 3) := info_ntc
  obtain ⟨h1, h2, h3⟩ := heads w zeroUC zeroN 31 33
  obtain ⟨w1, hw1⟩ : ∃ w1, w1 = (w.alloc (.cells zeroUC.toArray 31)).alloc (.cells zeroN.toArray 33) := ⟨_, rfl⟩
  rw [← hw1] at h1 h2 h3
  have HB := Lib.hid h1
  have HK1 := Lib.hid h2
  have HK2 := Lib.hid h3
  clear h1 h2 h3
  have hw0 := hw1
  simp only [zeroUC, upc, zeroC, zeroN, List.cons_append, List.nil_append] at hw0
  clear hw1
  go_enter Tryz.func28, Tryz.ntmps28
  go_upto_region 1 with fail
  rw [show (_ : World) = w1 from hw0.symm]
  clear hw0
  refine wp_region_lit ?_
  go_wp2_with (first
    | (refine wpList_storeBk rfl 31 (.tmp 4) (.tmp 6) rfl w.heap.size (by rfl) zeroUC.toArray (by rfl) 31 zeroUC.toArray HK1.out HSu.out rfl (by rfl) ?_; intro w2 k2 c2 l2; have K2 := Lib.hid k2; have C2 := Lib.hid c2; have HK3 := Lib.hid (HK2.out.chg c2 (by omega)); clear k2 c2 l2)
    | (refine wpList_storeBk rfl 33 (.tmp 5) (.tmp 9) rfl (w.heap.size + 1) (by rfl) (nt 3 s A n c).toArray (by rfl) 33 zeroN.toArray HK3.out HSn.out rfl (by rfl) ?_; intro w3 k3 c3 l3; have K3 := Lib.hid k3; have C3 := Lib.hid c3; clear k3 c3 l3))
  have hb := HB.out.trans (C2.out.below (fun k e => Nat.le_of_eq e.symm) HB.out.size)
  refine bodyPost_ret (res_cc rfl _ _ w.heap.size (w.heap.size + 1) 31 33 zeroUC.toArray (nt 3 s A n c).toArray (0, 0) (0, 0) _ _ rfl (K2.out.chg C3.out (by omega)) Tryz.underlying31 rfl HSu.out rfl K3.out Tryz.underlying33 rfl HSn.out) rfl ⟨rfl, hb.trans (C3.out.below (fun k e => by omega) hb.size)⟩
/-- bytes stay where a block of other cells turns -/
theorem bn_far {w w' : World} {g c : Nat} {A : Option Addr} {x : List UInt8} {t : TypeId} {cs : List Value} (h : Bn w (fun _ => True) A c x) (hk : Bk w g t cs.toArray) (hn : ∀ v ∈ cs, ∀ n : Int, v ≠ Value.int .u8 n) (hc : Chg (fun k => k = g) w w') : Bn w' (fun _ => True) A c x :=
  ⟨h.nil, h.cap, h.max, Rg.of_rd (bs_chg h.bs hk (fun i v hv => hn v (List.mem_of_getElem? (by simpa using hv))) hc (Nat.le_refl _)) hc.size fun _ _ => trivial⟩
def okOf : Option (List (Nat × Int)) → Bool | none => false | some _ => true
theorem refNlri_dec (A : Option Addr) (c : Nat) (x : List UInt8) (w : World) (hl : x.length ≤ 50000) (hr : Bs w w.heap.size A x) :
    Calls Tryz.prog 30 #[.slice A x.length c] w fun e w' => ∃ A' c', e = .returned (.tuple #[.slice A' (gOf (nlri.dec x)).length c', .bool (okOf (nlri.dec x))]) ∧ Pw w' (fun k => w.heap.size ≤ k) A' c' (gOf (nlri.dec x)) ∧ Below w.heap.size w w' := by
  refine (nlri.refDecode_any A c w.heap.size x w (by omega) (Nat.le_refl _) hr).mono fun e w' h => ?_
  unfold nlri.RefDec at h
  generalize nlri.dec x = D at *
  rcases D with _ | g
  · exact ⟨none, 0, h.1, Pw.nil_ _ _, h.2⟩
  · obtain ⟨A', c', h1, h2⟩ := h
    exact ⟨A', c', h1, Pw.new h2, h2.bel⟩
/-- the three blocks of confluenceref10.Decode -/
structure RS (w : World) (uc : List Value) (w' : World) : Prop where
  k2 : Bk w' w.heap.size 31 zeroUC.toArray
  k3 : Bk w' (w.heap.size + 1) 33 zeroN.toArray
  k4 : Bk w' (w.heap.size + 2) 31 uc.toArray
  bel : Below w.heap.size w w'
section
variable {w w' w'' : World} {uc uc' : List Value} {F : Foot}
theorem RS.chg (h : RS w uc w') (hc : Chg F w' w'') (hF : ∀ k, F k → w.heap.size + 2 < k) : RS w uc w'' :=
  ⟨h.k2.chg hc fun e => by have := hF _ e; omega, h.k3.chg hc fun e => by have := hF _ e; omega, h.k4.chg hc fun e => by have := hF _ e; omega, h.bel.trans (hc.below (fun k e => by have := hF _ e; omega) h.bel.size)⟩
theorem RS.go (h : RS w uc w') (hb : Below w'.heap.size w' w'') : RS w uc w'' := h.chg (Chg.of_below hb fun _ => False) fun _ e => e.elim
theorem RS.upd (h : RS w uc w') (hc : Chg (fun k => k = w.heap.size + 2) w' w'') (hk : Bk w'' (w.heap.size + 2) 31 uc'.toArray) : RS w uc' w'' :=
  ⟨h.k2.chg hc (by omega), h.k3.chg hc (by omega), hk, h.bel.trans (hc.below (fun k e => by omega) h.bel.size)⟩
theorem RS.lt (h : RS w uc w') : w.heap.size + 2 < w'.heap.size := h.k4.lt
end
theorem RS.start (w : World) : RS w zeroUC (((w.alloc (.cells zeroUC.toArray 31)).alloc (.cells zeroN.toArray 33)).alloc (.cells zeroUC.toArray 31)) := by
  have h := allocs_at [.cells zeroUC.toArray 31, .cells zeroN.toArray 33, .cells zeroUC.toArray 31] w
  exact ⟨h 0 _ _ rfl, h 1 _ _ rfl, h 2 _ _ rfl, allocs_below [.cells zeroUC.toArray 31, .cells zeroN.toArray 33, .cells zeroUC.toArray 31] w⟩
theorem part_none {l : List UInt8} (h : l.length < 2 ∨ l.length < 2 + two l) : part l = none := by
  unfold part
  by_cases h2 : l.length < 2
  · rw [if_pos h2]
  · rw [if_neg h2, if_pos (by omega)]
theorem part_some {l : List UInt8} (h : 2 + two l ≤ l.length) : part l = some ((l.drop 2).take (two l), l.drop (2 + two l)) := by
  unfold part
  rw [if_neg (by omega), if_neg (by omega)]
set_option maxRecDepth 100000 in
set_option maxHeartbeats 8000000 in
theorem refDecode_any (A : Option Addr) (c : Nat) (G : Foot) (l : List UInt8) (w : World) (hl : l.length ≤ 50000) (hs : Bn w G A c l) :
    Calls Tryz.prog 7 #[.slice A l.length c] w (RetUp (fun _ _ => True) (updS l) w) := by
  have HSu : Hid ((Tryz.prog.info? 31).map (·.size) = some 11) := info_upd
  have HSn : Hid ((Tryz.prog.info? 33).map (·.size) = some 3) := info_ntc
  have HSz : Hid ((Tryz.prog.info? 29).map (·.size) = some 9) := info_atr
  have hsl : Bn w (fun k => k < w.heap.size) A c l := hs.mono fun k hk _ => hk
  obtain ⟨w1, hw1⟩ : ∃ w1, w1 = (((w.alloc (.cells zeroUC.toArray 31)).alloc (.cells zeroN.toArray 33)).alloc (.cells zeroUC.toArray 31)) := ⟨_, rfl⟩
  have hst := RS.start w
  rw [← hw1] at hst
  have HS1 := Lib.hid hst
  have HL1 := Lib.hid (hsl.bel hst.bel)
  obtain ⟨D, hD⟩ : ∃ D, D = updS l := ⟨_, rfl⟩
  obtain ⟨Q, hQ⟩ : ∃ Q, Q = RetUp (fun _ _ => True) D w := ⟨_, rfl⟩
  have HQ2 : Hid (∀ (s : Nat) (d : List UInt8) (An : Option Addr) (cn : Nat) (w' : World), D = .err s d → Bn w' (fun _ => True) An cn d → Below w.heap.size w w' → Q (.returned (.tuple #[.agg zeroUC.toArray, .agg (nt 3 (s : Int) An d.length cn).toArray])) w') := fun s d An cn w' h1 h2 h3 => by
    rw [hQ, h1]
    exact ⟨none, 0, none, 0, none, 0, none, 0, An, cn, rfl, Um.zero _ _, h2, h3⟩
  have HQ1 : Hid (∀ (s : Nat) (w' : World), D = .err s [] → Below w.heap.size w w' → Q (.returned (.tuple #[.agg zeroUC.toArray, .agg (nt 3 (s : Int) none 0 0).toArray])) w') := fun s w' h1 h2 => HQ2.out s [] none 0 w' h1 (Bn.nil_ _ _) h2
  have HQ3 : Hid (∀ (u : Upd) (A1 : Option Addr) (c1 : Nat) (Ap : Option Addr) (cp : Nat) (Ac : Option Addr) (cc : Nat) (A2 : Option Addr) (c2 : Nat) (w' : World), D = .ok u → Um w' (fun k => w.heap.size ≤ k) u A1 c1 Ap cp Ac cc A2 c2 → Below w.heap.size w w' → Q (.returned (.tuple #[.agg (upc A1 u.gone.length c1 (atc u.a Ap cp Ac cc) A2 u.here.length c2).toArray, .agg (nt 0 0 none 0 0).toArray])) w') := fun u A1 c1 Ap cp Ac cc A2 c2 w' h1 h2 h3 => by
    rw [hQ, h1]
    exact ⟨A1, c1, Ap, cp, Ac, cc, A2, c2, none, 0, rfl, h2.mono fun _ _ _ => trivial, Bn.nil_ _ _, h3⟩
  rw [← hD, ← hQ]
  have HNo := Lib.hid (fun (s : Int) (A : Option Addr) (n c : Nat) (w' : World) => no_any s A n c w')
  have hD1 : (part l = none → D = .err 1 []) ∧ (∀ x q, part l = some (x, q) → nlri.dec x = none → D = .err 1 []) ∧ (∀ x q g, part l = some (x, q) → nlri.dec x = some g → D = updB g q) := by
    rw [hD]
    unfold updS
    refine ⟨fun h => by rw [h], fun x q h h2 => by rw [h]; dsimp only; rw [h2], fun x q g h h2 => by rw [h]; dsimp only; rw [h2]⟩
  have HD1 := Lib.hid hD1
  have HNum := Lib.hid (fun (A : Option Addr) (c : Nat) (l : List UInt8) (w : World) (h1 : l.length ≤ 4) (h2 : Bs w w.heap.size A l) => Num_any A c w.heap.size l w h1 h2)
  have htw := two_le l
  have hw0 := hw1
  simp only [zeroUC, upc, zeroC, zeroN, List.cons_append, List.nil_append] at hw0
  clear hD hQ hD1 hw1 hs hsl hst
  go_enter Tryz.func7, Tryz.ntmps7
  go_upto_region 2 with fail
  rw [show (_ : World) = w1 from hw0.symm]
  clear hw0
  by_cases h2 : l.length < 2
  · have e2 : (l.length : Int) < 2 := by omega
    have HDe : Hid (D = .err 1 []) := HD1.out.1 (part_none (.inl h2))
    clear h2
    go_wp2_with (first
      | (go_at_call 28; refine (HNo.out _ _ _ _ _).mono ?_; rintro e wn ⟨rfl, h⟩; have HSn7 := Lib.hid (HS1.out.go h); clear h)
      | (refine wpList_storeBk rfl 31 (.tmp 2) (.tmp 15) rfl w.heap.size (by rfl) zeroUC.toArray (by rfl) 31 zeroUC.toArray HSn7.out.k2 HSu.out rfl (by rfl) ?_; intro wx kx cx lx; have Kx := Lib.hid kx; have Cx := Lib.hid cx; have Zx := Lib.hid (HSn7.out.k3.chg cx (by omega)); have Bx := Lib.hid (HSn7.out.bel.trans (cx.below (fun k e => Nat.le_of_eq e.symm) HSn7.out.bel.size)); clear kx cx lx)
      | (refine wpList_storeBk rfl 33 (.tmp 3) (.tmp 16) rfl (w.heap.size + 1) (by rfl) (nt 3 1 none 0 0).toArray (by rfl) 33 zeroN.toArray Zx.out HSn.out rfl (by rfl) ?_; intro wy ky cy ly; have Ky := Lib.hid ky; have Cy := Lib.hid cy; have By := Lib.hid (Bx.out.trans (cy.below (fun k e => by omega) Bx.out.size)); have K10 := Lib.hid (Kx.out.chg cy (by omega)); clear ky cy ly))
    refine bodyPost_ret (res_cc rfl _ _ w.heap.size (w.heap.size + 1) 31 33 zeroUC.toArray (nt 3 1 none 0 0).toArray (0, 0) (0, 0) _ _ rfl K10.out Tryz.underlying31 rfl HSu.out rfl Ky.out Tryz.underlying33 rfl HSn.out) rfl (HQ1.out 1 _ HDe.out By.out)
  · have e2 : ¬ (l.length : Int) < 2 := by omega
    obtain ⟨hr1, hb1⟩ := cutB_lo HL1.out (n := 2) (by omega)
    have ht : (l.take 2).length = 2 := by rw [List.length_take]; omega
    have hr1 : ∀ w', (Instr.slice 22 (.slice A l.length c) none (some (.int .i64 2)) none).run Tryz.prog w' = .ok (.slice A 2 c) w' := hr1
    obtain ⟨n, hn⟩ : ∃ n, n = two l := ⟨_, rfl⟩
    have Hn := Lib.hid hn
    have htn : n < 65536 := by rw [hn]; exact two_le l
    have HNx : Hid (Calls Tryz.prog 29 #[.slice A 2 c] w1 fun e w' => e = .returned (.int .u32 (n : Int)) ∧ w1 = w') := by
      have h := HNum.out A c (l.take 2) w1 (by omega) (hb1 w1 HL1.out).bs
      rw [ht] at h
      rw [hn]
      exact h
    clear hb1 ht hn
    go_upto_region 5 with (go_at_call 29; refine HNx.out.mono ?_; rintro e w' ⟨rfl, rfl⟩)
    clear HNx hr1
    by_cases h3 : l.length < 2 + n
    · have e3 : (l.length : Int) < 2 + (n : Int) := by omega
      have HDe : Hid (D = .err 1 []) := HD1.out.1 (part_none (.inr (by rw [← Hn.out]; exact h3)))
      clear h3
      go_wp2_with (first
        | (go_at_call 28; refine (HNo.out _ _ _ _ _).mono ?_; rintro e wn ⟨rfl, h⟩; have HSn7 := Lib.hid (HS1.out.go h); clear h)
        | (refine wpList_storeBk rfl 31 (.tmp 2) (.tmp 27) rfl w.heap.size (by rfl) zeroUC.toArray (by rfl) 31 zeroUC.toArray HSn7.out.k2 HSu.out rfl (by rfl) ?_; intro wx kx cx lx; have Kx := Lib.hid kx; have Cx := Lib.hid cx; have Zx := Lib.hid (HSn7.out.k3.chg cx (by omega)); have Bx := Lib.hid (HSn7.out.bel.trans (cx.below (fun k e => Nat.le_of_eq e.symm) HSn7.out.bel.size)); clear kx cx lx)
        | (refine wpList_storeBk rfl 33 (.tmp 3) (.tmp 28) rfl (w.heap.size + 1) (by rfl) (nt 3 1 none 0 0).toArray (by rfl) 33 zeroN.toArray Zx.out HSn.out rfl (by rfl) ?_; intro wy ky cy ly; have Ky := Lib.hid ky; have Cy := Lib.hid cy; have By := Lib.hid (Bx.out.trans (cy.below (fun k e => by omega) Bx.out.size)); have K10 := Lib.hid (Kx.out.chg cy (by omega)); clear ky cy ly))
      refine bodyPost_ret (res_cc rfl _ _ w.heap.size (w.heap.size + 1) 31 33 zeroUC.toArray (nt 3 1 none 0 0).toArray (0, 0) (0, 0) _ _ rfl K10.out Tryz.underlying31 rfl HSu.out rfl Ky.out Tryz.underlying33 rfl HSn.out) rfl (HQ1.out 1 _ HDe.out By.out)
    · have e3 : ¬ (l.length : Int) < 2 + (n : Int) := by omega
      obtain ⟨A3, c3, hr3, hb3⟩ := cutB_mid HL1.out (lo := 2) (hi := 2 + n) (by omega) (by omega)
      rw [show 2 + n - 2 = n by omega] at hr3 hb3
      have hr3 : ∀ w', (Instr.slice 22 (.slice A l.length c) (some (.int .i64 2)) (some (.int .i64 (2 + (n : Int)))) none).run Tryz.prog w' = .ok (.slice A3 n c3) w' := fun w' => by
        have := hr3 w'
        rw [show ((2 + n : Nat) : Int) = 2 + (n : Int) by omega] at this
        exact this
      obtain ⟨A4, c4, hr4, hb4⟩ := cutB_hi HL1.out (n := 2 + n) (by omega)
      rw [show ((2 + n : Nat) : Int) = 2 + (n : Int) by omega] at hr4
      have hxl : ((l.drop 2).take n).length = n := by rw [List.length_take, List.length_drop]; omega
      have hql : (l.drop (2 + n)).length = l.length - (2 + n) := List.length_drop
      have HPt : Hid (part l = some ((l.drop 2).take n, l.drop (2 + n))) := by
        have h := part_some (l := l) (by rw [← Hn.out]; omega)
        rwa [← Hn.out] at h
      have HBx := Lib.hid hb3
      have HBq := Lib.hid hb4
      rw [← hql] at hr4
      clear hb3 hb4
      generalize (l.drop 2).take n = x at *
      generalize l.drop (2 + n) = q at *
      have hqb : q.length ≤ 50000 := by omega
      clear hql
      have HNd := Lib.hid (refNlri_dec A3 c3 x w1 (by omega) (HBx.out w1 HL1.out).bs)
      rw [hxl] at HNd
      obtain ⟨g, hg⟩ : ∃ g, g = gOf (nlri.dec x) := ⟨_, rfl⟩
      obtain ⟨ok, hok⟩ : ∃ k, k = okOf (nlri.dec x) := ⟨_, rfl⟩
      rw [← hg, ← hok] at HNd
      have HGg := Lib.hid hg
      have HOk := Lib.hid hok
      clear hg hok
      go_upto_region 8 with (go_at_call 30; refine HNd.out.mono ?_; rintro e w5 ⟨A5, c5, rfl, h1, h⟩; have HP5 := Lib.hid h1; have HS5 := Lib.hid (HS1.out.go h); have HL5 := Lib.hid (HL1.out.bel h); have HLt1 := Lib.hid HS1.out.lt; have x0 := HS5.out.k4.cell 0; have f0 := HS5.out.k4.free 0; simp [zeroUC, upc] at x0; clear h1 h)
      have hc6 : Chg (fun k => k = w.heap.size + 2) w5 (w5.setCell ⟨w.heap.size + 1 + 1, 0, none⟩ (.slice A5 g.length c5)) := (Chg.refl (fun k => k = w.heap.size + 2) w5).put (.inl rfl) _
      have hk6 : Bk (w5.setCell ⟨w.heap.size + 1 + 1, 0, none⟩ (.slice A5 g.length c5)) (w.heap.size + 2) 31 (upc A5 g.length c5 zeroC none 0 0).toArray := HS5.out.k4.put 0 (.slice A5 g.length c5)
      generalize w5.setCell ⟨w.heap.size + 1 + 1, 0, none⟩ (.slice A5 g.length c5) = w6 at *
      have HS6 := Lib.hid (HS5.out.upd hc6 hk6)
      have HL6 := Lib.hid (HL5.out.chg hc6 fun k _ hk e => by omega)
      have HP6 := Lib.hid ((HP5.out.chg hc6 fun k _ hk e => by have := HLt1.out; omega).mono (H := fun k => w.heap.size + 2 < k) fun k _ hk => by have := HLt1.out; omega)
      clear x0 f0 hc6 hk6 HP5 HS5 HL5 HNd HS1 HLt1 hr3
      rcases hd : nlri.dec x with _ | gg
      · have HDe := Lib.hid (HD1.out.2.1 x q HPt.out hd)
        obtain rfl : ok = false := by rw [HOk.out, hd]; rfl
        clear hd HGg HOk hr4
        go_wp2_with (first
          | (go_at_call 28; refine (HNo.out _ _ _ _ _).mono ?_; rintro e wn ⟨rfl, h⟩; have HSn7 := Lib.hid (HS6.out.go h); clear h)
          | (refine wpList_storeBk rfl 31 (.tmp 2) (.tmp 41) rfl w.heap.size (by rfl) zeroUC.toArray (by rfl) 31 zeroUC.toArray HSn7.out.k2 HSu.out rfl (by rfl) ?_; intro wx kx cx lx; have Kx := Lib.hid kx; have Cx := Lib.hid cx; have Zx := Lib.hid (HSn7.out.k3.chg cx (by omega)); have Bx := Lib.hid (HSn7.out.bel.trans (cx.below (fun k e => Nat.le_of_eq e.symm) HSn7.out.bel.size)); clear kx cx lx)
          | (refine wpList_storeBk rfl 33 (.tmp 3) (.tmp 42) rfl (w.heap.size + 1) (by rfl) (nt 3 1 none 0 0).toArray (by rfl) 33 zeroN.toArray Zx.out HSn.out rfl (by rfl) ?_; intro wy ky cy ly; have Ky := Lib.hid ky; have Cy := Lib.hid cy; have By := Lib.hid (Bx.out.trans (cy.below (fun k e => by omega) Bx.out.size)); have K10 := Lib.hid (Kx.out.chg cy (by omega)); clear ky cy ly))
        refine bodyPost_ret (res_cc rfl _ _ w.heap.size (w.heap.size + 1) 31 33 zeroUC.toArray (nt 3 1 none 0 0).toArray (0, 0) (0, 0) _ _ rfl K10.out Tryz.underlying31 rfl HSu.out rfl Ky.out Tryz.underlying33 rfl HSn.out) rfl (HQ1.out 1 _ HDe.out By.out)
      · obtain rfl : g = gg := by rw [HGg.out, hd]; rfl
        obtain rfl : ok = true := by rw [HOk.out, hd]; rfl
        have HDb := Lib.hid (HD1.out.2.2 x q g HPt.out hd)
        clear hd HGg HOk HD1 HPt
        go_upto_region 11 with fail
        have HQ6 := Lib.hid (HBq.out w6 HL6.out)
        clear HBx HBq hr4 hxl
        have HDp : Hid (part q = none → D = .err 1 []) := fun h => by rw [HDb.out]; unfold updB; rw [h]
        by_cases h2 : q.length < 2
        · have e2 : (q.length : Int) < 2 := by omega
          have HDe : Hid (D = .err 1 []) := HDp.out (part_none (.inl h2))
          clear h2
          go_wp2_with (first
            | (go_at_call 28; refine (HNo.out _ _ _ _ _).mono ?_; rintro e wn ⟨rfl, h⟩; have HSn7 := Lib.hid (HS6.out.go h); clear h)
            | (refine wpList_storeBk rfl 31 (.tmp 2) (.tmp 51) rfl w.heap.size (by rfl) zeroUC.toArray (by rfl) 31 zeroUC.toArray HSn7.out.k2 HSu.out rfl (by rfl) ?_; intro wx kx cx lx; have Kx := Lib.hid kx; have Cx := Lib.hid cx; have Zx := Lib.hid (HSn7.out.k3.chg cx (by omega)); have Bx := Lib.hid (HSn7.out.bel.trans (cx.below (fun k e => Nat.le_of_eq e.symm) HSn7.out.bel.size)); clear kx cx lx)
            | (refine wpList_storeBk rfl 33 (.tmp 3) (.tmp 52) rfl (w.heap.size + 1) (by rfl) (nt 3 1 none 0 0).toArray (by rfl) 33 zeroN.toArray Zx.out HSn.out rfl (by rfl) ?_; intro wy ky cy ly; have Ky := Lib.hid ky; have Cy := Lib.hid cy; have By := Lib.hid (Bx.out.trans (cy.below (fun k e => by omega) Bx.out.size)); have K10 := Lib.hid (Kx.out.chg cy (by omega)); clear ky cy ly))
          refine bodyPost_ret (res_cc rfl _ _ w.heap.size (w.heap.size + 1) 31 33 zeroUC.toArray (nt 3 1 none 0 0).toArray (0, 0) (0, 0) _ _ rfl K10.out Tryz.underlying31 rfl HSu.out rfl Ky.out Tryz.underlying33 rfl HSn.out) rfl (HQ1.out 1 _ HDe.out By.out)
        · have e2 : ¬ (q.length : Int) < 2 := by omega
          obtain ⟨hr1, hb1⟩ := cutB_lo HQ6.out (n := 2) (by omega)
          have ht : (q.take 2).length = 2 := by rw [List.length_take]; omega
          have hr1 : ∀ w', (Instr.slice 22 (.slice A4 q.length c4) none (some (.int .i64 2)) none).run Tryz.prog w' = .ok (.slice A4 2 c4) w' := hr1
          obtain ⟨n2, hn⟩ : ∃ n, n = two q := ⟨_, rfl⟩
          have Hn2 := Lib.hid hn
          have htn2 : n2 < 65536 := by rw [hn]; exact two_le q
          have HNx : Hid (Calls Tryz.prog 29 #[.slice A4 2 c4] w6 fun e w' => e = .returned (.int .u32 (n2 : Int)) ∧ w6 = w') := by
            have h := HNum.out A4 c4 (q.take 2) w6 (by omega) (hb1 w6 HQ6.out).bs
            rw [ht] at h
            rw [hn]
            exact h
          clear hb1 ht hn
          go_upto_region 14 with (go_at_call 29; refine HNx.out.mono ?_; rintro e w' ⟨rfl, rfl⟩)
          clear HNx hr1
          by_cases h3 : q.length < 2 + n2
          · have e3 : (q.length : Int) < 2 + (n2 : Int) := by omega
            have HDe : Hid (D = .err 1 []) := HDp.out (part_none (.inr (by rw [← Hn2.out]; exact h3)))
            clear h3
            go_wp2_with (first
              | (go_at_call 28; refine (HNo.out _ _ _ _ _).mono ?_; rintro e wn ⟨rfl, h⟩; have HSn7 := Lib.hid (HS6.out.go h); clear h)
              | (refine wpList_storeBk rfl 31 (.tmp 2) (.tmp 63) rfl w.heap.size (by rfl) zeroUC.toArray (by rfl) 31 zeroUC.toArray HSn7.out.k2 HSu.out rfl (by rfl) ?_; intro wx kx cx lx; have Kx := Lib.hid kx; have Cx := Lib.hid cx; have Zx := Lib.hid (HSn7.out.k3.chg cx (by omega)); have Bx := Lib.hid (HSn7.out.bel.trans (cx.below (fun k e => Nat.le_of_eq e.symm) HSn7.out.bel.size)); clear kx cx lx)
              | (refine wpList_storeBk rfl 33 (.tmp 3) (.tmp 64) rfl (w.heap.size + 1) (by rfl) (nt 3 1 none 0 0).toArray (by rfl) 33 zeroN.toArray Zx.out HSn.out rfl (by rfl) ?_; intro wy ky cy ly; have Ky := Lib.hid ky; have Cy := Lib.hid cy; have By := Lib.hid (Bx.out.trans (cy.below (fun k e => by omega) Bx.out.size)); have K10 := Lib.hid (Kx.out.chg cy (by omega)); clear ky cy ly))
            refine bodyPost_ret (res_cc rfl _ _ w.heap.size (w.heap.size + 1) 31 33 zeroUC.toArray (nt 3 1 none 0 0).toArray (0, 0) (0, 0) _ _ rfl K10.out Tryz.underlying31 rfl HSu.out rfl Ky.out Tryz.underlying33 rfl HSn.out) rfl (HQ1.out 1 _ HDe.out By.out)
          · have e3 : ¬ (q.length : Int) < 2 + (n2 : Int) := by omega
            obtain ⟨A7, c7, hr3, hb3⟩ := cutB_mid HQ6.out (lo := 2) (hi := 2 + n2) (by omega) (by omega)
            rw [show 2 + n2 - 2 = n2 by omega] at hr3 hb3
            have hr3 : ∀ w', (Instr.slice 22 (.slice A4 q.length c4) (some (.int .i64 2)) (some (.int .i64 (2 + (n2 : Int)))) none).run Tryz.prog w' = .ok (.slice A7 n2 c7) w' := fun w' => by
              have := hr3 w'
              rw [show ((2 + n2 : Nat) : Int) = 2 + (n2 : Int) by omega] at this
              exact this
            obtain ⟨A42, c42, hr4, hb4⟩ := cutB_hi HQ6.out (n := 2 + n2) (by omega)
            rw [show ((2 + n2 : Nat) : Int) = 2 + (n2 : Int) by omega] at hr4
            have hxl : ((q.drop 2).take n2).length = n2 := by rw [List.length_take, List.length_drop]; omega
            have hql : (q.drop (2 + n2)).length = q.length - (2 + n2) := List.length_drop
            have HPt : Hid (part q = some ((q.drop 2).take n2, q.drop (2 + n2))) := by
              have h := part_some (l := q) (by rw [← Hn2.out]; omega)
              rwa [← Hn2.out] at h
            have HBx := Lib.hid hb3
            have HBq := Lib.hid hb4
            rw [← hql] at hr4
            clear hb3 hb4
            generalize (q.drop 2).take n2 = x2 at *
            generalize q.drop (2 + n2) = q2 at *
            have hqb2 : q2.length ≤ 50000 := by omega
            clear hql
            have HDc : Hid ((∀ s d, decS x2 = .err s d → D = .err s d) ∧ (∀ a, decS x2 = .ok a → D = updC g a q2)) := by
              rw [Hid, HDb.out]
              unfold updB
              rw [HPt.out]
              dsimp only
              exact ⟨fun s d h => by rw [h], fun a h => by rw [h]⟩
            have HDa := attr.refDecode_any A7 c7 _ x2 w6 (by omega) (HBx.out w6 HQ6.out)
            rw [hxl] at HDa
            have HDa := Lib.hid HDa
            have HW6 : Hid (∀ w', Below w6.heap.size w6 w' → RS w (upc A5 g.length c5 zeroC none 0 0) w' ∧ Pw w' (fun k => w.heap.size + 2 < k) A5 c5 g ∧ Bn w' (fun k => k < w.heap.size) A4 c4 q) := fun w' h => ⟨HS6.out.go h, HP6.out.bel h, HQ6.out.bel h⟩
            have hq2l := hqb2
            have HLs6 := Lib.hid HS6.out.lt
            clear HPt HDb HDp
            rcases hd : decS x2 with a | ⟨s, d⟩
            · have HDe := Lib.hid (HDc.out.2 a hd)
              rw [hd] at HDa
              clear HDc hd
              go_upto_region 17 with (first
                | (go_at_call 31; refine HDa.out.mono ?_; rintro e w10 ⟨Ap, cp, Ac, cc, rfl, h1, h⟩; have HM10 := Lib.hid h1; have HK0 := Lib.hid (Bk.new w10 29 zeroC.toArray); have HB10 := Lib.hid h; clear h1 h)
                | (refine wpList_storeBk rfl 29 (.tmp 7) (.tmp 71) rfl w10.heap.size (by rfl) (atc a Ap cp Ac cc).toArray (by rfl) 29 zeroC.toArray (HK0.out.alloc _) HSz.out rfl (by rfl) ?_; intro w11 k11 c11 l11; have K11 := Lib.hid k11; have C11 := Lib.hid c11; clear k11 c11 l11)
                | (refine wpList_storeBk rfl 33 (.tmp 8) (.tmp 72) rfl (w10.heap.size + 1) (by rfl) zeroN.toArray (by rfl) 33 zeroN.toArray (Bk.chg (by have := Bk.new (w10.alloc (.cells zeroC.toArray 29)) 33 zeroN.toArray; rwa [World.size_alloc] at this) C11.out (by omega)) HSn.out rfl (by rfl) ?_; intro w12 k12 c12 l12; have K12 := Lib.hid k12; have C12 := Lib.hid c12; clear k12 c12 l12))
              have HB1012 : Hid (Below w10.heap.size w10 w12) := by
                have h1 := (heads w10 zeroC zeroN 29 33).1
                have h2 := h1.trans (C11.out.below (fun k e => Nat.le_of_eq e.symm) h1.size)
                exact h2.trans (C12.out.below (fun k e => by omega) h2.size)
              have HB12 := Lib.hid (HB10.out.trans (HB1012.out.mono HB10.out.size))
              have KA := Lib.hid (K11.out.chg C12.out (by omega))
              have KN := K12
              have HM12 := Lib.hid (HM10.out.bel HB1012.out)
              obtain ⟨h4, h5, h6⟩ := HW6.out w12 HB12.out
              have HS12 := Lib.hid h4
              have HP12 := Lib.hid h5
              have HQ12 := Lib.hid h6
              clear h4 h5 h6
              have HL10 : Hid (w.heap.size + 2 < w10.heap.size) := Nat.lt_of_lt_of_le HS6.out.lt HB10.out.size
              obtain ⟨ga, hga⟩ : ∃ ga, ga = w10.heap.size := ⟨_, rfl⟩
              rw [← hga] at KA KN HL10 ⊢
              clear hga HK0 K11 K12 C11 C12 HB1012 HDa HM10 HW6 HS6 HP6 HQ6 HL6 HB10
              have x0 := KN.out.cell 0
              simp [nt, zeroN] at x0
              have HL6' : Hid (Am w12 (fun k => w.heap.size + 2 < k) a Ap cp Ac cc) := HM12.out.mono fun k _ hk => by have := HLs6.out; omega
              go_upto_region 20 with fail
              have HR12 := Lib.hid (HBq.out w12 HQ12.out)
              clear HBx HBq hr4 hr3 hxl x0 HM12
              rcases Nat.eq_zero_or_pos q2.length with h0 | hpos
              · have HDu : Hid (D = .ok ⟨g, zeroA, []⟩) := by rw [Hid, HDe.out]; unfold updC; rw [if_pos h0]
                have z0 : ((q2.length : Int) == 0) = true := by rw [beq_iff_eq]; omega
                clear HDe
                go_upto_region 21 with fail
                refine wp_region_lit ?_
                go_wp2_with (first
                  | (refine wpList_loadBk rfl 31 (.tmp 4) rfl (w.heap.size + 2) (by rfl) 31 (upc A5 g.length c5 zeroC none 0 0).toArray _ HS12.out.k4 Tryz.underlying31 (by rfl) HSu.out ?_)
                  | (refine wpList_storeBk rfl 31 (.tmp 2) (.tmp 85) rfl w.heap.size (by rfl) (upc A5 g.length c5 zeroC none 0 0).toArray (by rfl) 31 zeroUC.toArray HS12.out.k2 HSu.out rfl (by rfl) ?_; intro wx kx cx lx; have Kx := Lib.hid kx; have Cx := Lib.hid cx; have Zx := Lib.hid (HS12.out.k3.chg cx (by omega)); have Bx := Lib.hid (HS12.out.bel.trans (cx.below (fun k e => Nat.le_of_eq e.symm) HS12.out.bel.size)); clear kx cx lx)
                  | (refine wpList_storeBk rfl 33 (.tmp 3) (.tmp 86) rfl (w.heap.size + 1) (by rfl) zeroN.toArray (by rfl) 33 zeroN.toArray Zx.out HSn.out rfl (by rfl) ?_; intro wy ky cy ly; have Ky := Lib.hid ky; have Cy := Lib.hid cy; have By := Lib.hid (Bx.out.trans (cy.below (fun k e => by omega) Bx.out.size)); have K10 := Lib.hid (Kx.out.chg cy (by omega)); clear ky cy ly))
                refine bodyPost_ret (res_cc rfl _ _ w.heap.size (w.heap.size + 1) 31 33 (upc A5 g.length c5 zeroC none 0 0).toArray zeroN.toArray (0, 0) (0, 0) _ _ rfl K10.out Tryz.underlying31 rfl HSu.out rfl Ky.out Tryz.underlying33 rfl HSn.out) rfl (HQ3.out ⟨g, zeroA, []⟩ A5 c5 none 0 none 0 none 0 _ HDu.out ⟨((HP12.out.chg Cx.out fun k _ hk e => by omega).chg Cy.out fun k _ hk e => by omega).mono fun k _ hk => by omega, Am.zero _ _, Pw.nil_ _ _⟩ By.out)
              · have z0 : ((q2.length : Int) == 0) = false := by rw [beq_eq_false_iff_ne]; omega
                have hne : ¬ q2.length = 0 := by omega
                have HHs := Lib.hid (fun (w' : World) (j : Nat) (hj : j ≤ 8) => refHas_any a Ap Ac cp cc j hj w')
                have HDm : Hid (∀ k : Nat, 1 ≤ k → k ≤ 3 → (∀ j : Nat, 1 ≤ j → j < k → bitI a.has j = true) → bitI a.has k = false → D = .err 3 [UInt8.ofNat k]) := fun k h1 h3 hp hn => by
                  have e := missK_at h1 h3 hp hn
                  rw [HDe.out]; unfold updC; rw [if_neg hne, e, if_pos (by omega)]
                have HDn : Hid ((∀ j : Nat, 1 ≤ j → j < 4 → bitI a.has j = true) → (nlri.dec q2 = none → D = .err 10 []) ∧ (∀ h, nlri.dec q2 = some h → D = .ok ⟨g, a, h⟩)) := fun h => by
                  have e := missK_no h
                  rw [HDe.out]
                  unfold updC
                  rw [if_neg hne, e, if_neg (by omega)]
                  exact ⟨fun h2 => by rw [h2], fun h3 h2 => by rw [h2]⟩
                have HW12 : Hid (∀ w', Below w12.heap.size w12 w' → RS w (upc A5 g.length c5 zeroC none 0 0) w' ∧ Pw w' (fun k => w.heap.size + 2 < k) A5 c5 g ∧ Am w' (fun k => w.heap.size + 2 < k) a Ap cp Ac cc ∧ Bn w' (fun k => k < w.heap.size) A42 c42 q2 ∧ Bk w' ga 29 (atc a Ap cp Ac cc).toArray) := fun w' h => ⟨HS12.out.go h, HP12.out.bel h, HL6'.out.bel h, HR12.out.bel h, KA.out.below h KA.out.lt⟩
                clear HDe hpos hne HP12 HL6' HR12 HQ12 KN
                generalize bitI a.has = bt at *
                have HCl : Hid ((atc a Ap cp Ac cc).length = 9) := rfl
                go_wp2_with fail
                go_loopw [9] (fun v9 wr => ∃ k : Nat, 1 ≤ k ∧ k ≤ 4 ∧ v9 = .int .i64 k ∧ (∀ j : Nat, 1 ≤ j → j < k → bt j = true) ∧ Below w12.heap.size w12 wr) (fun v9 _ => 4 - (intOf v9).toNat)
                case atStart => exact ⟨1, by omega, by omega, rfl, fun j h1 h2 => by omega, Below.refl _ _⟩
                case round =>
                  obtain ⟨k, hk1, hk4, rfl, hp, hb⟩ := hrel
                  have HPk := Lib.hid hp
                  have HB := Lib.hid hb
                  obtain ⟨h1, h2, h3, h4, h5⟩ := HW12.out wr hb
                  have RSr := Lib.hid h1
                  have HPr := Lib.hid h2
                  have HAr := Lib.hid h3
                  have HRr := Lib.hid h4
                  have KAr := Lib.hid h5
                  clear hp hb h1 h2 h3 h4 h5
                  by_cases hlt : k ≤ 3
                  · have hlt' : (k : Int) ≤ 3 := by omega
                    have HHx := Lib.hid (HHs.out wr k (by omega))
                    rcases hbk : bt k with _ | _
                    · rw [hbk] at HHx
                      have HDe := Lib.hid (HDm.out k hk1 hlt HPk.out hbk)
                      have e8 : IntKind.u8.wrap (k : Int) = (k : Int) := by
                        have : k = 1 ∨ k = 2 ∨ k = 3 := by omega
                        rcases this with rfl | rfl | rfl <;> rfl
                      clear hbk
                      go_wp2_with (first
                        | (refine wpList_loadBk rfl 29 (.tmp 7) rfl ga (by rfl) 29 (atc a Ap cp Ac cc).toArray _ KAr.out Tryz.underlying29 (by rfl) HSz.out ?_)
                        | (go_at_call 32; refine HHx.out.mono ?_; rintro e w13 ⟨rfl, h⟩; have HB13 := Lib.hid (HB.out.trans (h.mono HB.out.size)); have RS13 := Lib.hid (RSr.out.go h); clear h)
                        | (go_at_call 28; refine (HNo.out _ _ _ _ _).mono ?_; rintro e wn ⟨rfl, h⟩; have HSn7 := Lib.hid ((RS13.out.go ((Below.refl _ _).alloc (Nat.le_refl _) _)).go h); have HBn := Lib.hid h; clear h)
                        | (refine wpList_storeBk rfl 31 (.tmp 2) (.tmp 99) rfl w.heap.size (by rfl) zeroUC.toArray (by rfl) 31 zeroUC.toArray HSn7.out.k2 HSu.out rfl (by rfl) ?_; intro wx kx cx lx; have Kx := Lib.hid kx; have Cx := Lib.hid cx; have Zx := Lib.hid (HSn7.out.k3.chg cx (by omega)); have Bx := Lib.hid (HSn7.out.bel.trans (cx.below (fun k e => Nat.le_of_eq e.symm) HSn7.out.bel.size)); clear kx cx lx)
                        | (refine wpList_storeBk rfl 33 (.tmp 3) (.tmp 100) rfl (w.heap.size + 1) (by rfl) (nt 3 3 (some ⟨w13.heap.size, 0, none⟩) 1 1).toArray (by rfl) 33 zeroN.toArray Zx.out HSn.out rfl (by rfl) ?_; intro wy ky cy ly; have Ky := Lib.hid ky; have Cy := Lib.hid cy; have By := Lib.hid (Bx.out.trans (cy.below (fun k e => by omega) Bx.out.size)); have K10 := Lib.hid (Kx.out.chg cy (by omega)); clear ky cy ly))
                      have hN : Bn wn (fun _ => True) (some ⟨w13.heap.size, 0, none⟩) 1 [UInt8.ofNat k] := by
                        have hr : Rg (w13.alloc (.cells #[.int .u8 (k : Int)] 5)) (fun b => b = w13.heap.size) 1 (some ⟨w13.heap.size, 0, none⟩) 1 [Value.int .u8 (k : Int)] := Rg.new w13 5 1 1 #[.int .u8 (k : Int)] rfl
                        have e : bv [UInt8.ofNat k] = [Value.int .u8 (k : Int)] := by
                          have : k = 1 ∨ k = 2 ∨ k = 3 := by omega
                          rcases this with rfl | rfl | rfl <;> rfl
                        have h1 : Bn (w13.alloc (.cells #[.int .u8 (k : Int)] 5)) (fun b => b = w13.heap.size) (some ⟨w13.heap.size, 0, none⟩) 1 [UInt8.ofNat k] := ⟨(fun h => by cases h), Nat.le_refl _, by decide, by rw [e]; exact hr⟩
                        exact (h1.bel HBn.out).mono fun j _ hj => trivial
                      refine bodyPost_ret (res_cc rfl _ _ w.heap.size (w.heap.size + 1) 31 33 zeroUC.toArray (nt 3 3 (some ⟨w13.heap.size, 0, none⟩) 1 1).toArray (0, 0) (0, 0) _ _ rfl K10.out Tryz.underlying31 rfl HSu.out rfl Ky.out Tryz.underlying33 rfl HSn.out) rfl (HQ2.out 3 [UInt8.ofNat k] _ 1 _ HDe.out (bn_far (bn_far hN HSn7.out.k2 (nob_upc nob_zero) Cx.out) Zx.out nob_zeroN Cy.out) By.out)
                    · rw [hbk] at HHx
                      have HP2 : Hid (∀ j : Nat, 1 ≤ j → j < k + 1 → bt j = true) := fun j h1 h2 => by
                        rcases Nat.lt_or_ge j k with h | h
                        · exact HPk.out j h1 h
                        · obtain rfl : j = k := by omega
                          exact hbk
                      clear hbk
                      go_wp2_with (first
                        | (refine wpList_loadBk rfl 29 (.tmp 7) rfl ga (by rfl) 29 (atc a Ap cp Ac cc).toArray _ KAr.out Tryz.underlying29 (by rfl) HSz.out ?_)
                        | (go_at_call 32; refine HHx.out.mono ?_; rintro e w13 ⟨rfl, h⟩; have HB13 := Lib.hid (HB.out.trans (h.mono HB.out.size)); have RS13 := Lib.hid (RSr.out.go h); clear h))
                      go_roundw
                      case rel => exact ⟨k + 1, by omega, by omega, by go_num, HP2.out, HB13.out⟩
                      case measure => simp [intOf]; omega
                  · obtain rfl : k = 4 := by omega
                    have HDe := Lib.hid (HDn.out HPk.out)
                    have HNd := Lib.hid (refNlri_dec A42 c42 q2 wr hq2l HRr.out.bs)
                    obtain ⟨g2, hg⟩ : ∃ g, g = gOf (nlri.dec q2) := ⟨_, rfl⟩
                    obtain ⟨ok, hok⟩ : ∃ k, k = okOf (nlri.dec q2) := ⟨_, rfl⟩
                    rw [← hg, ← hok] at HNd
                    have HGg := Lib.hid hg
                    have HOk := Lib.hid hok
                    clear hg hok HHs HDm HDn HW12
                    go_upto_region 28 with (go_at_call 30; refine HNd.out.mono ?_; rintro e w16 ⟨A16, c16, rfl, h1, h⟩; have HH16 := Lib.hid h1; have HS16 := Lib.hid (RSr.out.go h); have HP16 := Lib.hid (HPr.out.bel h); have HA16 := Lib.hid (HAr.out.bel h); have KA16 := Lib.hid (KAr.out.below h KAr.out.lt); have HLr16 := Lib.hid RSr.out.lt; have y0 := HS16.out.k4.cell 10; have f0 := HS16.out.k4.free 10; simp [upc, zeroC] at y0; clear h1 h)
                    have hc17 : Chg (fun k => k = w.heap.size + 2) w16 (w16.setCell ⟨w.heap.size + 1 + 1, 10, none⟩ (.slice A16 g2.length c16)) := (Chg.refl (fun k => k = w.heap.size + 2) w16).put (.inl rfl) _
                    have hk17 : Bk (w16.setCell ⟨w.heap.size + 1 + 1, 10, none⟩ (.slice A16 g2.length c16)) (w.heap.size + 2) 31 (upc A5 g.length c5 zeroC A16 g2.length c16).toArray := HS16.out.k4.put 10 (.slice A16 g2.length c16)
                    generalize w16.setCell ⟨w.heap.size + 1 + 1, 10, none⟩ (.slice A16 g2.length c16) = w17 at *
                    have HS17 := Lib.hid (HS16.out.upd hc17 hk17)
                    have hga2 := HL10.out
                    have hlr := HLr16.out
                    have HP17 := Lib.hid (HP16.out.chg hc17 fun k _ hk e => by omega)
                    have HA17 := Lib.hid (HA16.out.chg hc17 fun k _ hk e => by omega)
                    have KA17 := Lib.hid (KA16.out.chg hc17 (by omega))
                    have HH17 := Lib.hid ((HH16.out.chg hc17 fun k _ hk e => by omega).mono (H := fun k => w.heap.size + 2 < k) fun k _ hk => by omega)
                    clear y0 f0 hc17 hk17 HS16 HP16 HA16 HH16 KA16 HNd RSr HPr HAr HRr KAr
                    rcases hd : nlri.dec q2 with _ | gg
                    · have HDf := Lib.hid (HDe.out.1 hd)
                      obtain rfl : ok = false := by rw [HOk.out, hd]; rfl
                      clear HDe hd HGg HOk
                      go_wp2_with (first
                        | (go_at_call 28; refine (HNo.out _ _ _ _ _).mono ?_; rintro e wn ⟨rfl, h⟩; have HSn7 := Lib.hid (HS17.out.go h); clear h)
                        | (refine wpList_storeBk rfl 31 (.tmp 2) (.tmp 110) rfl w.heap.size (by rfl) zeroUC.toArray (by rfl) 31 zeroUC.toArray HSn7.out.k2 HSu.out rfl (by rfl) ?_; intro wx kx cx lx; have Kx := Lib.hid kx; have Cx := Lib.hid cx; have Zx := Lib.hid (HSn7.out.k3.chg cx (by omega)); have Bx := Lib.hid (HSn7.out.bel.trans (cx.below (fun k e => Nat.le_of_eq e.symm) HSn7.out.bel.size)); clear kx cx lx)
                        | (refine wpList_storeBk rfl 33 (.tmp 3) (.tmp 111) rfl (w.heap.size + 1) (by rfl) (nt 3 10 none 0 0).toArray (by rfl) 33 zeroN.toArray Zx.out HSn.out rfl (by rfl) ?_; intro wy ky cy ly; have Ky := Lib.hid ky; have Cy := Lib.hid cy; have By := Lib.hid (Bx.out.trans (cy.below (fun k e => by omega) Bx.out.size)); have K10 := Lib.hid (Kx.out.chg cy (by omega)); clear ky cy ly))
                      refine bodyPost_ret (res_cc rfl _ _ w.heap.size (w.heap.size + 1) 31 33 zeroUC.toArray (nt 3 10 none 0 0).toArray (0, 0) (0, 0) _ _ rfl K10.out Tryz.underlying31 rfl HSu.out rfl Ky.out Tryz.underlying33 rfl HSn.out) rfl (HQ1.out 10 _ HDf.out By.out)
                    · obtain rfl : g2 = gg := by rw [HGg.out, hd]; rfl
                      obtain rfl : ok = true := by rw [HOk.out, hd]; rfl
                      have HDf := Lib.hid (HDe.out.2 g2 hd)
                      clear HDe hd HGg HOk
                      go_upto_region 30 with fail
                      refine wp_region_lit ?_
                      go_upto_region 31 with (first
                        | (refine wpList_loadBk rfl 29 (.tmp 7) rfl ga (by rfl) 29 (atc a Ap cp Ac cc).toArray _ KA17.out Tryz.underlying29 (by rfl) HSz.out ?_)
                        | (refine wpList_storeMid rfl 29 (.tmp 113) (.tmp 112) rfl (w.heap.size + 2) 1 (by rfl) (atc a Ap cp Ac cc) (by rfl) 31 [.slice A5 g.length c5] zeroC [.slice A16 g2.length c16] HS17.out.k4 rfl HSz.out rfl atc_one ?_; intro w18 k18 c18 l18; have HS18 := Lib.hid (HS17.out.upd (uc' := upc A5 g.length c5 (atc a Ap cp Ac cc) A16 g2.length c16) c18 k18); have C18 := Lib.hid c18; clear k18 c18 l18))
                      refine wp_region_lit ?_
                      go_wp2_with (first
                        | (refine wpList_loadBk rfl 31 (.tmp 4) rfl (w.heap.size + 2) (by rfl) 31 (upc A5 g.length c5 (atc a Ap cp Ac cc) A16 g2.length c16).toArray _ HS18.out.k4 Tryz.underlying31 (by rfl) HSu.out ?_)
                        | (refine wpList_storeBk rfl 31 (.tmp 2) (.tmp 114) rfl w.heap.size (by rfl) (upc A5 g.length c5 (atc a Ap cp Ac cc) A16 g2.length c16).toArray (by rfl) 31 zeroUC.toArray HS18.out.k2 HSu.out rfl (by rfl) ?_; intro wx kx cx lx; have Kx := Lib.hid kx; have Cx := Lib.hid cx; have Zx := Lib.hid (HS18.out.k3.chg cx (by omega)); have Bx := Lib.hid (HS18.out.bel.trans (cx.below (fun k e => Nat.le_of_eq e.symm) HS18.out.bel.size)); clear kx cx lx)
                        | (refine wpList_storeBk rfl 33 (.tmp 3) (.tmp 115) rfl (w.heap.size + 1) (by rfl) zeroN.toArray (by rfl) 33 zeroN.toArray Zx.out HSn.out rfl (by rfl) ?_; intro wy ky cy ly; have Ky := Lib.hid ky; have Cy := Lib.hid cy; have By := Lib.hid (Bx.out.trans (cy.below (fun k e => by omega) Bx.out.size)); have K10 := Lib.hid (Kx.out.chg cy (by omega)); clear ky cy ly))
                      refine bodyPost_ret (res_cc rfl _ _ w.heap.size (w.heap.size + 1) 31 33 (upc A5 g.length c5 (atc a Ap cp Ac cc) A16 g2.length c16).toArray zeroN.toArray (0, 0) (0, 0) _ _ rfl K10.out Tryz.underlying31 rfl HSu.out rfl Ky.out Tryz.underlying33 rfl HSn.out) rfl (HQ3.out ⟨g, a, g2⟩ A5 c5 Ap cp Ac cc A16 c16 _ HDf.out ⟨(((HP17.out.chg C18.out fun k _ hk e => by omega).chg Cx.out fun k _ hk e => by omega).chg Cy.out fun k _ hk e => by omega).mono fun k _ hk => by omega, (((HA17.out.chg C18.out fun k _ hk e => by omega).chg Cx.out fun k _ hk e => by omega).chg Cy.out fun k _ hk e => by omega).mono fun k _ hk => by omega, (((HH17.out.chg C18.out fun k _ hk e => by omega).chg Cx.out fun k _ hk e => by omega).chg Cy.out fun k _ hk e => by omega).mono fun k _ hk => by omega⟩ By.out)
            · have HDe := Lib.hid (HDc.out.1 s d hd)
              rw [hd] at HDa
              clear HDc hd
              go_upto_region 17 with (first
                | (go_at_call 31; refine HDa.out.mono ?_; rintro e w10 ⟨An, cn, rfl, h1, h⟩; have HM10 := Lib.hid h1; have HK0 := Lib.hid (Bk.new w10 29 zeroC.toArray); have HB10 := Lib.hid h; clear h1 h)
                | (refine wpList_storeBk rfl 29 (.tmp 7) (.tmp 71) rfl w10.heap.size (by rfl) zeroC.toArray (by rfl) 29 zeroC.toArray (HK0.out.alloc _) HSz.out rfl (by rfl) ?_; intro w11 k11 c11 l11; have K11 := Lib.hid k11; have C11 := Lib.hid c11; clear k11 c11 l11)
                | (refine wpList_storeBk rfl 33 (.tmp 8) (.tmp 72) rfl (w10.heap.size + 1) (by rfl) (nt 3 (s : Int) An d.length cn).toArray (by rfl) 33 zeroN.toArray (Bk.chg (by have := Bk.new (w10.alloc (.cells zeroC.toArray 29)) 33 zeroN.toArray; rwa [World.size_alloc] at this) C11.out (by omega)) HSn.out rfl (by rfl) ?_; intro w12 k12 c12 l12; have K12 := Lib.hid k12; have C12 := Lib.hid c12; clear k12 c12 l12))
              have HB1012 : Hid (Below w10.heap.size w10 w12) := by
                have h1 := (heads w10 zeroC zeroN 29 33).1
                have h2 := h1.trans (C11.out.below (fun k e => Nat.le_of_eq e.symm) h1.size)
                exact h2.trans (C12.out.below (fun k e => by omega) h2.size)
              have HB12 := Lib.hid (HB10.out.trans (HB1012.out.mono HB10.out.size))
              have KA := Lib.hid (K11.out.chg C12.out (by omega))
              have KN := K12
              have HM12 := Lib.hid (HM10.out.bel HB1012.out)
              obtain ⟨h4, h5, h6⟩ := HW6.out w12 HB12.out
              have HS12 := Lib.hid h4
              have HP12 := Lib.hid h5
              have HQ12 := Lib.hid h6
              clear h4 h5 h6
              have HL10 : Hid (w.heap.size + 2 < w10.heap.size) := Nat.lt_of_lt_of_le HS6.out.lt HB10.out.size
              obtain ⟨ga, hga⟩ : ∃ ga, ga = w10.heap.size := ⟨_, rfl⟩
              rw [← hga] at KA KN HL10 ⊢
              clear hga HK0 K11 K12 C11 C12 HB1012 HDa HM10 HW6 HS6 HP6 HQ6 HL6 HB10
              have x0 := KN.out.cell 0
              simp [nt, zeroN] at x0
              have hga2 := HL10.out
              go_upto_region 18 with fail
              refine region_mv (S := fun w' => Bk w' (ga + 1) 33 (nt 3 (s : Int) An d.length cn).toArray) (A := List.range 4) (sq := [.p 0, .p 1, .c 2, .c 3]) (by kernel_rfl) (by kernel_rfl) ?_ (fun hHeld => ?_)
              · exact KN.out.drew
              repeat ((with_reducible refine mv_at ?_); (first
                | (refine ⟨_, .agg (nt 3 (s : Int) An d.length cn).toArray, rfl, yieldsIf_load_mid (by rfl) 33 (.tmp 8) rfl (ga + 1) 0 (by rfl) (nt 3 (s : Int) An d.length cn) _ (fun w h => (h).all) Tryz.underlying33 (by rfl) HSn.out, ?_⟩)
                | (refine ⟨_, ?_, rfl, Or.inl ⟨by rfl, ?_⟩, ?_⟩; rotate_left; · (intro w hSw; (try dsimp only at hSw); go_simp <;> with_reducible rfl))
                | (refine ⟨_, undef, rfl, Or.inr ⟨by rfl, rfl⟩, ?_⟩)); try simp only [Act.put, List.getElem_toArray, List.getElem_cons_succ, List.getElem_cons_zero, List.setIfInBounds_toArray, List.set_cons_zero, List.set_cons_succ])
              refine mv_c (o := _) rfl (fun K hK => ?_)
              refine wp_storeBk 31 (.tmp 2) (.tmp 76) rfl w.heap.size (by rfl) zeroUC.toArray (by rfl) 31 zeroUC.toArray HS12.out.k2.drew HSu.out rfl (by rfl) ?_
              intro w14 k14 c14 l14
              refine hK.out _ _ ?_ (fun hHeld => ?_)
              · exact KN.out.drew.chg c14 (by omega)
              clear hK K
              try simp only [Act.put, List.getElem_toArray, List.getElem_cons_succ, List.getElem_cons_zero, List.setIfInBounds_toArray, List.set_cons_zero, List.set_cons_succ]
              refine mv_c (o := _) rfl (fun K hK => ?_)
              refine wp_storeBk 33 (.tmp 3) (.tmp 77) rfl (w.heap.size + 1) (by rfl) (nt 3 (s : Int) An d.length cn).toArray (by rfl) 33 zeroN.toArray (HS12.out.k3.drew.chg c14 (by omega)) HSn.out rfl (by rfl) ?_
              intro w15 k15 c15 l15
              refine hK.out _ _ ?_ (fun hHeld => ?_)
              · exact (KN.out.drew.chg c14 (by omega)).chg c15 (by omega)
              clear hK K
              try simp only [Act.put, List.getElem_toArray, List.getElem_cons_succ, List.getElem_cons_zero, List.setIfInBounds_toArray, List.set_cons_zero, List.set_cons_succ]
              refine mv_end ?_
              have K15 := Lib.hid (k14.chg c15 (by omega))
              have K16 := Lib.hid k15
              have HB14 := HS12.out.bel.drew.trans (c14.below (fun k e => Nat.le_of_eq e.symm) HS12.out.bel.drew.size)
              have HB15 := Lib.hid (HB14.trans (c15.below (fun k e => by omega) HB14.size))
              have C14 := Lib.hid c14
              have C15 := Lib.hid c15
              have Z14 := Lib.hid (HS12.out.k2.drew)
              have Z15 := Lib.hid (HS12.out.k3.drew.chg c14 (by omega))
              clear k14 c14 l14 k15 c15 l15 HB14
              go_wp2_with fail
              refine bodyPost_ret (res_cc rfl _ _ w.heap.size (w.heap.size + 1) 31 33 zeroUC.toArray (nt 3 (s : Int) An d.length cn).toArray (0, 0) (0, 0) _ _ rfl K15.out Tryz.underlying31 rfl HSu.out rfl K16.out Tryz.underlying33 rfl HSn.out) rfl (HQ2.out s d An cn _ HDe.out (bn_far (bn_far (HM12.out.bel (Below.refl _ _).drew) Z14.out (nob_upc nob_zero) C14.out) Z15.out nob_zeroN C15.out) HB15.out)
end Go.Proofs.YtaeeeinpelfppaaGreat.upd
