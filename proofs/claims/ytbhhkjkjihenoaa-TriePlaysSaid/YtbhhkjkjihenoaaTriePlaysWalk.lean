/- The walk of the law TriePlays: the Go text returns true and writes nothing that was there. No condition. -/
import Derived.Test.YtbhhkjkjihenoaaTrieDoes
import Derived.Test.YtbhhkjkjihenoaaTrieActs
import Derived.Test.YtbhhkjkjihenoaaTrieRefAb
import Derived.Test.YtbhhkjkjihenoaaTrieSame
import Derived.Deep.DeepCutAuto
import Derived.BigQuiet
namespace Go.Proofs.Ytbhhkjkjihenoaa.triePlays
open Go.RowKit Go.Proofs.Ytbhhkjkjihenoaa.kit Go.Proofs.Ytbhhkjkjihenoaa.mem Go.Proofs.Ytbhhkjkjihenoaa.foot Go.Proofs.Ytbhhkjkjihenoaa.pfx Go.Proofs.Ytbhhkjkjihenoaa.tri
set_option linter.unusedVariables false
set_option linter.unusedSimpArgs false

/-- two new slices of the same keys, later -/
theorem same_two {A A' : Option Addr} {c c' : Nat} {l : List Key} {w0 w1 w0' w1' w : World} (h : NewSl 2 l.length (kv l) w0 A c w1) (h' : NewSl 2 l.length (kv l) w0' A' c' w1') (hb : Below w1.heap.size w1 w) (hb' : Below w1'.heap.size w1' w) :
    Calls Try.prog 22 #[.slice A l.length c, .slice A' l.length c'] w fun e w' => e = .returned (.bool true) ∧ Below w.heap.size w w' := by
  have hl : (l.map pk).length = l.length := by simp
  have hlen : l.length ≤ maxLen := Nat.le_trans h.cap h.max
  have := Same_eq A A' c c' w.heap.size (l.map pk) w (by rw [hl]; exact hlen) (by unfold Ps; rw [hl]; exact (h.later hb).rd) (by unfold Ps; rw [hl]; exact (h'.later hb').rd)
  rw [hl] at this
  exact this.mono fun e w' ⟨h1, m, h2⟩ => ⟨h1, h2 ▸ below_drewN (Below.refl _ _) _⟩
/-- a key in a new slice of keys -/
theorem kv_cell {w : World} {B : Nat} {A : Option Addr} {R : tri.Rows} {L : List Key} (hL : L = R.map (·.1)) (h : Rd w B 2 A L.length (kv L)) {k : Nat} (hk : k < R.length) :
    ∃ b off, A = some ⟨b, off, none⟩ ∧ b < B ∧ w.cell? ⟨b, off + k * 2, none⟩ = some (.int .u32 (adr R[k].1 : Int)) ∧ w.cell? ⟨b, off + k * 2 + 1, none⟩ = some (.int .i64 (R[k].1.length : Int)) := by
  subst hL
  have h2 : Ps w B A ((R.map (·.1)).map pk) := by unfold Ps; rw [List.length_map]; exact h
  obtain ⟨b, off, e, hb, c0, c1⟩ := h2.at_ (k := k) (by simpa using hk)
  exact ⟨b, off, e, hb, by rw [c0]; simp [pk], by rw [c1]; simp [pk]⟩
/-- what the tree and the rows tell of an address -/
theorem far_tells {t : T} (hw : t.Wf []) (f : Key) {o : Option Nat} (h : Best t.rows f t.rows.length o) :
    (oI o = -1 ∧ t.longest f none = none) ∨ ∃ b, ∃ hb : b < t.rows.length, oI o = (b : Int) ∧ t.longest f none = some t.rows[b] := by
  have e := longest_best hw f h
  rcases o with _ | b
  · exact .inl ⟨rfl, e⟩
  · have hb := h.1 b rfl
    exact .inr ⟨b, hb, rfl, by rw [e]; simp [hb]⟩

set_option maxRecDepth 100000 in
set_option maxHeartbeats 4000000 in
theorem core (A0 : Option Addr) (c0 : Nat) (l0 : List (Int × Int × Int × Int)) (pa : Nat) (pn : Int) (x : Nat) (ha : pa < 4294967296) (hx : x < 4294967296) (W : World) (hm0 : l0.length ≤ 9223372036854775807) (h0 : Els 4 RAct W (fun _ => True) A0 l0) :
    Calls Try.prog 5 #[.slice A0 l0.length c0, .agg #[.int .u32 (pa : Int), .int .i64 pn], .int .u32 (x : Int)] W fun e w' => e = .returned (.bool true) ∧ Below W.heap.size W w' := by
  have H0 := Lib.hid h0
  have HPa := Lib.hid ha
  have HXx := Lib.hid hx
  clear h0 ha hx
  obtain ⟨W0, hW0⟩ : ∃ W0, W0 = W.alloc (.cells #[.int .u32 (pa : Int), .int .i64 pn] 30) := ⟨_, rfl⟩
  have HBx : Hid (Bk W0 W.heap.size 30 #[.int .u32 (pa : Int), .int .i64 pn]) := by rw [hW0]; exact Bk.new _ _ _
  have HBW : Hid (Below W.heap.size W W0) := by rw [hW0]; exact (Below.refl _ _).alloc (Nat.le_refl _) _
  have HWs : Hid (W0.heap.size = W.heap.size + 1) := by rw [hW0]; simp [Hid]
  have HW0 := Lib.hid hW0
  clear hW0
  go_enter Try.func5, Try.ntmps5
  go_wp2_with fail
  rw [← HW0.out]
  refine (New_any W0).mono ?_; rintro e w1 ⟨tr, F, rfl, hT, hF, hb1⟩
  have HJ0 : Hid (Play W0.heap.size (w1.alloc (.cells #[] 47)) tr .nil (some ⟨w1.heap.size, 0, none⟩) 0) := by
    have ha : Below w1.heap.size w1 (w1.alloc (.cells #[] 47)) := (Below.refl _ _).alloc (Nat.le_refl _) _
    exact ⟨⟨F, hT.bel ha, hF, fun x hx hf => by rw [sf_some] at hx; have := hT.lt x hf; have : w1.heap.size = x := hx; omega⟩, Row3.empty (Bk.new w1 _ _) hb1.size 3, trivial⟩
  have HB0 : Hid (Below W0.heap.size W0 (w1.alloc (.cells #[] 47))) := hb1.alloc hb1.size _
  clear hT hF hb1
  go_wp2_with fail
  go_loopw [8, 9, 10] (fun v8 v9 v10 wr => ∃ (i : Nat) (t : T) (A : Option Addr) (c : Nat) (b : Bool), i ≤ 60 ∧ v10 = .int .i64 i ∧ v8 = .slice A t.rows.length c ∧ v9 = .bool b ∧ Play W0.heap.size wr tr t A c ∧ t.cnt ≤ i ∧ Below W0.heap.size W0 wr) (fun _ _ v10 _ => 60 - (intOf v10).toNat)
  case atStart => exact ⟨0, .nil, _, 0, false, by omega, rfl, rfl, rfl, HJ0.out, Nat.le_refl _, HB0.out⟩
  case round =>
    obtain ⟨i, t, A, c, bo, hi, rfl, rfl, rfl, hP, hc, hb⟩ := hrel
    have HP := Lib.hid hP
    have HC := Lib.hid hc
    have HB := Lib.hid hb
    clear hP hc hb HJ0 HB0
    by_cases hlt : i < l0.length ∧ i < 60
    · obtain ⟨hl1, hl2⟩ := hlt
      obtain ⟨b, off, kind, v, qa, qn, rfl, hbl, ha, hv0, hv1, q0, q1, q2, q3⟩ := act_at H0.out hl1
      have hBt := HBW.out.trans (HB.out.mono HBW.out.size)
      have q0 := (hBt.cell (p := ⟨b, off + i * 4, none⟩) hbl).trans q0
      have q1 := (hBt.cell (p := ⟨b, off + i * 4 + 1, none⟩) hbl).trans q1
      have q2 := (hBt.cell (p := ⟨b, off + i * 4 + 2, none⟩) hbl).trans q2
      have q3 := (hBt.cell (p := ⟨b, off + i * 4 + 3, none⟩) hbl).trans q3
      have HD := Lib.hid (does_any W0.heap.size tr t A c kind v qa qn wr HP.out HB.out.size (by have := HC.out; omega) ha hv0 hv1)
      generalize hn : t.rows.length = n at *
      clear hn hv0 hv1 ha hBt
      go_wp2_with fail
      refine HD.out.mono ?_; rintro e w2 ⟨t', A', c', rfl, hP2, hc2, hb2⟩
      have HB2 := Lib.hid (HB.out.trans hb2)
      have HC2 : Hid (t'.cnt ≤ i + 1) := by have := HC.out; rw [Hid]; omega
      have HP2 := Lib.hid hP2
      have hbx := HBx.out.below HB2.out (by rw [HWs.out]; omega)
      have HLt := Lib.hid hbx.lt
      have HBx2 := Lib.hid (fun w' (h : Below w2.heap.size w2 w') => hbx.below h hbx.lt)
      have HPp : Hid (∀ w', Below w2.heap.size w2 w' → w'.cell? ⟨W.heap.size, 0, none⟩ = some (.int .u32 (pa : Int)) ∧ w'.cell? ⟨W.heap.size, 1, none⟩ = some (.int .i64 pn)) := fun w' h => ⟨by have := (hbx.below h hbx.lt).cell 0; simpa using this, by have := (hbx.below h hbx.lt).cell 1; simpa using this⟩
      clear hP2 hc2 hb2 HD q0 q1 q2 q3 hbx
      obtain ⟨F, hT, _⟩ := HP2.out.ex
      have hSh := HP2.out.short
      have hWf := HP2.out.wf
      have hRow := HP2.out.row
      have hcnt : t'.rows.length ≤ i + 1 := HC2.out
      have hat := at_tells hWf (kyOf pa pn)
      have hcn := countN_eq hWf hSh HPa.out pn
      obtain ⟨LA, hLA⟩ : ∃ L, L = aboveL t' pa pn := ⟨_, rfl⟩
      have hLA' := hLA.trans (aboveL_eq hWf hSh HPa.out pn)
      obtain ⟨LB, hLB⟩ : ∃ L, L = belowL t' pa pn := ⟨_, rfl⟩
      have hLB' := hLB.trans (belowL_eq hWf hSh HPa.out pn)
      have hlb : LB.length ≤ 61 := by
        rw [hLB', refBelowL, List.length_map]
        exact Nat.le_trans (List.length_filter_le _ _) (by omega)
      obtain ⟨LK, hLK⟩ : ∃ L, L = t'.rows.map (·.1) := ⟨_, rfl⟩
      have hlk : LK.length = t'.rows.length := by rw [hLK]; simp
      rw [← hLB'] at hcn
      have hc9 : t'.cnt < 999990 := by show t'.rows.length < _; omega
      have HAt := Lib.hid (fun w' (h : Below w2.heap.size w2 w') => At_any W0.heap.size t'.rows A' c' pa pn _ _ w' (by omega) hSh HPa.out rfl rfl (hRow.bel h))
      have HLo := Lib.hid (fun w' (h : Below w2.heap.size w2 w') => refLong_any W0.heap.size t'.rows A' c' x w' (by omega) hSh HXx.out (hRow.bel h))
      have HGe := Lib.hid (fun w' (h : Below w2.heap.size w2 w') => GetX pa pn _ w' HPa.out rfl (hT.bel h) hWf)
      have HLg := Lib.hid (fun w' (h : Below w2.heap.size w2 w') => Longest_any x _ w' HXx.out (hT.bel h) hWf rfl)
      have HRb := Lib.hid (fun w' (h : Below w2.heap.size w2 w') => refBelow_any W0.heap.size t'.rows A' c' pa pn LB w' (by omega) hSh HPa.out hLB' (hRow.bel h))
      have HRa := Lib.hid (fun w' (h : Below w2.heap.size w2 w') => refAbove_any W0.heap.size t'.rows A' c' pa pn LA w' (by omega) hSh HPa.out hLA' (hRow.bel h))
      have HTb := Lib.hid (fun w' (h : Below w2.heap.size w2 w') => Below_any pa pn LB w' HPa.out (hT.bel h) hWf hc9 hLB)
      have HTa := Lib.hid (fun w' (h : Below w2.heap.size w2 w') => Above_any pa pn LA w' HPa.out (hT.bel h) hWf hc9 hLA)
      have HCo := Lib.hid (fun w' (h : Below w2.heap.size w2 w') => Count_any pa pn w' HPa.out (hT.bel h) hWf)
      have HLe := Lib.hid (fun w' (h : Below w2.heap.size w2 w') => Len_any w' (hT.bel h))
      have HAl := Lib.hid (fun w' (h : Below w2.heap.size w2 w') => All_any LK w' (hT.bel h) hc9 hLK)
      have HRow := Lib.hid hRow
      have HFar := Lib.hid (fun (o : Option Nat) h => far_tells (o := o) hWf (bitsOf x 32) h)
      have HWf := Lib.hid hWf
      rw [show t'.cnt = t'.rows.length from rfl] at HLe HC2
      have HLK := Lib.hid hLK
      clear hT hSh hWf hRow hc9 hLA hLA' hLB hLB' hLK
      generalize countN t' pa pn = cn at *
      generalize T.longest (bitsOf x 32) none t' = lg at *
      generalize hadX t' (kyOf pa pn) = hd at *
      generalize wasX t' (kyOf pa pn) = ws at *
      generalize hR : t'.rows = R at *
      have HR := Lib.hid hR
      clear hR
      generalize atI R (kyOf pa pn) = zat at *
      have HcA := Lib.hid hat
      have HcN := Lib.hid hcn
      clear hat hcn
      have p0 := (HBx2.out _ (Below.refl _ _)).cell 0
      have p1 := (HBx2.out _ (Below.refl _ _)).cell 1
      simp at p0 p1
      go_wp2_with fail
      refine (HAt.out _ (Below.refl _ _)).mono ?_; rintro e w3 ⟨rfl, hb3⟩
      have HB3 := Lib.hid hb3
      clear hb3 p0 p1
      go_wp2_with fail
      refine (HLo.out _ HB3.out).mono ?_; rintro e w4 ⟨o, rfl, hbest, hb4⟩
      have HB4 := Lib.hid (HB3.out.trans (hb4.mono HB3.out.size))
      have HcF := Lib.hid (HFar.out _ hbest)
      have p0 := (HBx2.out _ HB4.out).cell 0
      have p1 := (HBx2.out _ HB4.out).cell 1
      simp at p0 p1
      clear hbest hb4 HFar
      go_wp2_with fail
      refine (HGe.out _ HB4.out).mono ?_; rintro e w5 ⟨rfl, hb5⟩
      have HB5 := Lib.hid (HB4.out.trans (hb5.mono HB4.out.size))
      clear hb5 p0 p1
      go_wp2_with fail
      refine (HLg.out _ HB5.out).mono ?_; rintro e w6 ⟨rfl, hb6⟩
      have HB6 := Lib.hid (HB5.out.trans (hb6.mono HB5.out.size))
      clear hb6
      go_wp2_with fail
      generalize oI o = zf at *
      obtain ⟨w7, hw7⟩ : ∃ w7, w7 = w6.alloc (.cells #[.int .u32 (lgA lg : Int), .int .i64 (lgN lg : Int)] 30) := ⟨_, rfl⟩
      rw [← hw7]
      have HBc : Hid (Below w2.heap.size w2 w7) := by rw [hw7]; exact HB6.out.alloc HB6.out.size _
      have HKq : Hid (Bk w7 w6.heap.size 30 #[.int .u32 (lgA lg : Int), .int .i64 (lgN lg : Int)]) := by rw [hw7]; exact Bk.new _ _ _
      clear hw7
      go_cut [128] (fun s wx => s = .bool false ∧ Below w2.heap.size w2 wx)
      case first =>
        rcases HcA.out with ⟨rfl, rfl, rfl⟩ | ⟨ia, hia, rfl, rfl, rfl⟩
        case' inr =>
          obtain ⟨_, _, x2⟩ := rv_at R ia hia
          obtain ⟨br, ofr, rfl, hbr, _, c2⟩ := HRow.out.cell hia (by omega) x2
          have y2 := (HBc.out.cell (p := ⟨br, ofr + ia * 3 + 2, none⟩) hbr).trans c2
          have hia' : (ia : Int) < (R.length : Int) := by omega
          have d1 : decide ((0 : Int) ≤ (ia : Int)) = true := by simp
          have d2 : decide ((ia : Int) ≥ (0 : Int)) = true := by simp
          clear x2 c2
        all_goals rcases HcF.out with ⟨rfl, rfl⟩ | ⟨ib, hib, rfl, rfl⟩
        case' inl.inr =>
          obtain ⟨x0, x1, x2⟩ := rv_at R ib hib
          obtain ⟨bs, ofs, e', hbs, _, c0⟩ := HRow.out.cell hib (by omega) x0
          obtain ⟨bs', ofs', e2', _, _, c1⟩ := HRow.out.cell hib (by omega) x1
          obtain ⟨bs3, ofs3, e3', _, _, c2⟩ := HRow.out.cell hib (by omega) x2
          subst e'
          cases e2'
          cases e3'
          have z0 := (HBc.out.cell (p := ⟨bs, ofs + ib * 3, none⟩) hbs).trans c0
          have z1 := (HBc.out.cell (p := ⟨bs, ofs + ib * 3 + 1, none⟩) hbs).trans c1
          have z2 := (HBc.out.cell (p := ⟨bs, ofs + ib * 3 + 2, none⟩) hbs).trans c2
          have hib' : (ib : Int) < (R.length : Int) := by omega
          have d3 : decide ((0 : Int) ≤ (ib : Int)) = true := by simp
          have k0 := HKq.out.cell 0
          have k1 := HKq.out.cell 1
          rw [show lgA (some R[ib]) = adr R[ib].1 from rfl, show lgN (some R[ib]) = R[ib].1.length from rfl] at k0 k1
          rw [show lgV (some R[ib]) = R[ib].2 from rfl, show lgB (some R[ib]) = true from rfl]
          simp at k0 k1
          clear HKq
          clear x0 x1 x2 c0 c1 c2
        case' inr.inr =>
          obtain ⟨x0, x1, x2⟩ := rv_at R ib hib
          obtain ⟨bs, ofs, e', hbs, _, c0⟩ := HRow.out.cell hib (by omega) x0
          obtain ⟨bs', ofs', e2', _, _, c1⟩ := HRow.out.cell hib (by omega) x1
          obtain ⟨bs3, ofs3, e3', _, _, c2⟩ := HRow.out.cell hib (by omega) x2
          obtain ⟨rfl, rfl⟩ : br = bs ∧ ofr = ofs := by cases e'; exact ⟨rfl, rfl⟩
          cases e2'
          cases e3'
          have z0 := (HBc.out.cell (p := ⟨br, ofr + ib * 3, none⟩) hbs).trans c0
          have z1 := (HBc.out.cell (p := ⟨br, ofr + ib * 3 + 1, none⟩) hbs).trans c1
          have z2 := (HBc.out.cell (p := ⟨br, ofr + ib * 3 + 2, none⟩) hbs).trans c2
          have hib' : (ib : Int) < (R.length : Int) := by omega
          have d3 : decide ((0 : Int) ≤ (ib : Int)) = true := by simp
          have k0 := HKq.out.cell 0
          have k1 := HKq.out.cell 1
          rw [show lgA (some R[ib]) = adr R[ib].1 from rfl, show lgN (some R[ib]) = R[ib].1.length from rfl] at k0 k1
          rw [show lgV (some R[ib]) = R[ib].2 from rfl, show lgB (some R[ib]) = true from rfl]
          simp at k0 k1
          clear HKq
          clear x0 x1 x2 c0 c1 c2
        case' inl.inl | inr.inl =>
          have k0 := HKq.out.cell 0
          have k1 := HKq.out.cell 1
          rw [show lgA none = 0 from rfl, show lgN none = 0 from rfl] at k0 k1
          rw [show lgV none = 0 from rfl, show lgB none = false from rfl]
          simp at k0 k1
          clear HKq
        all_goals
          as_aux_lemma =>
            go_quiet (fail)
            go_wp2_with fail
            go_meet
            exact ⟨rfl, below_drewN HBc.out _⟩
      case' rest =>
        obtain ⟨rfl, hb7⟩ := hcut
        have HB7 := Lib.hid hb7
        clear hb7 HBc HcF HB6 HB5 HB4 HB3 HKq
        have p0 := (HBx2.out _ HB7.out).cell 0
        have p1 := (HBx2.out _ HB7.out).cell 1
        simp at p0 p1
        go_upto_region 13 with fail
        go_wp2_with fail
        refine (HRb.out _ HB7.out).mono ?_; rintro e w8 ⟨A8, c8, rfl, hN8⟩
        have HB8 := Lib.hid (HB7.out.trans (hN8.bel.mono HB7.out.size))
        have HN8 := Lib.hid hN8
        clear hN8 p0 p1 HB7
        go_upto_if 135 with fail
        go_cut [19] (fun n wx => n = .int .i64 (cn : Int) ∧ wx = w8)
        case first =>
          have hcn := HcN.out
          clear HcN
          rcases HcA.out with ⟨rfl, rfl, rfl⟩ | ⟨ia, hia, rfl, rfl, rfl⟩
          case' inl =>
            rw [if_neg (by simp)] at hcn
            have e1 : (LB.length : Int) = (cn : Int) := by omega
            clear hcn
            go_wp2_with fail
          case' inr =>
            rw [if_pos rfl] at hcn
            have e1 : (LB.length : Int) + 1 = (cn : Int) := by omega
            have d2 : decide ((ia : Int) ≥ (0 : Int)) = true := by simp
            clear hcn
            go_wp2_with fail
          all_goals
            go_meet
            exact ⟨by first | rfl | rw [e1], rfl⟩
        case' rest =>
          obtain ⟨rfl, hww⟩ := hcut
          rw [hww] at *
          clear hww HcN HcA
          go_upto_region 17 with fail
          go_cut [167] (fun s wx => s = .bool false ∧ Below w2.heap.size w2 wx)
          case first =>
              have p0 := (HPp.out _ HB8.out).1
              have p1 := (HPp.out _ HB8.out).2
              have hrl : decide ((R.length : Int) < 100) = true := by simp; omega
              go_region_held3 (fun w' => w'.cell? ⟨W.heap.size, 0, none⟩ = some (.int .u32 (pa : Int)) ∧ w'.cell? ⟨W.heap.size, 1, none⟩ = some (.int .i64 pn)) (exact ⟨by go_simp, by go_simp⟩) (first
                | (go_at_call 28; refine (HTa.out _ (HB8.out.drew)).mono ?_; rintro e wa ⟨Aa, ca, rfl, hn⟩; go_must (have HNa := Lib.hid hn); go_must (have H8a := Lib.hid ((Below.refl w8.heap.size w8).drew.trans hn.bel)); go_must (have HBa := Lib.hid (HB8.out.drew.trans (hn.bel.mono HB8.out.size))); go_must (have p0 := (HPp.out _ HBa.out).1); go_must (have p1 := (HPp.out _ HBa.out).2); clear hn)
                | (go_at_call 29; refine (HRa.out _ HBa.out).mono ?_; rintro e wb ⟨Ab, cb, rfl, hn⟩; go_must (have HNb := Lib.hid hn); go_must (have H8b := Lib.hid (H8a.out.trans (hn.bel.mono H8a.out.size))); go_must (have HBb := Lib.hid (HBa.out.trans (hn.bel.mono HBa.out.size))); go_must (have p0 := (HPp.out _ HBb.out).1); go_must (have p1 := (HPp.out _ HBb.out).2); clear hn)
                | (go_at_call_of 22 (Value.slice Aa LA.length ca); refine (same_two HNa.out HNb.out HNb.out.bel (Below.refl _ _)).mono ?_; rintro e wc ⟨rfl, hb⟩; go_must (have H8c := Lib.hid (H8b.out.trans (hb.mono H8b.out.size))); go_must (have HBc := Lib.hid (HBb.out.trans (hb.mono HBb.out.size))); go_must (have p0 := (HPp.out _ HBc.out).1); go_must (have p1 := (HPp.out _ HBc.out).2); clear hb)
                | (go_at_call 30; refine (HTb.out _ HBc.out).mono ?_; rintro e wd ⟨Ad, cd, rfl, hn⟩; go_must (have HNd := Lib.hid hn); go_must (have HBd := Lib.hid (HBc.out.trans (hn.bel.mono HBc.out.size))); go_must (have H8d := Lib.hid (H8c.out.trans (hn.bel.mono H8c.out.size))); go_must (have p0 := (HPp.out _ HBd.out).1); go_must (have p1 := (HPp.out _ HBd.out).2); clear hn)
                | (go_at_call_of 22 (Value.slice Ad LB.length cd); refine (same_two HNd.out HN8.out (Below.refl _ _) H8d.out).mono ?_; rintro e we ⟨rfl, hb⟩; go_must (have HBe := Lib.hid (HBd.out.trans (hb.mono HBd.out.size))); go_must (have p0 := (HPp.out _ HBe.out).1); go_must (have p1 := (HPp.out _ HBe.out).2); clear hb)
                | (go_at_call 31; refine (HCo.out _ HBe.out).mono ?_; rintro e wf ⟨rfl, hb⟩; go_must (have HBf := Lib.hid (HBe.out.trans (hb.mono HBe.out.size))); go_must (have p0 := (HPp.out _ HBf.out).1); go_must (have p1 := (HPp.out _ HBf.out).2); clear hb)
                | (go_at_call 32; refine (HLe.out _ HBf.out).mono ?_; rintro e w' ⟨rfl, rfl⟩))
              go_wp2_with fail
              go_meet
              exact ⟨rfl, HBf.out⟩
          case' rest =>
            obtain ⟨rfl, hb9⟩ := hcut
            have HB9 := Lib.hid hb9
            clear hb9 HB8 HN8
            go_wp2_with fail
            refine (HAl.out _ HB9.out).mono ?_; rintro e wl ⟨Al, cl, rfl, hNl⟩
            have HBl := Lib.hid (HB9.out.trans (hNl.bel.mono HB9.out.size))
            have HNl := Lib.hid hNl
            rw [hlk]
            clear hNl hlk
            go_wp2_with fail
            go_loopw [21] (fun v21 wr => ∃ k : Nat, k ≤ R.length ∧ v21 = .int .i64 k ∧ Below wl.heap.size wl wr) (fun v21 _ => R.length - (intOf v21).toNat)
            case atStart => exact ⟨0, by omega, rfl, Below.refl _ _⟩
            case round =>
              obtain ⟨k, hk, rfl, hbk⟩ := hrel
              have HBk := Lib.hid hbk
              have HB2k := Lib.hid (HBl.out.trans (hbk.mono HBl.out.size))
              clear hbk
              by_cases hkl : k < R.length
              · obtain ⟨bq, ofq, rfl, _, y0, y1⟩ := kv_cell HLK.out (HNl.out.later HBk.out).rd hkl
                obtain ⟨x0, x1, x2⟩ := rv_at R k hkl
                obtain ⟨bs, ofs, rfl, hbs, _, c0⟩ := HRow.out.cell hkl (by omega) x0
                obtain ⟨bs', ofs', e2', _, _, c1⟩ := HRow.out.cell hkl (by omega) x1
                cases e2'
                have z0 := (HB2k.out.cell (p := ⟨bs, ofs + k * 3, none⟩) hbs).trans c0
                have z1 := (HB2k.out.cell (p := ⟨bs, ofs + k * 3 + 1, none⟩) hbs).trans c1
                clear x0 x1 x2 c0 c1 hbs
                have hia' : (k : Int) < (R.length : Int) := by omega
                go_upto_region 25 with fail
                go_quiet (fail)
                go_wp2_with fail
                go_roundw
                case rel => exact ⟨k + 1, by omega, by go_num, below_drewN HBk.out _⟩
                case measure => simp [intOf]; omega
              · obtain rfl : k = R.length := by omega
                go_wp2_with fail
                go_roundw
                case rel =>
                  have hPl := HP2.out.bel HB2k.out
                  exact ⟨i + 1, t', A', c', true, by omega, by go_num, by rw [HR.out], rfl, hPl, by have h1 := HC2.out; have h2 : t'.rows.length = R.length := congrArg List.length HR.out; show t'.rows.length ≤ _; omega, HB2.out.trans (HB2k.out.mono HB2.out.size)⟩
                case measure => simp [intOf]; omega
    · by_cases hl1 : i < l0.length
      case' pos =>
        have e2 : decide ((i : Int) < 60) = false := by simp; omega
        have e1 : decide ((i : Int) < (l0.length : Int)) = true := by simp; omega
        go_wp2_with fail
      case' neg =>
        have e1 : decide ((i : Int) < (l0.length : Int)) = false := by simp; omega
        go_wp2_with fail
      all_goals
        refine (tri.lives_any _).mono ?_; rintro e w9 ⟨rfl, hb9⟩
        have HB9 := Lib.hid (HB.out.trans (hb9.mono HB.out.size))
        clear hb9
        go_wp2_with fail
        go_ret
        exact ⟨rfl, HBW.out.trans (HB9.out.mono HBW.out.size)⟩

set_option maxRecDepth 100000 in
theorem walk {H : Type} {enc : TypeId × Value → H} {W : World} {base : Nat} {v0 v1 : Value} {d0 d1 : DataW H} {p0 p1 : List MemPlace}
    (hv0 : Value.okWide Try.prog W .any base 22 v0) (h0 : DataW.Trod enc Try.prog W 0 (fun _ => true) true 22 v0 d0 p0)
    (hv1 : Value.okWide Try.prog W .any base 30 v1) (h1 : DataW.Trod enc Try.prog W 0 (fun _ => true) true 30 v1 d1 p1)
    (a2 : Int) (w2 : (Lit.int .u32 a2).wf = true) :
    Calls Try.prog 5 #[v0, v1, .int .u32 a2] W fun e w' => e = .returned (.bool true) ∧ Below W.heap.size W w' := by
  obtain ⟨A0, c0, l0, rfl, _, hc0, hm0, he0⟩ := open_sl Try.underlying22 (opens_sl keeps_act Try.underlying22 (by kernel_rfl) (by omega) opens_act) hv0 h0
  obtain ⟨cs1, p, rfl, hp⟩ := open_st Try.underlying30 opens_pfx hv1 h1
  obtain ⟨a, ha, _, e, _⟩ := pfx_eq hp
  obtain rfl := arr_eq e
  have hx := wf_u32 w2
  obtain ⟨x, rfl⟩ := Int.eq_ofNat_of_zero_le hx.1
  unfold maxLen at hm0
  exact core A0 c0 l0 a p.2 x ha (by omega) W (by omega) he0
end Go.Proofs.Ytbhhkjkjihenoaa.triePlays
