/- What confluenceref08.Norm returns. Condition: at most 10^5 pieces and numbers together. -/
import Derived.Test.YtaeeeinpelfppaaGreatRefAttr
import Derived.Test.YtaeeeinpelfppaaGreatRefNorm04
namespace Go.Proofs.YtaeeeinpelfppaaGreat.attr
open Go.RowKit Go.Proofs.YtaeeeinpelfppaaGreat.kit Go.Proofs.YtaeeeinpelfppaaGreat.mem Go.Proofs.YtaeeeinpelfppaaGreat.foot Go.Proofs.YtaeeeinpelfppaaGreat.nums Go.Proofs.YtaeeeinpelfppaaGreat.asn Go.Proofs.YtaeeeinpelfppaaGreat.pth
set_option linter.unusedVariables false
set_option linter.unusedSimpArgs false
/-- the bits from the first on below the k-th -/
def hasU (h : Int) (k : Nat) : Int := h % 2 ^ k - h % 2
theorem hasU_step (h : Int) (k : Nat) (hk : k ≤ 8) : hasU h (k + 1) = hasU h k + (if bitI h k = true then 2 ^ k else 0) := by
  have : k = 0 ∨ k = 1 ∨ k = 2 ∨ k = 3 ∨ k = 4 ∨ k = 5 ∨ k = 6 ∨ k = 7 ∨ k = 8 := by omega
  unfold hasU bitI
  rcases this with rfl | rfl | rfl | rfl | rfl | rfl | rfl | rfl | rfl <;>
    (simp only [decide_eq_true_eq, Nat.reduceAdd, Int.reducePow, Nat.zero_add]; split <;> omega)
theorem hasU_lt (h : Int) (k : Nat) (hk : k ≤ 9) : -1 ≤ hasU h k ∧ hasU h k < 512 := by
  have : k = 0 ∨ k = 1 ∨ k = 2 ∨ k = 3 ∨ k = 4 ∨ k = 5 ∨ k = 6 ∨ k = 7 ∨ k = 8 ∨ k = 9 := by omega
  unfold hasU
  rcases this with rfl | rfl | rfl | rfl | rfl | rfl | rfl | rfl | rfl | rfl <;> (simp only [Int.reducePow]; omega)
set_option maxRecDepth 100000 in
set_option maxHeartbeats 8000000 in
theorem refNorm_any (a : Atr) (Ap Ac : Option Addr) (cp cc : Nat) (G : Foot) (w : World) (hm : Am w G a Ap cp Ac cc) (hp : nsz a.path ≤ 100000) (hcm : a.comms.length ≤ 999990) :
    Calls Tryz.prog 66 #[.agg (atc a Ap cp Ac cc).toArray] w (RetA (normA a) w) := by
  have HM := Lib.hid hm
  have HHas : Hid (∀ (k : Nat) (w' : World), k ≤ 8 → Calls Tryz.prog 32 #[.agg (atc a Ap cp Ac cc).toArray, .int .i64 (k : Int)] w' fun e w2 => e = .returned (.bool (bitI a.has k)) ∧ Below w'.heap.size w' w2) := fun k w' hk => refHas_any a Ap Ac cp cc k hk w'
  have HPn : Hid (∀ w', Below w.heap.size w w' → Calls Tryz.prog 102 #[.slice Ap a.path.length cp] w' (RetP (normS a.path) w')) := fun w' hb => refNorm04_any Ap cp a.path G w' hp (hm.sp.els.bel keeps_seg hb)
  have HSe : Hid (∀ w', Below w.heap.size w w' → Calls Tryz.prog 103 #[.slice Ac a.comms.length cc] w' fun e w2 => RetNums (setN a.comms) w' e w2) := fun w' hb => refSet02 Ac cc a.comms G w' hcm (hm.sn.bel hb)
  have HW := Lib.hid hm.wf
  have HW32 := Lib.hid hm.w32
  have HSz : Hid ((Tryz.prog.info? 29).map (·.size) = some 9) := info_atr
  obtain ⟨b1, hb1⟩ : ∃ b, b = bitI a.has 1 := ⟨_, rfl⟩
  have HH1 := Lib.hid (fun w' => HHas.out 1 w' (by omega))
  rw [← hb1] at HH1
  obtain ⟨b2, hb2⟩ : ∃ b, b = bitI a.has 2 := ⟨_, rfl⟩
  have HH2 := Lib.hid (fun w' => HHas.out 2 w' (by omega))
  rw [← hb2] at HH2
  obtain ⟨b3, hb3⟩ : ∃ b, b = bitI a.has 3 := ⟨_, rfl⟩
  have HH3 := Lib.hid (fun w' => HHas.out 3 w' (by omega))
  rw [← hb3] at HH3
  obtain ⟨b4, hb4⟩ : ∃ b, b = bitI a.has 4 := ⟨_, rfl⟩
  have HH4 := Lib.hid (fun w' => HHas.out 4 w' (by omega))
  rw [← hb4] at HH4
  obtain ⟨b5, hb5⟩ : ∃ b, b = bitI a.has 5 := ⟨_, rfl⟩
  have HH5 := Lib.hid (fun w' => HHas.out 5 w' (by omega))
  rw [← hb5] at HH5
  obtain ⟨b7, hb7⟩ : ∃ b, b = bitI a.has 7 := ⟨_, rfl⟩
  have HH7 := Lib.hid (fun w' => HHas.out 7 w' (by omega))
  rw [← hb7] at HH7
  obtain ⟨b8, hb8⟩ : ∃ b, b = bitI a.has 8 := ⟨_, rfl⟩
  have HH8 := Lib.hid (fun w' => HHas.out 8 w' (by omega))
  rw [← hb8] at HH8
  have HN : Hid (normA a = ⟨a.has % 512 - a.has % 2, selI b1 a.orig, selL b2 (normS a.path), selI b3 a.hop, selI b4 a.med, selI b5 a.pref, selI b7 a.aas, selI b7 a.aid, selL b8 (setN a.comms)⟩) := by rw [Hid, hb1, hb2, hb3, hb4, hb5, hb7, hb8]; rfl
  clear hb1 hb2 hb3 hb4 hb5 hb7 hb8 hm
  obtain ⟨N, hN⟩ : ∃ N, N = normA a := ⟨_, rfl⟩
  have HNq := Lib.hid (hN.trans HN.out)
  rw [← hN]
  clear hN HN
  obtain ⟨Q, hQ⟩ : ∃ Q, Q = RetA N w := ⟨_, rfl⟩
  have HQ : Hid (∀ (Ap : Option Addr) (cp : Nat) (Ac : Option Addr) (cc : Nat) (w' : World), Am w' (fun k => w.heap.size + 3 ≤ k) N Ap cp Ac cc → Below w.heap.size w w' → Q (.returned (.agg (atc N Ap cp Ac cc).toArray)) w') := fun Ap cp Ac cc w' h1 h2 => by
    rw [hQ]
    exact ⟨Ap, cp, Ac, cc, rfl, h1.mono (fun k _ hk => by omega), h2⟩
  rw [← hQ]
  clear hQ
  obtain ⟨h0, hh0⟩ : ∃ h0, h0 = a.has % 512 - a.has % 2 := ⟨_, rfl⟩
  have HH0 := Lib.hid hh0
  clear hh0
  obtain ⟨cs, hcs⟩ : ∃ cs, cs = atc a Ap cp Ac cc := ⟨_, rfl⟩
  have HC : Hid (cs.toArray[0]? = some (.int .i64 a.has) ∧ cs.toArray[1]? = some (.int .i64 a.orig) ∧ cs.toArray[2]? = some (.slice Ap a.path.length cp) ∧ cs.toArray[3]? = some (.int .u32 a.hop) ∧ cs.toArray[4]? = some (.int .u32 a.med) ∧ cs.toArray[5]? = some (.int .u32 a.pref) ∧ cs.toArray[6]? = some (.int .u32 a.aas) ∧ cs.toArray[7]? = some (.int .u32 a.aid) ∧ cs.toArray[8]? = some (.slice Ac a.comms.length cc)) := by rw [hcs]; exact ⟨rfl, rfl, rfl, rfl, rfl, rfl, rfl, rfl, rfl⟩
  have HCl : Hid (cs.length = 9) := by rw [hcs]; rfl
  rw [← hcs] at HH1 HH2 HH3 HH4 HH5 HH7 HH8 HHas ⊢
  clear hcs
  have HX0 : Hid (NX w w.heap.size (w.heap.size + 1) (w.heap.size + 1 + 1) cs ⟨0, 0, [], 0, 0, 0, 0, 0, []⟩ none 0 none 0 (((w.alloc (.cells cs.toArray 29)).alloc (.cells zeroC.toArray 29)).alloc (.cells (atc ⟨0, 0, [], 0, 0, 0, 0, 0, []⟩ none 0 none 0).toArray 29))) := by
    have hb1 := Bk.new w 29 cs.toArray
    have hb2 := Bk.new (w.alloc (.cells cs.toArray 29)) 29 zeroC.toArray
    have hb3 := Bk.new ((w.alloc (.cells cs.toArray 29)).alloc (.cells zeroC.toArray 29)) 29 (atc ⟨0, 0, [], 0, 0, 0, 0, 0, []⟩ none 0 none 0).toArray
    have e2 : (w.alloc (.cells cs.toArray 29)).heap.size = w.heap.size + 1 := by simp
    have e3 : ((w.alloc (.cells cs.toArray 29)).alloc (.cells zeroC.toArray 29)).heap.size = w.heap.size + 1 + 1 := by simp
    rw [e2] at hb2
    rw [e3] at hb3
    refine ⟨(hb1.alloc _).alloc _, hb2.alloc _, hb3, ⟨⟨?_, rfl, rfl, rfl, rfl, rfl, rfl⟩, Sp.empty _ _, Sn.empty _ _, fun n hn => by cases hn⟩, (((Below.refl _ _).alloc (Nat.le_refl _) _).alloc (by simp) _).alloc (by simp; omega) _, Nat.le_refl _, by omega, by omega⟩
    rfl
  obtain ⟨w0, hw0⟩ : ∃ w0, w0 = ((w.alloc (.cells cs.toArray 29)).alloc (.cells zeroC.toArray 29)).alloc (.cells (atc ⟨0, 0, [], 0, 0, 0, 0, 0, []⟩ none 0 none 0).toArray 29) := ⟨_, rfl⟩
  rw [← hw0] at HX0
  simp only [zeroC, atc] at hw0
  obtain ⟨hc0, hc1, hc2, hc3, hc4, hc5, hc6, hc7, hc8⟩ := HC.out
  go_enter Tryz.func66, Tryz.ntmps66
  go_upto_region 2 with fail
  generalize hg3 : w.heap.size + 1 + 1 = g3 at HX0 hw0 ⊢
  generalize hg2 : w.heap.size + 1 = g2 at HX0 hw0 ⊢
  generalize hg1 : w.heap.size = g1 at HX0 hw0 ⊢
  simp only [List.length_nil] at hw0
  rw [show (_ : World) = w0 from hw0.symm]
  clear hw0
  go_wp2_with fail
  go_loopw [4] (fun v4 wr => ∃ k : Nat, 1 ≤ k ∧ k ≤ 9 ∧ v4 = .int .i64 k ∧ NX w g1 g2 g3 cs ⟨hasU a.has k, 0, [], 0, 0, 0, 0, 0, []⟩ none 0 none 0 wr) (fun v4 _ => 9 - (intOf v4).toNat)
  case atStart => exact ⟨1, by omega, by omega, rfl, by have e : hasU a.has 1 = 0 := by { unfold hasU; simp }; rw [e]; exact HX0.out⟩
  case round =>
  obtain ⟨k, hk1, hk9, rfl, hx⟩ := hrel
  have HX := Lib.hid hx
  clear hx HX0
  by_cases hk : k ≤ 8
  · have d1 : decide ((k : Int) ≤ 8) = true := by rw [decide_eq_true_iff]; omega
    have HHk := Lib.hid (fun w' => HHas.out k w' hk)
    have HSt := Lib.hid (hasU_step a.has k hk)
    have HLt := Lib.hid (hasU_lt a.has k hk9)
    have HLt2 := Lib.hid (hasU_lt a.has (k + 1) (by omega))
    have HPw : Hid ((2 : Int) ^ k ≤ 256 ∧ (0 : Int) < 2 ^ k) := by
      have : ∀ k : Fin 9, (2 : Int) ^ k.val ≤ 256 ∧ (0 : Int) < 2 ^ k.val := by decide +kernel
      exact this ⟨k, by omega⟩
    generalize bitI a.has k = bk at *
    generalize hasU a.has k = hv at *
    obtain ⟨hv2, hh2⟩ : ∃ x, x = hasU a.has (k + 1) := ⟨_, rfl⟩
    have HH2 := Lib.hid hh2
    rw [← hh2] at HSt HLt2
    clear hh2
    rcases bk with _ | _
    · have e : hv2 = hv := by have := HSt.out; simpa using this
      subst e
      go_wp2_with (first
        | (refine wpList_loadBk rfl 29 (.tmp 1) rfl g1 (by rfl) 29 cs.toArray _ HX.out.a Tryz.underlying29 (by rfl) (by rw [List.size_toArray, HCl.out]; exact HSz.out) ?_)
        | (go_at_call 32; refine (HHk.out _).mono ?_; rintro e wy ⟨rfl, hby⟩; have HX := Lib.hid (HX.out.bel hby); clear hby))
      go_roundw
      case rel => exact ⟨k + 1, by omega, by omega, by go_num, by rw [← HH2.out]; exact HX.out⟩
      case measure => simp [intOf]; omega
    · have HSu : Hid (hv2 = hv + 2 ^ k) := by have := HSt.out; rw [if_pos rfl] at this; exact this
      have HSv : Hid (Value.int .i64 (wrap64 (hv + wrap64 (2 ^ k))) = .int .i64 hv2) := by
        have ew : wrap64 ((2 : Int) ^ k) = 2 ^ k := by
          have : ∀ k : Fin 9, wrap64 ((2 : Int) ^ k.val) = 2 ^ k.val := by decide +kernel
          exact this ⟨k, by omega⟩
        obtain ⟨hp1, hp0⟩ := HPw.out
        obtain ⟨hh0, hh1⟩ := HLt.out
        have e2 : wrap64 (hv + 2 ^ k) = hv + 2 ^ k := by unfold wrap64; omega
        rw [Hid, ew, e2, HSu.out]
      have HWf : Hid ((Lit.int .i64 hv2).wf = true) := by
        have := HLt2.out
        rw [Hid]
        simp [Lit.wf, IntKind.min, IntKind.max, IntKind.signed, IntKind.bits]
        omega
      clear HPw HLt HLt2
      clear HSt
      have p0 := (HX.out.o.cell 0).trans (show _ = some (Value.int .i64 hv) from rfl)
      go_wp2_with (first
        | (refine wpList_loadBk rfl 29 (.tmp 1) rfl g1 (by rfl) 29 cs.toArray _ HX.out.a Tryz.underlying29 (by rfl) (by rw [List.size_toArray, HCl.out]; exact HSz.out) ?_)
        | (go_at_call 32; refine (HHk.out _).mono ?_; rintro e wy ⟨rfl, hby⟩; have HX := Lib.hid (HX.out.bel hby); clear hby; have p0 := (HX.out.o.cell 0).trans (show _ = some (Value.int .i64 hv) from rfl); have pf := HX.out.o.free 0; have pl := HX.out.o.lt))
      go_roundw
      case rel => exact ⟨k + 1, by omega, by omega, by go_num, by rw [← HH2.out, HSv.out]; exact HX.out.put 0 _ rfl ⟨⟨HWf.out, rfl, rfl, rfl, rfl, rfl, rfl⟩, Sp.empty _ _, Sn.empty _ _, fun n hn => by cases hn⟩⟩
      case measure => simp [intOf]; omega
  obtain rfl : k = 9 := by omega
  clear HHas
  obtain ⟨r0, hr0⟩ : ∃ r0 : Atr, r0 = ⟨h0, 0, [], 0, 0, 0, 0, 0, []⟩ := ⟨_, rfl⟩
  have HX : Hid (NX w g1 g2 g3 cs r0 none 0 none 0 wr) := by
    have h := HX.out
    rw [show hasU a.has 9 = h0 from HH0.out.symm] at h
    rw [Hid, hr0]
    exact h
  have HR0 := Lib.hid hr0
  clear hr0
  obtain ⟨r1, hr1⟩ : ∃ r : Atr, r = ⟨h0, selI b1 a.orig, [], 0, 0, 0, 0, 0, []⟩ := ⟨_, rfl⟩
  have HR1 := Lib.hid hr1
  clear hr1
  go_upto_if 21 with (first
    | (refine wpList_loadBk rfl 29 (.tmp 1) rfl g1 (by rfl) 29 cs.toArray _ HX.out.a Tryz.underlying29 (by rfl) (by rw [List.size_toArray, HCl.out]; exact HSz.out) ?_)
    | (go_at_call 32; refine (HH1.out _).mono ?_; rintro e wy ⟨rfl, hby⟩; have HX := Lib.hid (HX.out.bel hby); clear hby))
  go_cut [] (fun wx => NS w g1 g2 g3 cs r1 wx)
  case first =>
    rcases b1 with _ | _
    · go_wp2_with fail
      go_meet
      have hx := HX.out
      rw [HR0.out] at hx
      rw [HR1.out]
      exact ⟨_, _, _, _, hx⟩
    · have kl := HX.out.o.lt
      have ka := HX.out.a.lt
      have k1 := (HX.out.o.cell 1).trans (show _ = some _ from rfl)
      have kf1 := HX.out.o.free 1
      have q1 := (HX.out.a.cell 1).trans hc1
      go_wp2_with fail
      go_meet
      have hx := HX.out
      rw [HR0.out] at hx
      rw [HR1.out]
      exact ⟨_, _, _, _, hx.put 1 _ rfl ⟨⟨hx.m.wf.has, HW.out.orig, hx.m.wf.hop, hx.m.wf.med, hx.m.wf.pref, hx.m.wf.aas, hx.m.wf.aid⟩, hx.m.sp, hx.m.sn, hx.m.w32⟩⟩
  case rest =>
  clear HX
  obtain ⟨Ap1, cp1, Ac1, cc1, hx⟩ := hcut
  have HX := Lib.hid hx
  clear hx
  obtain ⟨r2, hr2⟩ : ∃ r : Atr, r = ⟨h0, selI b1 a.orig, selL b2 (normS a.path), 0, 0, 0, 0, 0, []⟩ := ⟨_, rfl⟩
  have HR2 := Lib.hid hr2
  clear hr2
  go_upto_if 26 with (first
    | (refine wpList_loadBk rfl 29 (.tmp 1) rfl g1 (by rfl) 29 cs.toArray _ HX.out.a Tryz.underlying29 (by rfl) (by rw [List.size_toArray, HCl.out]; exact HSz.out) ?_)
    | (go_at_call 32; refine (HH2.out _).mono ?_; rintro e wy ⟨rfl, hby⟩; have HX := Lib.hid (HX.out.bel hby); clear hby))
  go_cut [] (fun wx => NS w g1 g2 g3 cs r2 wx)
  case first =>
    rcases b2 with _ | _
    · go_wp2_with fail
      go_meet
      have hx := HX.out
      rw [HR1.out] at hx
      rw [HR2.out]
      exact ⟨_, _, _, _, hx⟩
    · have kl := HX.out.o.lt
      have ka := HX.out.a.lt
      have k2 := (HX.out.o.cell 2).trans (show _ = some _ from rfl)
      have kf2 := HX.out.o.free 2
      have q2 := (HX.out.a.cell 2).trans hc2
      go_wp2_with (go_at_call 102; refine (HPn.out _ HX.out.b).mono ?_; rintro e wz ⟨A1, c1, vs, rfl, hL⟩; have HL : Hid (Sp wz (fun k => g3 < k) A1 c1 (normS a.path)) := (Sp.of_lst hL).mono (fun k _ hk => by have := HX.out.o.lt; rcases hk with hk | hk <;> exact Nat.lt_of_lt_of_le this hk); have HX := Lib.hid (HX.out.bel hL.acc.bel); have kl := HX.out.o.lt; have k2 := (HX.out.o.cell 2).trans (show _ = some _ from rfl); have kf2 := HX.out.o.free 2; clear hL)
      go_meet
      have hx := HX.out
      rw [HR1.out] at hx
      rw [HR2.out]
      exact ⟨_, _, _, _, hx.put 2 _ rfl ⟨⟨hx.m.wf.has, hx.m.wf.orig, hx.m.wf.hop, hx.m.wf.med, hx.m.wf.pref, hx.m.wf.aas, hx.m.wf.aid⟩, HL.out, hx.m.sn, hx.m.w32⟩⟩
  case rest =>
  clear HX
  obtain ⟨Ap2, cp2, Ac2, cc2, hx⟩ := hcut
  have HX := Lib.hid hx
  clear hx
  obtain ⟨r3, hr3⟩ : ∃ r : Atr, r = ⟨h0, selI b1 a.orig, selL b2 (normS a.path), selI b3 a.hop, 0, 0, 0, 0, []⟩ := ⟨_, rfl⟩
  have HR3 := Lib.hid hr3
  clear hr3
  go_upto_if 32 with (first
    | (refine wpList_loadBk rfl 29 (.tmp 1) rfl g1 (by rfl) 29 cs.toArray _ HX.out.a Tryz.underlying29 (by rfl) (by rw [List.size_toArray, HCl.out]; exact HSz.out) ?_)
    | (go_at_call 32; refine (HH3.out _).mono ?_; rintro e wy ⟨rfl, hby⟩; have HX := Lib.hid (HX.out.bel hby); clear hby))
  go_cut [] (fun wx => NS w g1 g2 g3 cs r3 wx)
  case first =>
    rcases b3 with _ | _
    · go_wp2_with fail
      go_meet
      have hx := HX.out
      rw [HR2.out] at hx
      rw [HR3.out]
      exact ⟨_, _, _, _, hx⟩
    · have kl := HX.out.o.lt
      have ka := HX.out.a.lt
      have k3 := (HX.out.o.cell 3).trans (show _ = some _ from rfl)
      have kf3 := HX.out.o.free 3
      have q3 := (HX.out.a.cell 3).trans hc3
      go_wp2_with fail
      go_meet
      have hx := HX.out
      rw [HR2.out] at hx
      rw [HR3.out]
      exact ⟨_, _, _, _, hx.put 3 _ rfl ⟨⟨hx.m.wf.has, hx.m.wf.orig, HW.out.hop, hx.m.wf.med, hx.m.wf.pref, hx.m.wf.aas, hx.m.wf.aid⟩, hx.m.sp, hx.m.sn, hx.m.w32⟩⟩
  case rest =>
  clear HX
  obtain ⟨Ap3, cp3, Ac3, cc3, hx⟩ := hcut
  have HX := Lib.hid hx
  clear hx
  obtain ⟨r4, hr4⟩ : ∃ r : Atr, r = ⟨h0, selI b1 a.orig, selL b2 (normS a.path), selI b3 a.hop, selI b4 a.med, 0, 0, 0, []⟩ := ⟨_, rfl⟩
  have HR4 := Lib.hid hr4
  clear hr4
  go_upto_if 37 with (first
    | (refine wpList_loadBk rfl 29 (.tmp 1) rfl g1 (by rfl) 29 cs.toArray _ HX.out.a Tryz.underlying29 (by rfl) (by rw [List.size_toArray, HCl.out]; exact HSz.out) ?_)
    | (go_at_call 32; refine (HH4.out _).mono ?_; rintro e wy ⟨rfl, hby⟩; have HX := Lib.hid (HX.out.bel hby); clear hby))
  go_cut [] (fun wx => NS w g1 g2 g3 cs r4 wx)
  case first =>
    rcases b4 with _ | _
    · go_wp2_with fail
      go_meet
      have hx := HX.out
      rw [HR3.out] at hx
      rw [HR4.out]
      exact ⟨_, _, _, _, hx⟩
    · have kl := HX.out.o.lt
      have ka := HX.out.a.lt
      have k4 := (HX.out.o.cell 4).trans (show _ = some _ from rfl)
      have kf4 := HX.out.o.free 4
      have q4 := (HX.out.a.cell 4).trans hc4
      go_wp2_with fail
      go_meet
      have hx := HX.out
      rw [HR3.out] at hx
      rw [HR4.out]
      exact ⟨_, _, _, _, hx.put 4 _ rfl ⟨⟨hx.m.wf.has, hx.m.wf.orig, hx.m.wf.hop, HW.out.med, hx.m.wf.pref, hx.m.wf.aas, hx.m.wf.aid⟩, hx.m.sp, hx.m.sn, hx.m.w32⟩⟩
  case rest =>
  clear HX
  obtain ⟨Ap4, cp4, Ac4, cc4, hx⟩ := hcut
  have HX := Lib.hid hx
  clear hx
  obtain ⟨r5, hr5⟩ : ∃ r : Atr, r = ⟨h0, selI b1 a.orig, selL b2 (normS a.path), selI b3 a.hop, selI b4 a.med, selI b5 a.pref, 0, 0, []⟩ := ⟨_, rfl⟩
  have HR5 := Lib.hid hr5
  clear hr5
  go_upto_if 42 with (first
    | (refine wpList_loadBk rfl 29 (.tmp 1) rfl g1 (by rfl) 29 cs.toArray _ HX.out.a Tryz.underlying29 (by rfl) (by rw [List.size_toArray, HCl.out]; exact HSz.out) ?_)
    | (go_at_call 32; refine (HH5.out _).mono ?_; rintro e wy ⟨rfl, hby⟩; have HX := Lib.hid (HX.out.bel hby); clear hby))
  go_cut [] (fun wx => NS w g1 g2 g3 cs r5 wx)
  case first =>
    rcases b5 with _ | _
    · go_wp2_with fail
      go_meet
      have hx := HX.out
      rw [HR4.out] at hx
      rw [HR5.out]
      exact ⟨_, _, _, _, hx⟩
    · have kl := HX.out.o.lt
      have ka := HX.out.a.lt
      have k5 := (HX.out.o.cell 5).trans (show _ = some _ from rfl)
      have kf5 := HX.out.o.free 5
      have q5 := (HX.out.a.cell 5).trans hc5
      go_wp2_with fail
      go_meet
      have hx := HX.out
      rw [HR4.out] at hx
      rw [HR5.out]
      exact ⟨_, _, _, _, hx.put 5 _ rfl ⟨⟨hx.m.wf.has, hx.m.wf.orig, hx.m.wf.hop, hx.m.wf.med, HW.out.pref, hx.m.wf.aas, hx.m.wf.aid⟩, hx.m.sp, hx.m.sn, hx.m.w32⟩⟩
  case rest =>
  clear HX
  obtain ⟨Ap5, cp5, Ac5, cc5, hx⟩ := hcut
  have HX := Lib.hid hx
  clear hx
  obtain ⟨r7, hr7⟩ : ∃ r : Atr, r = ⟨h0, selI b1 a.orig, selL b2 (normS a.path), selI b3 a.hop, selI b4 a.med, selI b5 a.pref, selI b7 a.aas, selI b7 a.aid, []⟩ := ⟨_, rfl⟩
  have HR7 := Lib.hid hr7
  clear hr7
  go_upto_if 47 with (first
    | (refine wpList_loadBk rfl 29 (.tmp 1) rfl g1 (by rfl) 29 cs.toArray _ HX.out.a Tryz.underlying29 (by rfl) (by rw [List.size_toArray, HCl.out]; exact HSz.out) ?_)
    | (go_at_call 32; refine (HH7.out _).mono ?_; rintro e wy ⟨rfl, hby⟩; have HX := Lib.hid (HX.out.bel hby); clear hby))
  go_cut [] (fun wx => NS w g1 g2 g3 cs r7 wx)
  case first =>
    rcases b7 with _ | _
    · go_wp2_with fail
      go_meet
      have hx := HX.out
      rw [HR5.out] at hx
      rw [HR7.out]
      exact ⟨_, _, _, _, hx⟩
    · have kl := HX.out.o.lt
      have ka := HX.out.a.lt
      have k6 := (HX.out.o.cell 6).trans (show _ = some _ from rfl)
      have kf6 := HX.out.o.free 6
      have q6 := (HX.out.a.cell 6).trans hc6
      have k7 := (HX.out.o.cell 7).trans (show _ = some _ from rfl)
      have kf7 := HX.out.o.free 7
      have q7 := (HX.out.a.cell 7).trans hc7
      go_wp2_with fail
      go_region
      all_goals
        go_wp2_with fail
        go_meet
        have hx := HX.out
        rw [HR5.out] at hx
        rw [HR7.out]
        refine ⟨_, _, _, _, ((hx.put (r' := ⟨h0, selI b1 a.orig, selL b2 (normS a.path), selI b3 a.hop, selI b4 a.med, selI b5 a.pref, selI true a.aas, 0, []⟩) 6 _ rfl ⟨⟨hx.m.wf.has, hx.m.wf.orig, hx.m.wf.hop, hx.m.wf.med, hx.m.wf.pref, HW.out.aas, hx.m.wf.aid⟩, hx.m.sp, hx.m.sn, hx.m.w32⟩).put (r' := ⟨h0, selI b1 a.orig, selL b2 (normS a.path), selI b3 a.hop, selI b4 a.med, selI b5 a.pref, selI true a.aas, selI true a.aid, []⟩) 7 _ rfl ⟨⟨hx.m.wf.has, hx.m.wf.orig, hx.m.wf.hop, hx.m.wf.med, hx.m.wf.pref, HW.out.aas, HW.out.aid⟩, ?_, ?_, hx.m.w32⟩).bel (Below.refl _ _).drew⟩
        · exact hx.m.sp.chg (F := fun k => k = g3) ((Chg.refl (fun k => k = g3) wy).put (p := ⟨g3, 6, none⟩) (.inl rfl) _) (fun k _ hk e => by omega)
        · exact Sn.chg (F := fun k => k = g3) hx.m.sn ((Chg.refl (fun k => k = g3) wy).put (p := ⟨g3, 6, none⟩) (.inl rfl) _) (fun k _ hk e => by omega)
  case rest =>
  clear HX
  obtain ⟨Ap7, cp7, Ac7, cc7, hx⟩ := hcut
  have HX := Lib.hid hx
  clear hx
  obtain ⟨r8, hr8⟩ : ∃ r : Atr, r = ⟨h0, selI b1 a.orig, selL b2 (normS a.path), selI b3 a.hop, selI b4 a.med, selI b5 a.pref, selI b7 a.aas, selI b7 a.aid, selL b8 (setN a.comms)⟩ := ⟨_, rfl⟩
  have HR8 := Lib.hid hr8
  clear hr8
  go_upto_if 55 with (first
    | (refine wpList_loadBk rfl 29 (.tmp 1) rfl g1 (by rfl) 29 cs.toArray _ HX.out.a Tryz.underlying29 (by rfl) (by rw [List.size_toArray, HCl.out]; exact HSz.out) ?_)
    | (go_at_call 32; refine (HH8.out _).mono ?_; rintro e wy ⟨rfl, hby⟩; have HX := Lib.hid (HX.out.bel hby); clear hby))
  go_cut [] (fun wx => NS w g1 g2 g3 cs r8 wx)
  case first =>
    rcases b8 with _ | _
    · go_wp2_with fail
      go_meet
      have hx := HX.out
      rw [HR7.out] at hx
      rw [HR8.out]
      exact ⟨_, _, _, _, hx⟩
    · have kl := HX.out.o.lt
      have ka := HX.out.a.lt
      have k8 := (HX.out.o.cell 8).trans (show _ = some _ from rfl)
      have kf8 := HX.out.o.free 8
      have q8 := (HX.out.a.cell 8).trans hc8
      go_wp2_with (go_at_call 103; refine (HSe.out _ HX.out.b).mono ?_; rintro e wz ⟨A1, c1, rfl, ho, hlo, hb⟩; have HL : Hid (Sn wz (fun k => g3 < k) A1 c1 (setN a.comms)) := Sn.mono (Sn.own ho) (fun k _ hk => Nat.lt_of_lt_of_le HX.out.o.lt (hlo k hk)); have HX := Lib.hid (HX.out.bel hb); have kl := HX.out.o.lt; have k8 := (HX.out.o.cell 8).trans (show _ = some _ from rfl); have kf8 := HX.out.o.free 8; clear ho hlo hb)
      go_meet
      have hx := HX.out
      rw [HR7.out] at hx
      rw [HR8.out]
      exact ⟨_, _, _, _, hx.put 8 _ rfl ⟨⟨hx.m.wf.has, hx.m.wf.orig, hx.m.wf.hop, hx.m.wf.med, hx.m.wf.pref, hx.m.wf.aas, hx.m.wf.aid⟩, hx.m.sp, HL.out, setN_w32 HW32.out⟩⟩
  case rest =>
  clear HX
  obtain ⟨Ap8, cp8, Ac8, cc8, hx⟩ := hcut
  have HX := Lib.hid hx
  clear hx
  go_wp2_with (first
    | (refine wpList_loadBk rfl 29 (.tmp 3) rfl g3 (by rfl) 29 (atc r8 Ap8 cp8 Ac8 cc8).toArray _ HX.out.o Tryz.underlying29 (by rfl) HSz.out ?_)
    | (refine wpList_storeBk rfl 29 (.tmp 2) (.tmp 60) rfl g2 (by rfl) (atc r8 Ap8 cp8 Ac8 cc8).toArray (by rfl) 29 zeroC.toArray HX.out.z HSz.out rfl (by rfl) ?_; intro w3 h3 h4 h5; have H3 := Lib.hid h3; have H4 := Lib.hid h4; clear h3 h4 h5))
  refine bodyPost_ret (results_cell_row rfl _ _ g2 29 (atc r8 Ap8 cp8 Ac8 cc8).toArray (0, 0) _ rfl H3.out Tryz.underlying29 rfl HSz.out) rfl ?_
  have hx := HX.out
  have e8 : r8 = N := HR8.out.trans (by rw [HNq.out, HH0.out])
  rw [e8] at hx ⊢
  have l2 := hx.l2
  have l3 := hx.l3
  have l1 := hx.l1
  exact HQ.out _ _ _ _ _ ((hx.m.chg H4.out (fun k _ hk e => by omega)).mono fun k _ hk => by omega) (hx.b.trans (H4.out.below (fun k e => by omega) hx.b.size))
end Go.Proofs.YtaeeeinpelfppaaGreat.attr
