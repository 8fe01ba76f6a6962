/- What confluenceref08.lay does. Conditions: a value as long as its type asks, of at most 50000 bytes. Printed by gen_reflay8.py. -/
import Derived.Test.YtaeeeinpelfppaaGreatRefWays8
import Derived.Test.YtaeeeinpelfppaaGreatRefAttr
import Derived.Test.YtaeeeinpelfppaaGreatAttrDec
namespace Go.Proofs.YtaeeeinpelfppaaGreat.attr
open Go.RowKit Go.Proofs.YtaeeeinpelfppaaGreat.kit Go.Proofs.YtaeeeinpelfppaaGreat.mem Go.Proofs.YtaeeeinpelfppaaGreat.foot Go.Proofs.YtaeeeinpelfppaaGreat.nums Go.Proofs.YtaeeeinpelfppaaGreat.asn Go.Proofs.YtaeeeinpelfppaaGreat.pth Go.Proofs.YtaeeeinpelfppaaGreat.octet
set_option linter.unusedVariables false
set_option linter.unusedSimpArgs false
/-- the memory within lay: the attributes' block g -/
structure LR (w : World) (g : Nat) (a : Atr) (Ap : Option Addr) (cp : Nat) (Ac : Option Addr) (cc : Nat) (G : Foot) (wr : World) : Prop where
  bk : Bk wr g 29 (atc a Ap cp Ac cc).toArray
  am : Am wr (fun j => G j ∨ w.heap.size ≤ j) a Ap cp Ac cc
  ch : Chg (fun k => k = g) w wr
  gl : g < w.heap.size
  gG : ¬ G g
section
variable {w wr w' : World} {g cp cc cp' cc' : Nat} {a a' : Atr} {Ap Ac Ap' Ac' : Option Addr} {G : Foot}
theorem LR.start (hg : Bk w g 29 (atc a Ap cp Ac cc).toArray) (hm : Am w G a Ap cp Ac cc) (hG : ∀ k, G k → k < w.heap.size ∧ k ≠ g) (hb : Below w.heap.size w wr) : LR w g a Ap cp Ac cc G wr :=
  ⟨hg.below hb hg.lt, (hm.bel hb).mono fun _ _ h => .inl h, Chg.of_below hb _, hg.lt, fun h => (hG g h).2 rfl⟩
theorem LR.go (h : LR w g a Ap cp Ac cc G wr) (hb : Below wr.heap.size wr w') : LR w g a Ap cp Ac cc G w' := ⟨h.bk.below hb h.bk.lt, h.am.bel hb, h.ch.bel hb, h.gl, h.gG⟩
/-- a cell written -/
theorem LR.put (h : LR w g a Ap cp Ac cc G wr) (i : Nat) (v : Value) (ha : (atc a Ap cp Ac cc).toArray.setIfInBounds i v = (atc a' Ap' cp' Ac' cc').toArray) (hm : Am wr (fun j => G j ∨ w.heap.size ≤ j) a' Ap' cp' Ac' cc') : LR w g a' Ap' cp' Ac' cc' G (wr.setCell ⟨g, i, none⟩ v) := by
  have hch : Chg (fun k => k = g) wr (wr.setCell ⟨g, i, none⟩ v) := (Chg.refl (fun k => k = g) wr).put (p := ⟨g, i, none⟩) (.inl rfl) v
  have hgl := h.gl
  exact ⟨by rw [← ha]; exact h.bk.put i v, hm.chg hch fun k _ hk e => hk.elim (fun hk => h.gG (e ▸ hk)) fun hk => by omega, h.ch.trans hch fun _ _ e => e, hgl, h.gG⟩
/-- what lay hands back -/
def RetLy (g : Nat) (a : Atr) (s : Nat) (G : Foot) (w : World) (e : Ending) (w' : World) : Prop := e = .returned (.int .i64 (s : Int)) ∧ ∃ Ap cp Ac cc, LR w g a Ap cp Ac cc G w'
theorem LR.ret (h : LR w g a Ap cp Ac cc G wr) (s : Nat) : RetLy g a s G w (.returned (.int .i64 (s : Int))) wr := ⟨rfl, Ap, cp, Ac, cc, h⟩
end
theorem am_set {w : World} {G : Foot} {a a' : Atr} {Ap Ac : Option Addr} {cp cc : Nat} (h : Am w G a Ap cp Ac cc) (hw : Awf a') (hp : a'.path = a.path) (hc : a'.comms = a.comms) : Am w G a' Ap cp Ac cc := ⟨hw, by rw [hp]; exact h.sp, by rw [hc]; exact h.sn, by rw [hc]; exact h.w32⟩
section
variable (vc g : Nat) (vA : Option Addr) (a : Atr) (Ap Ac : Option Addr) (cp cc : Nat) (G : Foot) (w : World) (v : List UInt8)
set_option maxRecDepth 100000 in
set_option maxHeartbeats 4000000 in
theorem rlay_6 (hl : v.length ≤ 50000) (hg : Bk w g 29 (atc a Ap cp Ac cc).toArray) (hm : Am w G a Ap cp Ac cc) (hG : ∀ k, G k → k < w.heap.size ∧ k ≠ g) (hv : Bn w (fun _ => True) vA vc v) :
    Calls Tryz.prog 65 #[.pointer (some ⟨g, 0, none⟩), .int .i64 6, .slice vA v.length vc] w (RetLy g a 0 G w) := by
  have hwf := hm.wf
  have HNu := Lib.hid (refNumbers_any vA vc _ v w (by omega) hv)
  have HSt := Lib.hid (fun (wr : World) (hb : Below w.heap.size w wr) => LR.start (wr := wr) hg hm hG hb)
  clear hg hm hG hv
  generalize hn4 : nums4 v = n4 at *
  go_enter Tryz.func65, Tryz.ntmps65
  go_wp2_with (go_at_call 100; refine HNu.out.mono ?_; rintro e w1 ⟨An, cn, rfl, h1, h2, h3⟩; have HL := Lib.hid (HSt.out w1 h3); have HO := Lib.hid (And.intro h1 (And.intro h2 h3));  clear h1 h2 h3)
  go_ret
  exact HL.out.ret 0
set_option maxRecDepth 100000 in
set_option maxHeartbeats 4000000 in
theorem rlay_4 (h4 : v.length = 4) (hl : v.length ≤ 50000) (hg : Bk w g 29 (atc a Ap cp Ac cc).toArray) (hm : Am w G a Ap cp Ac cc) (hG : ∀ k, G k → k < w.heap.size ∧ k ≠ g) (hv : Bn w (fun _ => True) vA vc v) :
    Calls Tryz.prog 65 #[.pointer (some ⟨g, 0, none⟩), .int .i64 4, .slice vA v.length vc] w (RetLy g { a with med := (num v : Int) } 0 G w) := by
  have hwf := hm.wf
  have HNu := Lib.hid (refNumbers_any vA vc _ v w (by omega) hv)
  have HSt := Lib.hid (fun (wr : World) (hb : Below w.heap.size w wr) => LR.start (wr := wr) hg hm hG hb)
  have HW : Hid (Awf { a with med := (num v : Int) }) := ⟨hwf.has, hwf.orig, hwf.hop, wf_num4 h4, hwf.pref, hwf.aas, hwf.aid⟩
  rw [nums4_one h4] at HNu
  clear hg hm hG hv h4 hwf
  generalize hn : num v = n at *
  go_enter Tryz.func65, Tryz.ntmps65
  go_wp2_with (go_at_call 100; refine HNu.out.mono ?_; rintro e w1 ⟨An, cn, rfl, h1, h2, h3⟩; have HL := Lib.hid (HSt.out w1 h3); have HO := Lib.hid (And.intro h1 (And.intro h2 h3)); have hus := foot.Own.rg h1; obtain ⟨nb, no, rfl, _, nl, q0⟩ := hus.2 (by simp); replace q0 := q0 0 _ rfl; rw [Nat.add_zero] at q0; have k0 := (HL.out.bk.cell 4).trans (show _ = some _ from rfl); have kf := HL.out.bk.free 4; have kl := HL.out.bk.lt; clear h1 h2 h3)
  go_ret
  exact (HL.out.put (a' := { a with med := (n : Int) }) 4 _ rfl (am_set HL.out.am HW.out rfl rfl)).ret 0
set_option maxRecDepth 100000 in
set_option maxHeartbeats 4000000 in
theorem rlay_5 (h4 : v.length = 4) (hl : v.length ≤ 50000) (hg : Bk w g 29 (atc a Ap cp Ac cc).toArray) (hm : Am w G a Ap cp Ac cc) (hG : ∀ k, G k → k < w.heap.size ∧ k ≠ g) (hv : Bn w (fun _ => True) vA vc v) :
    Calls Tryz.prog 65 #[.pointer (some ⟨g, 0, none⟩), .int .i64 5, .slice vA v.length vc] w (RetLy g { a with pref := (num v : Int) } 0 G w) := by
  have hwf := hm.wf
  have HNu := Lib.hid (refNumbers_any vA vc _ v w (by omega) hv)
  have HSt := Lib.hid (fun (wr : World) (hb : Below w.heap.size w wr) => LR.start (wr := wr) hg hm hG hb)
  have HW : Hid (Awf { a with pref := (num v : Int) }) := ⟨hwf.has, hwf.orig, hwf.hop, hwf.med, wf_num4 h4, hwf.aas, hwf.aid⟩
  rw [nums4_one h4] at HNu
  clear hg hm hG hv h4 hwf
  generalize hn : num v = n at *
  go_enter Tryz.func65, Tryz.ntmps65
  go_wp2_with (go_at_call 100; refine HNu.out.mono ?_; rintro e w1 ⟨An, cn, rfl, h1, h2, h3⟩; have HL := Lib.hid (HSt.out w1 h3); have HO := Lib.hid (And.intro h1 (And.intro h2 h3)); have hus := foot.Own.rg h1; obtain ⟨nb, no, rfl, _, nl, q0⟩ := hus.2 (by simp); replace q0 := q0 0 _ rfl; rw [Nat.add_zero] at q0; have k0 := (HL.out.bk.cell 5).trans (show _ = some _ from rfl); have kf := HL.out.bk.free 5; have kl := HL.out.bk.lt; clear h1 h2 h3)
  go_ret
  exact (HL.out.put (a' := { a with pref := (n : Int) }) 5 _ rfl (am_set HL.out.am HW.out rfl rfl)).ret 0
set_option maxRecDepth 100000 in
set_option maxHeartbeats 4000000 in
theorem rlay_3 (h4 : v.length = 4) (hl : v.length ≤ 50000) (hg : Bk w g 29 (atc a Ap cp Ac cc).toArray) (hm : Am w G a Ap cp Ac cc) (hG : ∀ k, G k → k < w.heap.size ∧ k ≠ g) (hv : Bn w (fun _ => True) vA vc v) :
    Calls Tryz.prog 65 #[.pointer (some ⟨g, 0, none⟩), .int .i64 3, .slice vA v.length vc] w (RetLy g { a with hop := (num v : Int) } (if hopB (num v : Int) = true then 0 else 8) G w) := by
  have hwf := hm.wf
  have HNu := Lib.hid (refNumbers_any vA vc _ v w (by omega) hv)
  have HSt := Lib.hid (fun (wr : World) (hb : Below w.heap.size w wr) => LR.start (wr := wr) hg hm hG hb)
  have HW : Hid (Awf { a with hop := (num v : Int) }) := ⟨hwf.has, hwf.orig, wf_num4 h4, hwf.med, hwf.pref, hwf.aas, hwf.aid⟩
  rw [nums4_one h4] at HNu
  have HHop : Hid (∀ w', Calls Tryz.prog 87 #[.int .u32 (num v : Int)] w' fun e w2 => e = .returned (.bool (hopB (num v : Int))) ∧ w' = w2) := fun w' => refHop_any _ (wf_num4 h4) w'
  obtain ⟨hb, hhb⟩ : ∃ hb, hb = hopB (num v : Int) := ⟨_, rfl⟩
  rw [← hhb] at HHop ⊢
  clear hg hm hG hv h4 hwf hhb
  generalize hn : num v = n at *
  rcases hb with _ | _
  · skip
    go_enter Tryz.func65, Tryz.ntmps65
    go_wp2_with (first
      | (go_at_call 100; refine HNu.out.mono ?_; rintro e w1 ⟨An, cn, rfl, h1, h2, h3⟩; have HL := Lib.hid (HSt.out w1 h3); have HO := Lib.hid (And.intro h1 (And.intro h2 h3)); have hus := foot.Own.rg h1; obtain ⟨nb, no, rfl, hnb, nl, q0⟩ := hus.2 (by simp); have hng : nb ≠ g := fun e => by { have h5 := h2 nb hnb; have h6 := HL.out.gl; omega }; replace q0 := q0 0 _ rfl; rw [Nat.add_zero] at q0; have k0 := (HL.out.bk.cell 3).trans (show _ = some _ from rfl); have kf := HL.out.bk.free 3; have kl := HL.out.bk.lt; clear h1 h2 h3)
      | (go_at_call 87; refine (HHop.out _).mono ?_; rintro e w4 ⟨rfl, rfl⟩))
    go_ret
    exact (HL.out.put (a' := { a with hop := (n : Int) }) 3 _ rfl (am_set HL.out.am HW.out rfl rfl)).ret 8
  · skip
    go_enter Tryz.func65, Tryz.ntmps65
    go_wp2_with (first
      | (go_at_call 100; refine HNu.out.mono ?_; rintro e w1 ⟨An, cn, rfl, h1, h2, h3⟩; have HL := Lib.hid (HSt.out w1 h3); have HO := Lib.hid (And.intro h1 (And.intro h2 h3)); have hus := foot.Own.rg h1; obtain ⟨nb, no, rfl, hnb, nl, q0⟩ := hus.2 (by simp); have hng : nb ≠ g := fun e => by { have h5 := h2 nb hnb; have h6 := HL.out.gl; omega }; replace q0 := q0 0 _ rfl; rw [Nat.add_zero] at q0; have k0 := (HL.out.bk.cell 3).trans (show _ = some _ from rfl); have kf := HL.out.bk.free 3; have kl := HL.out.bk.lt; clear h1 h2 h3)
      | (go_at_call 87; refine (HHop.out _).mono ?_; rintro e w4 ⟨rfl, rfl⟩))
    go_ret
    exact (HL.out.put (a' := { a with hop := (n : Int) }) 3 _ rfl (am_set HL.out.am HW.out rfl rfl)).ret 0
set_option maxRecDepth 100000 in
set_option maxHeartbeats 4000000 in
theorem rlay_7 (h8 : v.length = 8) (hl : v.length ≤ 50000) (hg : Bk w g 29 (atc a Ap cp Ac cc).toArray) (hm : Am w G a Ap cp Ac cc) (hG : ∀ k, G k → k < w.heap.size ∧ k ≠ g) (hv : Bn w (fun _ => True) vA vc v) :
    Calls Tryz.prog 65 #[.pointer (some ⟨g, 0, none⟩), .int .i64 7, .slice vA v.length vc] w (RetLy g { a with aas := (num (v.take 4) : Int), aid := (num (v.drop 4) : Int) } 0 G w) := by
  have hwf := hm.wf
  have HNu := Lib.hid (refNumbers_any vA vc _ v w (by omega) hv)
  have HSt := Lib.hid (fun (wr : World) (hb : Below w.heap.size w wr) => LR.start (wr := wr) hg hm hG hb)
  have n1 : (Lit.int .u32 (num (v.take 4) : Int)).wf = true := wf_num4 (by rw [List.length_take]; omega)
  have n2 : (Lit.int .u32 (num (v.drop 4) : Int)).wf = true := wf_num4 (by rw [List.length_drop]; omega)
  have HW1 : Hid (Awf { a with aas := (num (v.take 4) : Int) }) := ⟨hwf.has, hwf.orig, hwf.hop, hwf.med, hwf.pref, n1, hwf.aid⟩
  have HW2 : Hid (Awf { a with aas := (num (v.take 4) : Int), aid := (num (v.drop 4) : Int) }) := ⟨hwf.has, hwf.orig, hwf.hop, hwf.med, hwf.pref, n1, n2⟩
  rw [nums4_some v (by omega), nums4_one (l := v.drop 4) (by rw [List.length_drop]; omega)] at HNu
  clear hg hm hG hv h8 hwf n1 n2
  generalize hn1 : num (v.take 4) = x1 at *
  generalize hn2 : num (v.drop 4) = x2 at *
  go_enter Tryz.func65, Tryz.ntmps65
  go_upto_region 22 with (go_at_call 100; refine HNu.out.mono ?_; rintro e w1 ⟨An, cn, rfl, h1, h2, h3⟩; have HL := Lib.hid (HSt.out w1 h3); have HO := Lib.hid (And.intro h1 (And.intro h2 h3)); have hus := foot.Own.rg h1; obtain ⟨nb, no, rfl, hnb, nl, qq⟩ := hus.2 (by simp); have hng : nb ≠ g := fun e => by { have h5 := h2 nb hnb; have h6 := HL.out.gl; omega }; have q0 := qq 0 _ rfl; have q1 := qq 1 _ rfl; rw [Nat.add_zero] at q0; have k6 := (HL.out.bk.cell 6).trans (show _ = some _ from rfl); have k7 := (HL.out.bk.cell 7).trans (show _ = some _ from rfl); have kf6 := HL.out.bk.free 6; have kf7 := HL.out.bk.free 7; have kl := HL.out.bk.lt; clear qq; clear h1 h2 h3)
  go_region
  all_goals
    go_wp2_with fail
    go_ret
    exact (((HL.out.put (a' := { a with aas := (x1 : Int) }) 6 _ rfl (am_set HL.out.am HW1.out rfl rfl)).put (a' := { a with aas := (x1 : Int), aid := (x2 : Int) }) 7 _ rfl (am_set (HL.out.put (a' := { a with aas := (x1 : Int) }) 6 _ rfl (am_set HL.out.am HW1.out rfl rfl)).am HW2.out rfl rfl)).go (Below.refl _ _).drew).ret 0
set_option maxRecDepth 100000 in
set_option maxHeartbeats 4000000 in
theorem rlay_8 (hl : v.length ≤ 50000) (hg : Bk w g 29 (atc a Ap cp Ac cc).toArray) (hm : Am w G a Ap cp Ac cc) (hG : ∀ k, G k → k < w.heap.size ∧ k ≠ g) (hv : Bn w (fun _ => True) vA vc v) :
    Calls Tryz.prog 65 #[.pointer (some ⟨g, 0, none⟩), .int .i64 8, .slice vA v.length vc] w (RetLy g { a with comms := nums4 v } 0 G w) := by
  have hwf := hm.wf
  have HNu := Lib.hid (refNumbers_any vA vc _ v w (by omega) hv)
  have HSt := Lib.hid (fun (wr : World) (hb : Below w.heap.size w wr) => LR.start (wr := wr) hg hm hG hb)
  have HW : Hid (Awf { a with comms := nums4 v }) := ⟨hwf.has, hwf.orig, hwf.hop, hwf.med, hwf.pref, hwf.aas, hwf.aid⟩
  have HN32 : Hid (W32 (nums4 v)) := nums4_w32 _ v (Nat.le_refl _)
  clear hg hm hG hv hwf
  generalize hn : nums4 v = n4 at *
  go_enter Tryz.func65, Tryz.ntmps65
  go_wp2_with (go_at_call 100; refine HNu.out.mono ?_; rintro e w1 ⟨An, cn, rfl, h1, h2, h3⟩; have HL := Lib.hid (HSt.out w1 h3); have HO := Lib.hid (And.intro h1 (And.intro h2 h3)); have k0 := (HL.out.bk.cell 8).trans (show _ = some _ from rfl); have kf := HL.out.bk.free 8; have kl := HL.out.bk.lt; clear h1 h2 h3)
  go_ret
  exact (HL.out.put (a' := { a with comms := n4 }) 8 _ rfl ⟨HW.out, HL.out.am.sp, Sn.mono (Sn.own HO.out.1) (fun k _ hk => .inr (HO.out.2.1 k hk)), HN32.out⟩).ret 0
set_option maxRecDepth 100000 in
set_option maxHeartbeats 4000000 in
theorem rlay_1 (b : UInt8) (hb : v = [b]) (hl : v.length ≤ 50000) (hg : Bk w g 29 (atc a Ap cp Ac cc).toArray) (hm : Am w G a Ap cp Ac cc) (hG : ∀ k, G k → k < w.heap.size ∧ k ≠ g) (hv : Bn w (fun _ => True) vA vc v) :
    Calls Tryz.prog 65 #[.pointer (some ⟨g, 0, none⟩), .int .i64 1, .slice vA v.length vc] w (RetLy g { a with orig := (num v : Int) } (if num v ≤ 2 then 0 else 6) G w) := by
  have hwf := hm.wf
  have HNu := Lib.hid (refNumbers_any vA vc _ v w (by omega) hv)
  have HSt := Lib.hid (fun (wr : World) (hb : Below w.heap.size w wr) => LR.start (wr := wr) hg hm hG hb)
  subst hb
  rw [num1]
  have HW : Hid (Awf { a with orig := (b.toNat : Int) }) := ⟨hwf.has, wf_byte b, hwf.hop, hwf.med, hwf.pref, hwf.aas, hwf.aid⟩
  obtain ⟨vb, vo, rfl⟩ := bn_some hv (by simp)
  have HVc : Hid (∀ w', Below w.heap.size w w' → w'.cell? ⟨vb, vo, none⟩ = some (.int .u8 (b.toNat : Int)) ∧ vb ≠ g) := fun w' hb => by
    have h1 := bn_cell (i := 0) (x := b) (hv.bel hb) rfl
    rw [Nat.add_zero] at h1
    refine ⟨h1.1, fun e => ?_⟩
    subst e
    have h2 := bn_cell (i := 0) (x := b) hv rfl
    rw [Nat.add_zero, hg.cell] at h2
    exact atc_nob a Ap cp Ac cc _ _ h2.1 _ rfl
  have hb255 := b.toNat_lt
  clear hg hm hG hv hwf
  rw [show nums4 [b] = [] from rfl] at HNu
  generalize b.toNat = n at *
  by_cases h2 : n ≤ 2
  · rw [if_pos h2]
    have d2 : decide ((2 : Int) < (n : Int)) = false := by rw [decide_eq_false_iff_not]; omega
    go_enter Tryz.func65, Tryz.ntmps65
    go_wp2_with (go_at_call 100; refine HNu.out.mono ?_; rintro e w1 ⟨An, cn, rfl, h1, h2, h3⟩; have HL := Lib.hid (HSt.out w1 h3); have HO := Lib.hid (And.intro h1 (And.intro h2 h3)); have q0 := (HVc.out w1 h3).1; have hng := (HVc.out w1 h3).2; have k0 := (HL.out.bk.cell 1).trans (show _ = some _ from rfl); have kf := HL.out.bk.free 1; have kl := HL.out.bk.lt; clear h1 h2 h3)
    go_ret
    exact (HL.out.put (a' := { a with orig := (n : Int) }) 1 _ rfl (am_set HL.out.am HW.out rfl rfl)).ret 0
  · rw [if_neg h2]
    have d2 : decide ((2 : Int) < (n : Int)) = true := by rw [decide_eq_true_iff]; omega
    go_enter Tryz.func65, Tryz.ntmps65
    go_wp2_with (go_at_call 100; refine HNu.out.mono ?_; rintro e w1 ⟨An, cn, rfl, h1, h2, h3⟩; have HL := Lib.hid (HSt.out w1 h3); have HO := Lib.hid (And.intro h1 (And.intro h2 h3)); have q0 := (HVc.out w1 h3).1; have hng := (HVc.out w1 h3).2; have k0 := (HL.out.bk.cell 1).trans (show _ = some _ from rfl); have kf := HL.out.bk.free 1; have kl := HL.out.bk.lt; clear h1 h2 h3)
    go_ret
    exact (HL.out.put (a' := { a with orig := (n : Int) }) 1 _ rfl (am_set HL.out.am HW.out rfl rfl)).ret 6
set_option maxRecDepth 100000 in
set_option maxHeartbeats 4000000 in
theorem rlay_2 (hl : v.length ≤ 50000) (hg : Bk w g 29 (atc a Ap cp Ac cc).toArray) (hm : Am w G a Ap cp Ac cc) (hG : ∀ k, G k → k < w.heap.size ∧ k ≠ g) (hv : Bn w (fun _ => True) vA vc v) :
    Calls Tryz.prog 65 #[.pointer (some ⟨g, 0, none⟩), .int .i64 2, .slice vA v.length vc] w (RetLy g { a with path := normS ((pcs v).getD []) } (sub2 v) G w) := by
  have hwf := hm.wf
  have HNu := Lib.hid (refNumbers_any vA vc _ v w (by omega) hv)
  have HSt := Lib.hid (fun (wr : World) (hb : Below w.heap.size w wr) => LR.start (wr := wr) hg hm hG hb)
  have hgl := hg.lt
  have HPc : Hid (∀ w', Below w.heap.size w w' → Calls Tryz.prog 101 #[.slice vA v.length vc] w' (RetPcs (pcs v) w')) := fun w' hb => refPath_any vA vc _ v w' (by omega) (hv.bel hb)
  have HNo : Hid (∀ (A : Option Addr) (c : Nat) (ps : List Sg) (H : Foot) (w' : World), nsz ps ≤ 100000 → Els 2 rSeg w' H A ps → Calls Tryz.prog 102 #[.slice A ps.length c] w' (RetP (normS ps) w')) := fun A c ps H w' h1 h2 => refNorm04_any A c ps H w' h1 h2
  have HNo0 : Hid (∀ w', Calls Tryz.prog 102 #[.slice none 0 0] w' (RetP (normS []) w')) := fun w' => HNo.out none 0 [] (fun _ => False) w' (by decide) (Els.nil_ _ _ _)
  have HFn : Hid (∀ wp wn (A1 : Option Addr) (c1 : Nat) (vs : List Value) (ps : List Sg), Below w.heap.size w wp → Lst 2 rSeg 128 (fun k => wp.heap.size ≤ k) wp wn A1 (normS ps).length c1 vs (normS ps) → Bk wn g 29 (atc a Ap cp Ac cc).toArray ∧ LR w g { a with path := normS ps } A1 c1 Ac cc G (wn.setCell ⟨g, 2, none⟩ (.slice A1 (normS ps).length c1))) := fun wp wn A1 c1 vs ps hbp hL => by
    have h := HSt.out wn (hbp.trans (hL.acc.bel.mono hbp.size))
    have hsp := Sp.of_lst hL
    have hsz := hbp.size
    exact ⟨h.bk, h.put 2 _ rfl ⟨⟨hwf.has, hwf.orig, hwf.hop, hwf.med, hwf.pref, hwf.aas, hwf.aid⟩, hsp.mono fun k _ hk => .inr (by omega), h.am.sn, h.am.w32⟩⟩
  clear hwf hg hm hG hv
  rcases hpc : pcs v with _ | ps
  · have hs : sub2 v = 11 := sub2_none hpc
    rw [hs]
    rw [hpc] at HPc
    show Calls _ _ _ _ (RetLy g { a with path := normS [] } 11 G w)
    have HPe : Hid (∀ w', Below w.heap.size w w' → Calls Tryz.prog 101 #[.slice vA v.length vc] w' fun e w2 => e = .returned (.tuple #[.slice none 0 0, .bool false]) ∧ Below w'.heap.size w' w2) := fun w' h => (HPc.out w' h).mono fun e w2 => by
      rintro ⟨⟨ps, A, c, h, _⟩ | ⟨_, h⟩, hb⟩
      · cases h
      · exact ⟨h, hb⟩
    clear hpc hs
    generalize hnl : (normS []).length = nl at HFn HNo0
    generalize nums4 v = n4 at *
    go_enter Tryz.func65, Tryz.ntmps65
    go_wp2_with (first
      | (go_at_call 100; refine HNu.out.mono ?_; rintro e w1 ⟨An, cn, rfl, h1, h2, h3⟩; have HL := Lib.hid (HSt.out w1 h3); have HO := Lib.hid (And.intro h1 (And.intro h2 h3)); have HB1 := Lib.hid h3; clear h1 h2 h3)
      | (go_at_call 101; refine (HPe.out w1 HB1.out).mono ?_; rintro e w3 ⟨rfl, h1⟩; have HB3 := Lib.hid (HB1.out.trans (h1.mono HB1.out.size)); clear h1)
      | (go_at_call 102; refine (HNo0.out w3).mono ?_; rintro e w4 ⟨A1, c1, vs, rfl, hL⟩; have HE4 := Lib.hid (HFn.out w3 w4 A1 c1 vs _ HB3.out hL); have k2 := (HE4.out.1.cell 2).trans (show _ = some _ from rfl); have kf := HE4.out.1.free 2; have kl := HE4.out.1.lt; clear hL))
    go_ret
    subst hnl
    exact HE4.out.2.ret 11
  · have hnz := pcs_nsz hpc
    have hs2 := sub2_some hpc
    obtain ⟨z, hz⟩ := bool_of (WaysS (normS ps))
    obtain ⟨s, hs⟩ : ∃ s, s = sub2 v := ⟨_, rfl⟩
    have HZ : Hid ((z = true → s = 0) ∧ (z = false → s = 11)) := ⟨fun h => by rw [hs]; exact hs2.1 (hz.1 h), fun h => by rw [hs]; exact hs2.2 fun h2 => by rw [hz.2 h2] at h; cases h⟩
    rw [← hs]
    rw [hpc] at HPc
    show Calls _ _ _ _ (RetLy g { a with path := normS ps } s G w)
    have HPe : Hid (∀ w', Below w.heap.size w w' → Calls Tryz.prog 101 #[.slice vA v.length vc] w' fun e w2 => ∃ A c, e = .returned (.tuple #[.slice A ps.length c, .bool true]) ∧ Sp w2 (fun k => w'.heap.size ≤ k) A c ps ∧ Below w'.heap.size w' w2) := fun w' h => (HPc.out w' h).mono fun e w2 => by
      rintro ⟨⟨qs, A, c, h0, h1, h2⟩ | ⟨h, _⟩, hb⟩
      · cases h0
        exact ⟨A, c, h1, h2, hb⟩
      · cases h
    have hnn := nsz_norm ps
    have HWy : Hid (∀ (A1 : Option Addr) (c1 : Nat) (H : Foot) (w' : World), Sp w' H A1 c1 (normS ps) → Calls Tryz.prog 86 #[.slice A1 (normS ps).length c1] w' fun e w2 => e = .returned (.bool z) ∧ Below w'.heap.size w' w2) := fun A1 c1 H w' h => refWays_any A1 c1 (normS ps) H w' z hz (by omega) h.els
    clear hpc hs hs2 hz
    generalize nums4 v = n4 at *
    rcases z with _ | _
    · obtain rfl : s = 11 := HZ.out.2 rfl
      go_enter Tryz.func65, Tryz.ntmps65
      go_upto_region 11 with (first
        | (go_at_call 100; refine HNu.out.mono ?_; rintro e w1 ⟨An, cn, rfl, h1, h2, h3⟩; have HL := Lib.hid (HSt.out w1 h3); have HO := Lib.hid (And.intro h1 (And.intro h2 h3)); have HB1 := Lib.hid h3; clear h1 h2 h3)
        | (go_at_call 101; refine (HPe.out w1 HB1.out).mono ?_; rintro e w3 ⟨A0, c0, rfl, h1, h2⟩; have HB3 := Lib.hid (HB1.out.trans (h2.mono HB1.out.size)); have HS3 := Lib.hid h1; clear h1 h2)
        | (go_at_call 102; refine (HNo.out A0 c0 ps _ w3 (by omega) HS3.out.els).mono ?_; rintro e w4 ⟨A1, c1, vs, rfl, hL⟩; have HE4 := Lib.hid (HFn.out w3 w4 A1 c1 vs _ HB3.out hL); have k2 := (HE4.out.1.cell 2).trans (show _ = some _ from rfl); have kf := HE4.out.1.free 2; have kl := HE4.out.1.lt; clear hL))
      obtain ⟨w5, hw5⟩ : ∃ w5, w5 = w4.setCell ⟨g, 2, none⟩ (.slice A1 (normS ps).length c1) := ⟨_, rfl⟩
      rw [← hw5] at HE4 ⊢
      clear hw5 k2 kf
      have k2 := (HE4.out.2.bk.cell 2).trans (show _ = some _ from rfl)
      have HWx := Lib.hid (HWy.out A1 c1 _ w5 HE4.out.2.am.sp)
      go_wp2_with (go_at_call 86; refine HWx.out.mono ?_; rintro e w6 ⟨rfl, h1⟩; have HB5 := Lib.hid h1; clear h1)
      go_ret
      exact (HE4.out.2.go HB5.out).ret 11
    · obtain rfl : s = 0 := HZ.out.1 rfl
      go_enter Tryz.func65, Tryz.ntmps65
      go_upto_region 11 with (first
        | (go_at_call 100; refine HNu.out.mono ?_; rintro e w1 ⟨An, cn, rfl, h1, h2, h3⟩; have HL := Lib.hid (HSt.out w1 h3); have HO := Lib.hid (And.intro h1 (And.intro h2 h3)); have HB1 := Lib.hid h3; clear h1 h2 h3)
        | (go_at_call 101; refine (HPe.out w1 HB1.out).mono ?_; rintro e w3 ⟨A0, c0, rfl, h1, h2⟩; have HB3 := Lib.hid (HB1.out.trans (h2.mono HB1.out.size)); have HS3 := Lib.hid h1; clear h1 h2)
        | (go_at_call 102; refine (HNo.out A0 c0 ps _ w3 (by omega) HS3.out.els).mono ?_; rintro e w4 ⟨A1, c1, vs, rfl, hL⟩; have HE4 := Lib.hid (HFn.out w3 w4 A1 c1 vs _ HB3.out hL); have k2 := (HE4.out.1.cell 2).trans (show _ = some _ from rfl); have kf := HE4.out.1.free 2; have kl := HE4.out.1.lt; clear hL))
      obtain ⟨w5, hw5⟩ : ∃ w5, w5 = w4.setCell ⟨g, 2, none⟩ (.slice A1 (normS ps).length c1) := ⟨_, rfl⟩
      rw [← hw5] at HE4 ⊢
      clear hw5 k2 kf
      have k2 := (HE4.out.2.bk.cell 2).trans (show _ = some _ from rfl)
      have HWx := Lib.hid (HWy.out A1 c1 _ w5 HE4.out.2.am.sp)
      go_wp2_with (go_at_call 86; refine HWx.out.mono ?_; rintro e w6 ⟨rfl, h1⟩; have HB5 := Lib.hid h1; clear h1)
      go_ret
      exact (HE4.out.2.go HB5.out).ret 0
end
theorem refLay_any (vc g k : Nat) (vA : Option Addr) (a : Atr) (Ap Ac : Option Addr) (cp cc : Nat) (G : Foot) (w : World) (v : List UInt8) (h1 : 1 ≤ k) (h8 : k ≤ 8) (hlg : longB k v.length = true) (hl : v.length ≤ 50000) (hg : Bk w g 29 (atc a Ap cp Ac cc).toArray) (hm : Am w G a Ap cp Ac cc) (hG : ∀ k, G k → k < w.heap.size ∧ k ≠ g) (hv : Bn w (fun _ => True) vA vc v) :
    Calls Tryz.prog 65 #[.pointer (some ⟨g, 0, none⟩), .int .i64 (k : Int), .slice vA v.length vc] w (RetLy g (layS a k v).1 (layS a k v).2 G w) := by
  have h : k = 1 ∨ k = 2 ∨ k = 3 ∨ k = 4 ∨ k = 5 ∨ k = 6 ∨ k = 7 ∨ k = 8 := by omega
  rcases h with rfl | rfl | rfl | rfl | rfl | rfl | rfl | rfl
  · have hx : v.length = 1 := of_decide_eq_true hlg
    obtain ⟨b, rfl⟩ := List.length_eq_one_iff.1 hx
    exact rlay_1 vc g vA a Ap Ac cp cc G w [b] b rfl hl hg hm hG hv
  · exact rlay_2 vc g vA a Ap Ac cp cc G w v hl hg hm hG hv
  · exact rlay_3 vc g vA a Ap Ac cp cc G w v (of_decide_eq_true hlg) hl hg hm hG hv
  · exact rlay_4 vc g vA a Ap Ac cp cc G w v (of_decide_eq_true hlg) hl hg hm hG hv
  · exact rlay_5 vc g vA a Ap Ac cp cc G w v (of_decide_eq_true hlg) hl hg hm hG hv
  · exact rlay_6 vc g vA a Ap Ac cp cc G w v hl hg hm hG hv
  · exact rlay_7 vc g vA a Ap Ac cp cc G w v (of_decide_eq_true hlg) hl hg hm hG hv
  · exact rlay_8 vc g vA a Ap Ac cp cc G w v hl hg hm hG hv
end Go.Proofs.YtaeeeinpelfppaaGreat.attr
