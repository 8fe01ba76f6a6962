/- What update.good, Good and Same return, and confluenceref10.Same. Condition: at most 100000 prefixes, numbers and pieces each. What update.Same returns. Condition: at most 100000 prefixes, numbers and pieces each. -/
import Derived.Test.YtaeeeinpelfppaaGreatUpdSl
import Derived.Test.YtaeeeinpelfppaaGreatUpdDecode
namespace Go.Proofs.YtaeeeinpelfppaaGreat.upd
open Go.RowKit Go.Proofs.YtaeeeinpelfppaaGreat.kit Go.Proofs.YtaeeeinpelfppaaGreat.mem Go.Proofs.YtaeeeinpelfppaaGreat.foot Go.Proofs.YtaeeeinpelfppaaGreat.nums Go.Proofs.YtaeeeinpelfppaaGreat.asn Go.Proofs.YtaeeeinpelfppaaGreat.pth Go.Proofs.YtaeeeinpelfppaaGreat.octet Go.Proofs.YtaeeeinpelfppaaGreat.attr
set_option linter.unusedVariables false
set_option linter.unusedSimpArgs false
def GoodU (u : Upd) : Prop := nlri.goodL u.gone = true ∧ nlri.goodL u.here = true ∧ (u.here = [] → u.a = zeroA) ∧ (u.here ≠ [] → GoodA u.a ∧ missK u.a.has = 0)
/-- an Update's numbers are small, its addresses are addresses -/
structure Ub (u : Upd) : Prop where
  gl : u.gone.length ≤ 50000
  hl : u.here.length ≤ 50000
  gw : ∀ q ∈ u.gone, q.1 < 4294967296
  hw : ∀ q ∈ u.here, q.1 < 4294967296
  pl : nsz u.a.path ≤ 100000
  cl : u.a.comms.length ≤ 100000
theorem fld_code (a b : Int) (A : Option Addr) (n c : Nat) (w : World) : (Instr.field 33 (.agg #[.int .i64 a, .int .i64 b, .slice A n c]) 0).run Tryz.prog w = .ok (.int .i64 a) w := by kernel_rfl
section
variable (u : Upd) (A1 : Option Addr) (c1 : Nat) (Ap : Option Addr) (cp : Nat) (Ac : Option Addr) (cc : Nat) (A2 : Option Addr) (c2 : Nat) (G : Foot) (w : World)
set_option maxRecDepth 100000 in
set_option maxHeartbeats 8000000 in
theorem good_any (z : Bool) (hz : z = true ↔ GoodU u) (hm : Um w G u A1 c1 Ap cp Ac cc A2 c2) (hu : Ub u) :
    Calls Tryz.prog 37 #[.agg (upc A1 u.gone.length c1 (atc u.a Ap cp Ac cc) A2 u.here.length c2).toArray] w fun e w' => e = .returned (.bool z) ∧ Below w.heap.size w w' := by
  have HSz : Hid ((Tryz.prog.info? 29).map (·.size) = some 9) := info_atr
  obtain ⟨z3, hz3⟩ := bool_of (u.a = zeroA)
  obtain ⟨zg, hzg⟩ := bool_of (GoodA u.a)
  have HB : Hid (Below w.heap.size w (w.alloc (.cells (upc A1 u.gone.length c1 (atc u.a Ap cp Ac cc) A2 u.here.length c2).toArray 31))) := (Below.refl _ _).alloc (Nat.le_refl _) _
  have HCg : Hid (∀ w', Below w.heap.size w w' → Calls Tryz.prog 71 #[.slice A1 u.gone.length c1, .func (.func 72) #[] #[]] w' fun e w2 => e = .returned (.bool (!nlri.goodL u.gone)) ∧ Below w'.heap.size w' w2) := fun w' h => contains_any A1 c1 u.gone G w' (by have := hu.gl; omega) (hm.gone.bel h) hu.gw
  have HCh : Hid (∀ w', Below w.heap.size w w' → Calls Tryz.prog 71 #[.slice A2 u.here.length c2, .func (.func 72) #[] #[]] w' fun e w2 => e = .returned (.bool (!nlri.goodL u.here)) ∧ Below w'.heap.size w' w2) := fun w' h => contains_any A2 c2 u.here G w' (by have := hu.hl; omega) (hm.here.bel h) hu.hw
  have HSm : Hid (∀ w', Below w.heap.size w w' → Calls Tryz.prog 47 #[.agg (atc u.a Ap cp Ac cc).toArray, .agg zeroC.toArray] w' fun e w2 => e = .returned (.bool z3) ∧ Below w'.heap.size w' w2) := fun w' h => SameP_any u.a zeroA Ap Ac none none cp cc 0 0 G G w' z3 hz3 (hm.at_.bel h) (Am.zero _ _) (by have := hu.pl; omega) (Nat.zero_le _) (by have := hu.cl; omega) (Nat.zero_le _)
  have HGd : Hid (∀ w', Below w.heap.size w w' → Calls Tryz.prog 73 #[.agg (atc u.a Ap cp Ac cc).toArray] w' fun e w2 => e = .returned (.bool zg) ∧ Below w'.heap.size w' w2) := fun w' h => GoodP_any u.a Ap Ac cp cc G w' zg hzg (hm.at_.bel h) hu.pl (by have := hu.cl; omega)
  have HWl := Lib.hid (fun (w' : World) => Well_any u.a Ap Ac cp cc w')
  have hfl := fld_code
  unfold RetN at HWl
  have HZ : Hid (z = (nlri.goodL u.gone && (nlri.goodL u.here && (if u.here.length = 0 then z3 else (zg && decide (missC (missK u.a.has) = 0)))))) := by
    rw [Hid, Bool.eq_iff_iff, hz]
    unfold GoodU
    simp only [Bool.and_eq_true]
    rcases hh : u.here with _ | ⟨p, t⟩
    · simp only [List.length_nil, if_true, hz3]
      exact ⟨fun h => ⟨h.1, h.2.1, h.2.2.1 (by trivial)⟩, fun h => ⟨h.1, h.2.1, fun _ => h.2.2, fun h => absurd (by trivial) h⟩⟩
    · rw [if_neg (by simp)]
      simp only [Bool.and_eq_true, decide_eq_true_iff, hzg]
      have hk : missC (missK u.a.has) = 0 ↔ missK u.a.has = 0 := by
        unfold missC
        split
        · rename_i h; simp [h]
        · rename_i h
          exact ⟨(fun e => by cases e), fun e => absurd e h⟩
      rw [hk]
      exact ⟨fun h => ⟨h.1, h.2.1, h.2.2.2 (by simp)⟩, fun h => ⟨h.1, h.2.1, fun e => (by cases e), fun _ => h.2.2⟩⟩
  have HK : Hid (∀ w', Below w.heap.size w w' → (∀ k, k < w.heap.size → True) → True) := fun _ _ _ => trivial
  have HU : Hid (∀ w', Below (w.alloc (.cells (upc A1 u.gone.length c1 (atc u.a Ap cp Ac cc) A2 u.here.length c2).toArray 31)).heap.size (w.alloc (.cells (upc A1 u.gone.length c1 (atc u.a Ap cp Ac cc) A2 u.here.length c2).toArray 31)) w' → Bk w' w.heap.size 31 (upc A1 u.gone.length c1 (atc u.a Ap cp Ac cc) A2 u.here.length c2).toArray) := fun w' h => (Bk.new w _ _).below h (by simp)
  have Hv0 : Hid (u.a.has = u.a.has) := rfl
  clear hm hz3 hzg hz HK
  obtain ⟨w1, hw1⟩ : ∃ w1, w1 = w.alloc (.cells (upc A1 u.gone.length c1 (atc u.a Ap cp Ac cc) A2 u.here.length c2).toArray 31) := ⟨_, rfl⟩
  rw [← hw1] at HB HU
  have HLt : Hid (∀ w', Below w1.heap.size w1 w' → Below w.heap.size w w') := fun w' h => HB.out.trans (h.mono HB.out.size)
  have K1 := HU.out w1 (Below.refl _ _)
  have x0 := K1.cell 0
  simp [upc, atc] at x0
  have HCg1 := Lib.hid (HCg.out w1 HB.out)
  clear K1
  generalize missC (missK u.a.has) = mc at *
  generalize missD (missK u.a.has) = md at *
  go_enter Tryz.func37, Tryz.ntmps37
  go_upto_region 1 with fail
  rw [← hw1]
  clear hw1
  rcases hg1 : nlri.goodL u.gone with _ | _
  · rw [hg1] at HZ HCg1
    have hz : z = false := HZ.out
    subst hz
    clear hg1 HZ
    go_wp2_with (go_at_call 71; refine HCg1.out.mono ?_; rintro e w2 ⟨rfl, h⟩; have HB2 := Lib.hid (HB.out.trans (h.mono HB.out.size)); clear h)
    go_ret
    exact ⟨rfl, HB2.out⟩
  · rw [hg1] at HZ HCg1
    clear hg1
    rcases hg2 : nlri.goodL u.here with _ | _
    · rw [hg2] at HZ HCh
      have hz : z = false := HZ.out
      subst hz
      clear hg2 HZ
      go_wp2_with (go_at_call 71; first
        | (refine HCg1.out.mono ?_; rintro e w2 ⟨rfl, h⟩; have HB2 := Lib.hid (HB.out.trans (h.mono HB.out.size)); have x10 := (HU.out w2 h).cell 10; simp [upc, atc] at x10; have HCh2 := Lib.hid (HCh.out w2 HB2.out); clear h HCg1)
        | (refine HCh2.out.mono ?_; rintro e w3 ⟨rfl, h⟩; have HB3 := Lib.hid (HB2.out.trans (h.mono HB2.out.size)); clear h))
      go_ret
      exact ⟨rfl, HB3.out⟩
    · rw [hg2] at HZ HCh
      clear hg2
      go_upto_region 3 with (go_at_call 71; first
        | (refine HCg1.out.mono ?_; rintro e w2 ⟨rfl, h⟩; have HB2 := Lib.hid (HB.out.trans (h.mono HB.out.size)); have HX2 := Lib.hid h; have x10 := (HU.out w2 h).cell 10; simp [upc, atc] at x10; have HCh2 := Lib.hid (HCh.out w2 HB2.out); clear h HCg1)
        | (refine HCh2.out.mono ?_; rintro e w3 ⟨rfl, h⟩; have HB3 := Lib.hid (HB2.out.trans (h.mono HB2.out.size)); have HX3 := Lib.hid (HX2.out.trans (h.mono HX2.out.size)); clear h))
      have HK3 := Lib.hid (HU.out w3 HX3.out)
      have y10 := HK3.out.cell 10
      simp [upc, atc] at y10
      have HSm3 := Lib.hid (HSm.out w3 HB3.out)
      have HGd3 := Lib.hid (HGd.out w3 HB3.out)
      clear HCh2
      rcases Nat.eq_zero_or_pos u.here.length with h0 | hpos
      · have hz : z = z3 := by have := HZ.out; rw [if_pos h0] at this; simpa using this
        have d0 : ((u.here.length : Int) == 0) = true := by rw [beq_iff_eq]; omega
        subst hz
        clear h0 HZ
        go_wp2_with (first
          | (refine wpList_loadMid rfl 29 (.tmp 15) rfl w.heap.size 1 (by rfl) 31 [.slice A1 u.gone.length c1] (atc u.a Ap cp Ac cc) [.slice A2 u.here.length c2] _ HK3.out rfl Tryz.underlying29 (by rfl) HSz.out ?_)
          | (go_at_call 47; refine HSm3.out.mono ?_; rintro e w4 ⟨rfl, h⟩; have HB4 := Lib.hid (HB3.out.trans (h.mono HB3.out.size)); clear h))
        go_ret
        exact ⟨rfl, HB4.out⟩
      · have hz : z = (zg && decide (mc = 0)) := by have := HZ.out; rw [if_neg (by omega)] at this; simpa using this
        have d0 : ((u.here.length : Int) == 0) = false := by rw [beq_eq_false_iff_ne]; omega
        have HZz := Lib.hid hz
        clear hz hpos HZ
        rcases zg with _ | _
        · have hz : z = false := HZz.out
          subst hz
          go_wp2_with (first
            | (refine wpList_loadMid rfl 29 (.tmp 19) rfl w.heap.size 1 (by rfl) 31 [.slice A1 u.gone.length c1] (atc u.a Ap cp Ac cc) [.slice A2 u.here.length c2] _ HK3.out rfl Tryz.underlying29 (by rfl) HSz.out ?_)
            | (go_at_call 73; refine HGd3.out.mono ?_; rintro e w4 ⟨rfl, h⟩; have HB4 := Lib.hid (HB3.out.trans (h.mono HB3.out.size)); clear h))
          go_ret
          exact ⟨rfl, HB4.out⟩
        · go_wp2_with (first
            | (refine wpList_loadMid rfl 29 (.tmp 19) rfl w.heap.size 1 (by rfl) 31 [.slice A1 u.gone.length c1] (atc u.a Ap cp Ac cc) [.slice A2 u.here.length c2] _ HK3.out rfl Tryz.underlying29 (by rfl) HSz.out ?_)
            | (go_at_call 73; refine HGd3.out.mono ?_; rintro e w4 ⟨rfl, h⟩; have HB4 := Lib.hid (HB3.out.trans (h.mono HB3.out.size)); have HX4 := HX3.out.trans (h.mono HX3.out.size); have V := HU.out w4 HX4; have v1 := V.cell 1; have v2 := V.cell 2; have v3 := V.cell 3; have v4 := V.cell 4; have v5 := V.cell 5; have v6 := V.cell 6; have v7 := V.cell 7; have v8 := V.cell 8; have v9 := V.cell 9; simp [upc, atc] at v1 v2 v3 v4 v5 v6 v7 v8 v9; have HWl4 : Hid (Calls Tryz.prog 26 #[.agg #[.int .i64 u.a.has, .int .i64 u.a.orig, .slice Ap u.a.path.length cp, .int .u32 u.a.hop, .int .u32 u.a.med, .int .u32 u.a.pref, .int .u32 u.a.aas, .int .u32 u.a.aid, .slice Ac u.a.comms.length cc]] w4 fun e w' => ∃ A n, e = .returned (.agg #[.int .i64 mc, .int .i64 mc, .slice A md.length n]) ∧ Bn w' (fun k => w4.heap.size ≤ k) A n md ∧ Below w4.heap.size w4 w') := HWl.out w4; clear h HX4 V)
            | (go_at_call 26; refine HWl4.out.mono ?_; rintro e w5 ⟨An, cn, rfl, h1, h⟩; have HB5 := Lib.hid (HB4.out.trans (h.mono HB4.out.size)); clear h1 h))
          go_ret
          exact ⟨by rw [HZz.out]; simp; rw [Bool.eq_iff_iff]; simp, HB5.out⟩
set_option maxRecDepth 100000 in
set_option maxHeartbeats 4000000 in
theorem Good_any (z : Bool) (hz : z = true ↔ GoodU u) (hm : Um w G u A1 c1 Ap cp Ac cc A2 c2) (hu : Ub u) :
    Calls Tryz.prog 13 #[.agg (upc A1 u.gone.length c1 (atc u.a Ap cp Ac cc) A2 u.here.length c2).toArray] w fun e w' => e = .returned (.bool z) ∧ Below w.heap.size w w' := by
  have HSu : Hid ((Tryz.prog.info? 31).map (·.size) = some 11) := info_upd
  have hb : Below w.heap.size w (w.alloc (.cells (upc A1 u.gone.length c1 (atc u.a Ap cp Ac cc) A2 u.here.length c2).toArray 31)) := (Below.refl _ _).alloc (Nat.le_refl _) _
  have HB := Lib.hid hb
  have HG := Lib.hid (good_any u A1 c1 Ap cp Ac cc A2 c2 G _ z hz (hm.bel hb) hu)
  have HK : Hid (Bk (w.alloc (.cells (upc A1 u.gone.length c1 (atc u.a Ap cp Ac cc) A2 u.here.length c2).toArray 31)) w.heap.size 31 (upc A1 u.gone.length c1 (atc u.a Ap cp Ac cc) A2 u.here.length c2).toArray) := Bk.new w _ _
  have HCl : Hid ((upc A1 u.gone.length c1 (atc u.a Ap cp Ac cc) A2 u.here.length c2).length = 11) := rfl
  clear hm hz hb
  generalize upc A1 u.gone.length c1 (atc u.a Ap cp Ac cc) A2 u.here.length c2 = cs at *
  go_enter Tryz.func13, Tryz.ntmps13
  go_wp2_with (first
    | (refine wpList_loadBk rfl 31 (.tmp 1) rfl w.heap.size (by rfl) 31 cs.toArray _ HK.out Tryz.underlying31 (by rfl) (by rw [List.size_toArray, HCl.out]; exact HSu.out) ?_)
    | (go_at_call 37; refine HG.out.mono ?_; rintro e w2 ⟨rfl, h⟩; have HB2 := Lib.hid (HB.out.trans (h.mono HB.out.size)); clear h))
  go_ret
  exact ⟨rfl, HB2.out⟩
end
set_option maxRecDepth 100000 in
set_option maxHeartbeats 8000000 in
theorem refSame10_any (u v : Upd) (A1 : Option Addr) (c1 : Nat) (Ap : Option Addr) (cp : Nat) (Ac : Option Addr) (cc : Nat) (A2 : Option Addr) (c2 : Nat) (B1 : Option Addr) (d1 : Nat) (Bp : Option Addr) (dp : Nat) (Bc : Option Addr) (dc : Nat) (B2 : Option Addr) (d2 : Nat) (G H : Foot) (w : World) (z : Bool) (hz : z = true ↔ u = v)
    (hm : Um w G u A1 c1 Ap cp Ac cc A2 c2) (hn : Um w H v B1 d1 Bp dp Bc dc B2 d2) (h1 : u.gone.length ≤ 100000) (h2 : u.here.length ≤ 100000) (h3 : v.gone.length ≤ 100000) (h4 : v.here.length ≤ 100000) (h5 : nsz u.a.path ≤ 1000000) (h6 : nsz v.a.path ≤ 1000000) (h7 : u.a.comms.length ≤ 1000000) (h8 : v.a.comms.length ≤ 1000000) :
    Calls Tryz.prog 8 #[.agg (upc A1 u.gone.length c1 (atc u.a Ap cp Ac cc) A2 u.here.length c2).toArray, .agg (upc B1 v.gone.length d1 (atc v.a Bp dp Bc dc) B2 v.here.length d2).toArray] w fun e w' => e = .returned (.bool z) ∧ Below w.heap.size w w' := by
  obtain ⟨z3, hz3⟩ := bool_of (u.a = v.a)
  obtain ⟨hb, hk1, hk2⟩ := heads w (upc A1 u.gone.length c1 (atc u.a Ap cp Ac cc) A2 u.here.length c2) (upc B1 v.gone.length d1 (atc v.a Bp dp Bc dc) B2 v.here.length d2) 31 31
  have HZ : Hid (z = (decide (u.gone = v.gone) && (decide (u.here = v.here) && z3))) := by
    rw [Hid, Bool.eq_iff_iff, hz]
    simp only [Bool.and_eq_true, decide_eq_true_iff, hz3]
    exact ⟨fun h => by subst h; exact ⟨rfl, rfl, rfl⟩, fun h => by
      obtain ⟨g1, a1, h1⟩ := u
      obtain ⟨g2, a2, h2⟩ := v
      simp only at h
      obtain ⟨rfl, rfl, rfl⟩ := h
      rfl⟩
  have HSg : Hid (∀ w', Below w.heap.size w w' → Calls Tryz.prog 33 #[.slice A1 u.gone.length c1, .slice B1 v.gone.length d1] w' fun e w2 => e = .returned (.bool (decide (u.gone = v.gone))) ∧ Below w'.heap.size w' w2) := fun w' h => refSame07_any A1 B1 c1 d1 u.gone v.gone G H w' h1 h3 (hm.gone.bel h) (hn.gone.bel h)
  have HSh : Hid (∀ w', Below w.heap.size w w' → Calls Tryz.prog 33 #[.slice A2 u.here.length c2, .slice B2 v.here.length d2] w' fun e w2 => e = .returned (.bool (decide (u.here = v.here))) ∧ Below w'.heap.size w' w2) := fun w' h => refSame07_any A2 B2 c2 d2 u.here v.here G H w' h2 h4 (hm.here.bel h) (hn.here.bel h)
  have HSa : Hid (∀ w', Below w.heap.size w w' → Calls Tryz.prog 34 #[.agg #[.int .i64 u.a.has, .int .i64 u.a.orig, .slice Ap u.a.path.length cp, .int .u32 u.a.hop, .int .u32 u.a.med, .int .u32 u.a.pref, .int .u32 u.a.aas, .int .u32 u.a.aid, .slice Ac u.a.comms.length cc], .agg #[.int .i64 v.a.has, .int .i64 v.a.orig, .slice Bp v.a.path.length dp, .int .u32 v.a.hop, .int .u32 v.a.med, .int .u32 v.a.pref, .int .u32 v.a.aas, .int .u32 v.a.aid, .slice Bc v.a.comms.length dc]] w' fun e w2 => e = .returned (.bool z3) ∧ Below w'.heap.size w' w2) := fun w' h => refSame_any u.a v.a Ap Ac Bp Bc cp cc dp dc G H w' z3 hz3 (hm.at_.bel h) (hn.at_.bel h) h5 h6 h7 h8
  obtain ⟨w1, hw1⟩ : ∃ w1, w1 = (w.alloc (.cells (upc A1 u.gone.length c1 (atc u.a Ap cp Ac cc) A2 u.here.length c2).toArray 31)).alloc (.cells (upc B1 v.gone.length d1 (atc v.a Bp dp Bc dc) B2 v.here.length d2).toArray 31) := ⟨_, rfl⟩
  rw [← hw1] at hb hk1 hk2
  have HB := Lib.hid hb
  have HK1 := Lib.hid hk1
  have HK2 := Lib.hid hk2
  have x0 := hk1.cell 0
  have y0 := hk2.cell 0
  simp [upc, atc] at x0 y0
  have HSg1 := Lib.hid (HSg.out w1 hb)
  clear hm hn hz hz3 hb hk1 hk2
  generalize decide (u.gone = v.gone) = b1 at *
  generalize decide (u.here = v.here) = b2 at *
  go_enter Tryz.func8, Tryz.ntmps8
  go_upto_region 1 with fail
  rw [← hw1]
  clear hw1
  rcases b1 with _ | _
  · have hz : z = false := HZ.out
    subst hz
    go_wp2_with (go_at_call 33; refine HSg1.out.mono ?_; rintro e w2 ⟨rfl, h⟩; have HB2 := Lib.hid (HB.out.trans (h.mono HB.out.size)); clear h)
    go_ret
    exact ⟨rfl, HB2.out⟩
  · rcases b2 with _ | _
    · have hz : z = false := HZ.out
      subst hz
      go_wp2_with (go_at_call 33; first
        | (refine HSg1.out.mono ?_; rintro e w2 ⟨rfl, h⟩; have HB2 := Lib.hid (HB.out.trans (h.mono HB.out.size)); have x10 := (HK1.out.below h HK1.out.lt).cell 10; have y10 := (HK2.out.below h HK2.out.lt).cell 10; simp [upc, atc] at x10 y10; have HSh2 := Lib.hid (HSh.out w2 HB2.out); clear h HSg1)
        | (refine HSh2.out.mono ?_; rintro e w3 ⟨rfl, h⟩; have HB3 := Lib.hid (HB2.out.trans (h.mono HB2.out.size)); clear h))
      go_ret
      exact ⟨rfl, HB3.out⟩
    · have hz : z = z3 := by rw [HZ.out]; simp
      subst hz
      go_wp2_with (first
        | (go_at_call 33; first
          | (refine HSg1.out.mono ?_; rintro e w2 ⟨rfl, h⟩; have HB2 := Lib.hid (HB.out.trans (h.mono HB.out.size)); have k1 := HK1.out.below h HK1.out.lt; have k2 := HK2.out.below h HK2.out.lt; have L1 := Lib.hid k1; have L2 := Lib.hid k2; have x10 := k1.cell 10; have y10 := k2.cell 10; simp [upc, atc] at x10 y10; have HSh2 := Lib.hid (HSh.out w2 HB2.out); clear h HSg1 k1 k2)
          | (refine HSh2.out.mono ?_; rintro e w3 ⟨rfl, h⟩; have HB3 := Lib.hid (HB2.out.trans (h.mono HB2.out.size)); have V := L1.out.below h L1.out.lt; have U := L2.out.below h L2.out.lt; have v1 := V.cell 1; have v2 := V.cell 2; have v3 := V.cell 3; have v4 := V.cell 4; have v5 := V.cell 5; have v6 := V.cell 6; have v7 := V.cell 7; have v8 := V.cell 8; have v9 := V.cell 9; have u1 := U.cell 1; have u2 := U.cell 2; have u3 := U.cell 3; have u4 := U.cell 4; have u5 := U.cell 5; have u6 := U.cell 6; have u7 := U.cell 7; have u8 := U.cell 8; have u9 := U.cell 9; simp [upc, atc] at v1 v2 v3 v4 v5 v6 v7 v8 v9 u1 u2 u3 u4 u5 u6 u7 u8 u9; have HSa3 := Lib.hid (HSa.out w3 HB3.out); clear h V U))
        | (go_at_call 34; refine HSa3.out.mono ?_; rintro e w4 ⟨rfl, h⟩; have HB4 := Lib.hid (HB3.out.trans (h.mono HB3.out.size)); clear h))
      go_ret
      exact ⟨rfl, HB4.out⟩
end Go.Proofs.YtaeeeinpelfppaaGreat.upd

namespace Go.Proofs.YtaeeeinpelfppaaGreat.upd
open Go.RowKit Go.Proofs.YtaeeeinpelfppaaGreat.kit Go.Proofs.YtaeeeinpelfppaaGreat.mem Go.Proofs.YtaeeeinpelfppaaGreat.foot Go.Proofs.YtaeeeinpelfppaaGreat.nums Go.Proofs.YtaeeeinpelfppaaGreat.asn Go.Proofs.YtaeeeinpelfppaaGreat.pth Go.Proofs.YtaeeeinpelfppaaGreat.octet Go.Proofs.YtaeeeinpelfppaaGreat.attr
set_option linter.unusedVariables false
set_option linter.unusedSimpArgs false
set_option maxRecDepth 100000 in
set_option maxHeartbeats 8000000 in
theorem Same_any (u v : Upd) (A1 : Option Addr) (c1 : Nat) (Ap : Option Addr) (cp : Nat) (Ac : Option Addr) (cc : Nat) (A2 : Option Addr) (c2 : Nat) (B1 : Option Addr) (d1 : Nat) (Bp : Option Addr) (dp : Nat) (Bc : Option Addr) (dc : Nat) (B2 : Option Addr) (d2 : Nat) (G H : Foot) (w : World) (z : Bool) (hz : z = true ↔ u = v)
    (hm : Um w G u A1 c1 Ap cp Ac cc A2 c2) (hn : Um w H v B1 d1 Bp dp Bc dc B2 d2) (h1 : u.gone.length ≤ 100000) (h2 : u.here.length ≤ 100000) (h3 : v.gone.length ≤ 100000) (h4 : v.here.length ≤ 100000) (h5 : nsz u.a.path ≤ 1000000) (h6 : nsz v.a.path ≤ 1000000) (h7 : u.a.comms.length ≤ 1000000) (h8 : v.a.comms.length ≤ 1000000) :
    Calls Tryz.prog 15 #[.agg (upc A1 u.gone.length c1 (atc u.a Ap cp Ac cc) A2 u.here.length c2).toArray, .agg (upc B1 v.gone.length d1 (atc v.a Bp dp Bc dc) B2 v.here.length d2).toArray] w fun e w' => e = .returned (.bool z) ∧ Below w.heap.size w w' := by
  obtain ⟨z3, hz3⟩ := bool_of (u.a = v.a)
  obtain ⟨hb, hk1, hk2⟩ := heads w (upc A1 u.gone.length c1 (atc u.a Ap cp Ac cc) A2 u.here.length c2) (upc B1 v.gone.length d1 (atc v.a Bp dp Bc dc) B2 v.here.length d2) 31 31
  have HZ : Hid (z = (decide (u.gone = v.gone) && (decide (u.here = v.here) && z3))) := by
    rw [Hid, Bool.eq_iff_iff, hz]
    simp only [Bool.and_eq_true, decide_eq_true_iff, hz3]
    exact ⟨fun h => by subst h; exact ⟨rfl, rfl, rfl⟩, fun h => by
      obtain ⟨g1, a1, h1⟩ := u
      obtain ⟨g2, a2, h2⟩ := v
      simp only at h
      obtain ⟨rfl, rfl, rfl⟩ := h
      rfl⟩
  have HSg : Hid (∀ w', Below w.heap.size w w' → Calls Tryz.prog 46 #[.slice A1 u.gone.length c1, .slice B1 v.gone.length d1] w' fun e w2 => e = .returned (.bool (decide (u.gone = v.gone))) ∧ Below w'.heap.size w' w2) := fun w' h => upd.Equal_any A1 B1 c1 d1 u.gone v.gone G H w' h1 h3 (hm.gone.bel h) (hn.gone.bel h)
  have HSh : Hid (∀ w', Below w.heap.size w w' → Calls Tryz.prog 46 #[.slice A2 u.here.length c2, .slice B2 v.here.length d2] w' fun e w2 => e = .returned (.bool (decide (u.here = v.here))) ∧ Below w'.heap.size w' w2) := fun w' h => upd.Equal_any A2 B2 c2 d2 u.here v.here G H w' h2 h4 (hm.here.bel h) (hn.here.bel h)
  have HSa : Hid (∀ w', Below w.heap.size w w' → Calls Tryz.prog 47 #[.agg #[.int .i64 u.a.has, .int .i64 u.a.orig, .slice Ap u.a.path.length cp, .int .u32 u.a.hop, .int .u32 u.a.med, .int .u32 u.a.pref, .int .u32 u.a.aas, .int .u32 u.a.aid, .slice Ac u.a.comms.length cc], .agg #[.int .i64 v.a.has, .int .i64 v.a.orig, .slice Bp v.a.path.length dp, .int .u32 v.a.hop, .int .u32 v.a.med, .int .u32 v.a.pref, .int .u32 v.a.aas, .int .u32 v.a.aid, .slice Bc v.a.comms.length dc]] w' fun e w2 => e = .returned (.bool z3) ∧ Below w'.heap.size w' w2) := fun w' h => SameP_any u.a v.a Ap Ac Bp Bc cp cc dp dc G H w' z3 hz3 (hm.at_.bel h) (hn.at_.bel h) h5 h6 h7 h8
  obtain ⟨w1, hw1⟩ : ∃ w1, w1 = (w.alloc (.cells (upc A1 u.gone.length c1 (atc u.a Ap cp Ac cc) A2 u.here.length c2).toArray 31)).alloc (.cells (upc B1 v.gone.length d1 (atc v.a Bp dp Bc dc) B2 v.here.length d2).toArray 31) := ⟨_, rfl⟩
  rw [← hw1] at hb hk1 hk2
  have HB := Lib.hid hb
  have HK1 := Lib.hid hk1
  have HK2 := Lib.hid hk2
  have x0 := hk1.cell 0
  have y0 := hk2.cell 0
  simp [upc, atc] at x0 y0
  have HSg1 := Lib.hid (HSg.out w1 hb)
  clear hm hn hz hz3 hb hk1 hk2
  generalize decide (u.gone = v.gone) = b1 at *
  generalize decide (u.here = v.here) = b2 at *
  go_enter Tryz.func15, Tryz.ntmps15
  go_upto_region 1 with fail
  rw [← hw1]
  clear hw1
  rcases b1 with _ | _
  · have hz : z = false := HZ.out
    subst hz
    go_wp2_with (go_at_call 46; refine HSg1.out.mono ?_; rintro e w2 ⟨rfl, h⟩; have HB2 := Lib.hid (HB.out.trans (h.mono HB.out.size)); clear h)
    go_ret
    exact ⟨rfl, HB2.out⟩
  · rcases b2 with _ | _
    · have hz : z = false := HZ.out
      subst hz
      go_wp2_with (go_at_call 46; first
        | (refine HSg1.out.mono ?_; rintro e w2 ⟨rfl, h⟩; have HB2 := Lib.hid (HB.out.trans (h.mono HB.out.size)); have x10 := (HK1.out.below h HK1.out.lt).cell 10; have y10 := (HK2.out.below h HK2.out.lt).cell 10; simp [upc, atc] at x10 y10; have HSh2 := Lib.hid (HSh.out w2 HB2.out); clear h HSg1)
        | (refine HSh2.out.mono ?_; rintro e w3 ⟨rfl, h⟩; have HB3 := Lib.hid (HB2.out.trans (h.mono HB2.out.size)); clear h))
      go_ret
      exact ⟨rfl, HB3.out⟩
    · have hz : z = z3 := by rw [HZ.out]; simp
      subst hz
      go_wp2_with (first
        | (go_at_call 46; first
          | (refine HSg1.out.mono ?_; rintro e w2 ⟨rfl, h⟩; have HB2 := Lib.hid (HB.out.trans (h.mono HB.out.size)); have k1 := HK1.out.below h HK1.out.lt; have k2 := HK2.out.below h HK2.out.lt; have L1 := Lib.hid k1; have L2 := Lib.hid k2; have x10 := k1.cell 10; have y10 := k2.cell 10; simp [upc, atc] at x10 y10; have HSh2 := Lib.hid (HSh.out w2 HB2.out); clear h HSg1 k1 k2)
          | (refine HSh2.out.mono ?_; rintro e w3 ⟨rfl, h⟩; have HB3 := Lib.hid (HB2.out.trans (h.mono HB2.out.size)); have V := L1.out.below h L1.out.lt; have U := L2.out.below h L2.out.lt; have v1 := V.cell 1; have v2 := V.cell 2; have v3 := V.cell 3; have v4 := V.cell 4; have v5 := V.cell 5; have v6 := V.cell 6; have v7 := V.cell 7; have v8 := V.cell 8; have v9 := V.cell 9; have u1 := U.cell 1; have u2 := U.cell 2; have u3 := U.cell 3; have u4 := U.cell 4; have u5 := U.cell 5; have u6 := U.cell 6; have u7 := U.cell 7; have u8 := U.cell 8; have u9 := U.cell 9; simp [upc, atc] at v1 v2 v3 v4 v5 v6 v7 v8 v9 u1 u2 u3 u4 u5 u6 u7 u8 u9; have HSa3 := Lib.hid (HSa.out w3 HB3.out); clear h V U))
        | (go_at_call 47; refine HSa3.out.mono ?_; rintro e w4 ⟨rfl, h⟩; have HB4 := Lib.hid (HB3.out.trans (h.mono HB3.out.size)); clear h))
      go_ret
      exact ⟨rfl, HB4.out⟩
end Go.Proofs.YtaeeeinpelfppaaGreat.upd
