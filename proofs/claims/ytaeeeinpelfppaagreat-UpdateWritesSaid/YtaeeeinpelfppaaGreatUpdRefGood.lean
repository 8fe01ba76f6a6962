/- What confluenceref10.Good returns. Condition: at most 50000 prefixes, numbers and pieces each. -/
import Derived.Test.YtaeeeinpelfppaaGreatUpdSame
import Derived.Test.YtaeeeinpelfppaaGreatRefGood8
namespace Go.Proofs.YtaeeeinpelfppaaGreat.upd
open Go.RowKit Go.Proofs.YtaeeeinpelfppaaGreat.kit Go.Proofs.YtaeeeinpelfppaaGreat.mem Go.Proofs.YtaeeeinpelfppaaGreat.foot Go.Proofs.YtaeeeinpelfppaaGreat.nums Go.Proofs.YtaeeeinpelfppaaGreat.asn Go.Proofs.YtaeeeinpelfppaaGreat.pth Go.Proofs.YtaeeeinpelfppaaGreat.octet Go.Proofs.YtaeeeinpelfppaaGreat.attr
set_option linter.unusedVariables false
set_option linter.unusedSimpArgs false
/-- a part of a block read, behind a guard or not -/
theorem loadMidG {P : Program} {ops : Array Oper} {rest : List Oper} {o : Oper} {a : Act} {w : World} {Q : Exit → Act → World → Prop} (hw : Region.wanted o (yielded ops a.tmps) = true) (ty : TypeId) (x : Operand) (ho : o.op = .load ty x)
    (b k : Nat) (hx : a.eval x = .pointer (some ⟨b, k, none⟩)) (cs : List Value) (d : TypeDesc) (hc : w.rangeAt b k cs)
    (hu : P.underlying ty = some d) (hd : d.isRow = true) (hi : (P.info? ty).map (·.size) = some cs.length)
    (h : wpList P ops Q rest (a.put o.dst (.agg cs.toArray)) w) : wpList P ops Q (o :: rest) a w :=
  wpList_step fun K hK => by
    rw [if_pos hw]
    exact wp_load_mid ty x ho b k hx cs d hc hu hd hi (hK _ _ h)
section
variable (u : Upd) (A1 : Option Addr) (c1 : Nat) (Ap : Option Addr) (cp : Nat) (Ac : Option Addr) (cc : Nat) (A2 : Option Addr) (c2 : Nat) (G : Foot) (w : World)
set_option maxRecDepth 100000 in
set_option maxHeartbeats 8000000 in
theorem refGood10_any (z : Bool) (hz : z = true ↔ GoodU u) (hm : Um w G u A1 c1 Ap cp Ac cc A2 c2) (hu : Ub u) :
    Calls Tryz.prog 14 #[.agg (upc A1 u.gone.length c1 (atc u.a Ap cp Ac cc) A2 u.here.length c2).toArray] w fun e w' => e = .returned (.bool z) ∧ Below w.heap.size w w' := by
  have HSz : Hid ((Tryz.prog.info? 29).map (·.size) = some 9) := info_atr
  obtain ⟨z3, hz3⟩ := bool_of (u.a = zeroA)
  obtain ⟨zg, hzg⟩ := bool_of (GoodA u.a)
  have HB : Hid (Below w.heap.size w (w.alloc (.cells (upc A1 u.gone.length c1 (atc u.a Ap cp Ac cc) A2 u.here.length c2).toArray 31))) := (Below.refl _ _).alloc (Nat.le_refl _) _
  have HCg : Hid (∀ w', Below w.heap.size w w' → Calls Tryz.prog 44 #[.slice A1 u.gone.length c1] w' fun e w2 => e = .returned (.bool (nlri.goodL u.gone)) ∧ Below w'.heap.size w' w2) := fun w' h => (nlri.Good_any A1 c1 w'.heap.size u.gone w' (by have := hu.gl; unfold maxLen; omega) (Nat.le_refl _) (hm.gone.bel h).ps hu.gw)
  have HCh : Hid (∀ w', Below w.heap.size w w' → Calls Tryz.prog 44 #[.slice A2 u.here.length c2] w' fun e w2 => e = .returned (.bool (nlri.goodL u.here)) ∧ Below w'.heap.size w' w2) := fun w' h => (nlri.Good_any A2 c2 w'.heap.size u.here w' (by have := hu.hl; unfold maxLen; omega) (Nat.le_refl _) (hm.here.bel h).ps hu.hw)
  have HSm : Hid (∀ w', Below w.heap.size w w' → Calls Tryz.prog 34 #[.agg (atc u.a Ap cp Ac cc).toArray, .agg zeroC.toArray] w' fun e w2 => e = .returned (.bool z3) ∧ Below w'.heap.size w' w2) := fun w' h => refSame_any u.a zeroA Ap Ac none none cp cc 0 0 G G w' z3 hz3 (hm.at_.bel h) (Am.zero _ _) (by have := hu.pl; omega) (Nat.zero_le _) (by have := hu.cl; omega) (Nat.zero_le _)
  have HGd : Hid (∀ w', Below w.heap.size w w' → Calls Tryz.prog 45 #[.agg (atc u.a Ap cp Ac cc).toArray] w' fun e w2 => e = .returned (.bool zg) ∧ Below w'.heap.size w' w2) := fun w' h => refGood_any u.a Ap Ac cp cc G w' zg hzg (hm.at_.bel h) hu.pl (by have := hu.cl; omega)
  have HHs := Lib.hid (fun (k : Nat) (hk : k ≤ 8) (w' : World) => refHas_any u.a Ap Ac cp cc k hk w')
  have HZ : Hid (z = (nlri.goodL u.gone && (nlri.goodL u.here && (if u.here.length = 0 then z3 else (zg && (bitI u.a.has 1 && (bitI u.a.has 2 && bitI u.a.has 3))))))) := by
    rw [Hid, Bool.eq_iff_iff, hz]
    unfold GoodU
    have hk : missK u.a.has = 0 ↔ bitI u.a.has 1 = true ∧ bitI u.a.has 2 = true ∧ bitI u.a.has 3 = true := by
      unfold missK
      cases bitI u.a.has 1 <;> cases bitI u.a.has 2 <;> cases bitI u.a.has 3 <;> simp
    simp only [Bool.and_eq_true]
    rw [hk]
    rcases hh : u.here with _ | ⟨p, t⟩
    · simp only [List.length_nil, if_true, hz3]
      exact ⟨fun h => ⟨h.1, h.2.1, h.2.2.1 (by trivial)⟩, fun h => ⟨h.1, h.2.1, fun _ => h.2.2, fun h => absurd (by trivial) h⟩⟩
    · rw [if_neg (by simp)]
      simp only [Bool.and_eq_true, hzg]
      exact ⟨fun h => ⟨h.1, h.2.1, h.2.2.2 (by simp)⟩, fun h => ⟨h.1, h.2.1, fun e => (by cases e), fun _ => h.2.2⟩⟩
  have HK : Hid (∀ w', Below w.heap.size w w' → (∀ k, k < w.heap.size → True) → True) := fun _ _ _ => trivial
  have HU : Hid (∀ w', Below (w.alloc (.cells (upc A1 u.gone.length c1 (atc u.a Ap cp Ac cc) A2 u.here.length c2).toArray 31)).heap.size (w.alloc (.cells (upc A1 u.gone.length c1 (atc u.a Ap cp Ac cc) A2 u.here.length c2).toArray 31)) w' → Bk w' w.heap.size 31 (upc A1 u.gone.length c1 (atc u.a Ap cp Ac cc) A2 u.here.length c2).toArray) := fun w' h => (Bk.new w _ _).below h (by simp)
  clear hm hz3 hzg hz HK
  obtain ⟨w1, hw1⟩ : ∃ w1, w1 = w.alloc (.cells (upc A1 u.gone.length c1 (atc u.a Ap cp Ac cc) A2 u.here.length c2).toArray 31) := ⟨_, rfl⟩
  rw [← hw1] at HB HU
  have HLt : Hid (∀ w', Below w1.heap.size w1 w' → Below w.heap.size w w') := fun w' h => HB.out.trans (h.mono HB.out.size)
  have K1 := HU.out w1 (Below.refl _ _)
  have x0 := K1.cell 0
  simp [upc, atc] at x0
  have HCg1 := Lib.hid (HCg.out w1 HB.out)
  clear K1
  have HR : Hid (∀ w', Below w1.heap.size w1 w' → w'.rangeAt w.heap.size 1 (atc u.a Ap cp Ac cc)) := fun w' h => Bk.range (pre := [.slice A1 u.gone.length c1]) (HU.out w' h)
  have HH1 : Hid (∀ (w' : World), Calls Tryz.prog 32 #[.agg (atc u.a Ap cp Ac cc).toArray, .int .i64 1] w' fun e w2 => e = .returned (.bool (bitI u.a.has 1)) ∧ Below w'.heap.size w' w2) := HHs.out 1 (by omega)
  have HH2 : Hid (∀ (w' : World), Calls Tryz.prog 32 #[.agg (atc u.a Ap cp Ac cc).toArray, .int .i64 2] w' fun e w2 => e = .returned (.bool (bitI u.a.has 2)) ∧ Below w'.heap.size w' w2) := HHs.out 2 (by omega)
  have HH3 : Hid (∀ (w' : World), Calls Tryz.prog 32 #[.agg (atc u.a Ap cp Ac cc).toArray, .int .i64 3] w' fun e w2 => e = .returned (.bool (bitI u.a.has 3)) ∧ Below w'.heap.size w' w2) := HHs.out 3 (by omega)
  clear HHs
  generalize bitI u.a.has 1 = h1 at *
  generalize bitI u.a.has 2 = h2 at *
  generalize bitI u.a.has 3 = h3 at *
  go_enter Tryz.func14, Tryz.ntmps14
  go_upto_region 1 with fail
  rw [← hw1]
  clear hw1
  rcases hg1 : nlri.goodL u.gone with _ | _
  · rw [hg1] at HZ HCg1
    have hz : z = false := HZ.out
    subst hz
    clear hg1 HZ
    go_wp2_with (go_at_call 44; refine HCg1.out.mono ?_; rintro e w2 ⟨rfl, h⟩; have HB2 := Lib.hid (HB.out.trans (h.mono HB.out.size)); clear h)
    go_ret
    exact ⟨rfl, HB2.out⟩
  · rw [hg1] at HZ HCg1
    clear hg1
    rcases hg2 : nlri.goodL u.here with _ | _
    · rw [hg2] at HZ HCh
      have hz : z = false := HZ.out
      subst hz
      clear hg2 HZ
      go_wp2_with (go_at_call 44; first
        | (refine HCg1.out.mono ?_; rintro e w2 ⟨rfl, h⟩; have HB2 := Lib.hid (HB.out.trans (h.mono HB.out.size)); have x10 := (HU.out w2 h).cell 10; simp [upc, atc] at x10; have HCh2 := Lib.hid (HCh.out w2 HB2.out); clear h HCg1)
        | (refine HCh2.out.mono ?_; rintro e w3 ⟨rfl, h⟩; have HB3 := Lib.hid (HB2.out.trans (h.mono HB2.out.size)); clear h))
      go_ret
      exact ⟨rfl, HB3.out⟩
    · rw [hg2] at HZ HCh
      clear hg2
      go_upto_region 3 with (go_at_call 44; first
        | (refine HCg1.out.mono ?_; rintro e w2 ⟨rfl, h⟩; have HB2 := Lib.hid (HB.out.trans (h.mono HB.out.size)); have HX2 := Lib.hid h; have x10 := (HU.out w2 h).cell 10; simp [upc, atc] at x10; have HCh2 := Lib.hid (HCh.out w2 HB2.out); clear h HCg1)
        | (refine HCh2.out.mono ?_; rintro e w3 ⟨rfl, h⟩; have HB3 := Lib.hid (HB2.out.trans (h.mono HB2.out.size)); have HX3 := Lib.hid (HX2.out.trans (h.mono HX2.out.size)); clear h))
      have HK3 := Lib.hid (HU.out w3 HX3.out)
      have y10 := HK3.out.cell 10
      simp [upc, atc] at y10
      have HSm3 := Lib.hid (HSm.out w3 HB3.out)
      have HGd3 := Lib.hid (HGd.out w3 HB3.out)
      clear HCh2
      rcases Nat.eq_zero_or_pos u.here.length with h0 | hpos
      · have hz : z = z3 := by have := HZ.out; rw [if_pos h0] at this; simpa using this
        have d0 : ((u.here.length : Int) == 0) = true := by rw [beq_iff_eq]; omega
        subst hz
        clear h0 HZ
        go_wp2_with (first
          | (refine wpList_loadMid rfl 29 (.tmp 17) rfl w.heap.size 1 (by rfl) 31 [.slice A1 u.gone.length c1] (atc u.a Ap cp Ac cc) [.slice A2 u.here.length c2] _ HK3.out rfl Tryz.underlying29 (by rfl) HSz.out ?_)
          | (go_at_call 34; refine HSm3.out.mono ?_; rintro e w4 ⟨rfl, h⟩; have HB4 := Lib.hid (HB3.out.trans (h.mono HB3.out.size)); clear h))
        go_ret
        exact ⟨rfl, HB4.out⟩
      · have hz : z = (zg && (h1 && (h2 && h3))) := by have := HZ.out; rw [if_neg (by omega)] at this; simpa using this
        have d0 : ((u.here.length : Int) == 0) = false := by rw [beq_eq_false_iff_ne]; omega
        have HZz := Lib.hid hz
        clear hz hpos HZ
        have HR3 := Lib.hid (HR.out w3 HX3.out)
        rcases zg with _ | _
        · have hz : z = false := HZz.out
          subst hz
          clear HZz
          go_wp2_with (refine loadMidG (by rfl) 29 (.tmp 21) rfl w.heap.size 1 (by rfl) (atc u.a Ap cp Ac cc) _ HR3.out Tryz.underlying29 (by rfl) HSz.out ?_)
          refine HGd3.out.mono ?_
          rintro e w4 ⟨rfl, h⟩
          have HX4 := Lib.hid (HX3.out.trans (h.mono HX3.out.size))
          have HR4 := Lib.hid (HR.out w4 HX4.out)
          clear h
          go_wp2_with fail
          go_ret
          exact ⟨rfl, HLt.out _ HX4.out⟩
        · rcases h1 with _ | _
          · have hz : z = false := HZz.out
            subst hz
            clear HZz
            go_wp2_with (refine loadMidG (by rfl) 29 (.tmp 21) rfl w.heap.size 1 (by rfl) (atc u.a Ap cp Ac cc) _ HR3.out Tryz.underlying29 (by rfl) HSz.out ?_)
            refine HGd3.out.mono ?_
            rintro e w4 ⟨rfl, h⟩
            have HX4 := Lib.hid (HX3.out.trans (h.mono HX3.out.size))
            have HR4 := Lib.hid (HR.out w4 HX4.out)
            clear h
            go_wp2_with (refine loadMidG (by rfl) 29 (.tmp 25) rfl w.heap.size 1 (by rfl) (atc u.a Ap cp Ac cc) _ HR4.out Tryz.underlying29 (by rfl) HSz.out ?_)
            refine (HH1.out w4).mono ?_
            rintro e w5 ⟨rfl, h⟩
            have HX5 := Lib.hid (HX4.out.trans (h.mono HX4.out.size))
            have HR5 := Lib.hid (HR.out w5 HX5.out)
            clear h
            go_wp2_with fail
            go_ret
            exact ⟨rfl, HLt.out _ HX5.out⟩
          · rcases h2 with _ | _
            · have hz : z = false := HZz.out
              subst hz
              clear HZz
              go_wp2_with (refine loadMidG (by rfl) 29 (.tmp 21) rfl w.heap.size 1 (by rfl) (atc u.a Ap cp Ac cc) _ HR3.out Tryz.underlying29 (by rfl) HSz.out ?_)
              refine HGd3.out.mono ?_
              rintro e w4 ⟨rfl, h⟩
              have HX4 := Lib.hid (HX3.out.trans (h.mono HX3.out.size))
              have HR4 := Lib.hid (HR.out w4 HX4.out)
              clear h
              go_wp2_with (refine loadMidG (by rfl) 29 (.tmp 25) rfl w.heap.size 1 (by rfl) (atc u.a Ap cp Ac cc) _ HR4.out Tryz.underlying29 (by rfl) HSz.out ?_)
              refine (HH1.out w4).mono ?_
              rintro e w5 ⟨rfl, h⟩
              have HX5 := Lib.hid (HX4.out.trans (h.mono HX4.out.size))
              have HR5 := Lib.hid (HR.out w5 HX5.out)
              clear h
              go_wp2_with (refine loadMidG (by rfl) 29 (.tmp 30) rfl w.heap.size 1 (by rfl) (atc u.a Ap cp Ac cc) _ HR5.out Tryz.underlying29 (by rfl) HSz.out ?_)
              refine (HH2.out w5).mono ?_
              rintro e w6 ⟨rfl, h⟩
              have HX6 := Lib.hid (HX5.out.trans (h.mono HX5.out.size))
              have HR6 := Lib.hid (HR.out w6 HX6.out)
              clear h
              go_wp2_with fail
              go_ret
              exact ⟨rfl, HLt.out _ HX6.out⟩
            · have hz : z = h3 := by rw [HZz.out]; simp
              subst hz
              clear HZz
              go_wp2_with (refine loadMidG (by rfl) 29 (.tmp 21) rfl w.heap.size 1 (by rfl) (atc u.a Ap cp Ac cc) _ HR3.out Tryz.underlying29 (by rfl) HSz.out ?_)
              refine HGd3.out.mono ?_
              rintro e w4 ⟨rfl, h⟩
              have HX4 := Lib.hid (HX3.out.trans (h.mono HX3.out.size))
              have HR4 := Lib.hid (HR.out w4 HX4.out)
              clear h
              go_wp2_with (refine loadMidG (by rfl) 29 (.tmp 25) rfl w.heap.size 1 (by rfl) (atc u.a Ap cp Ac cc) _ HR4.out Tryz.underlying29 (by rfl) HSz.out ?_)
              refine (HH1.out w4).mono ?_
              rintro e w5 ⟨rfl, h⟩
              have HX5 := Lib.hid (HX4.out.trans (h.mono HX4.out.size))
              have HR5 := Lib.hid (HR.out w5 HX5.out)
              clear h
              go_wp2_with (refine loadMidG (by rfl) 29 (.tmp 30) rfl w.heap.size 1 (by rfl) (atc u.a Ap cp Ac cc) _ HR5.out Tryz.underlying29 (by rfl) HSz.out ?_)
              refine (HH2.out w5).mono ?_
              rintro e w6 ⟨rfl, h⟩
              have HX6 := Lib.hid (HX5.out.trans (h.mono HX5.out.size))
              have HR6 := Lib.hid (HR.out w6 HX6.out)
              clear h
              go_wp2_with (refine loadMidG (by rfl) 29 (.tmp 35) rfl w.heap.size 1 (by rfl) (atc u.a Ap cp Ac cc) _ HR6.out Tryz.underlying29 (by rfl) HSz.out ?_)
              refine (HH3.out w6).mono ?_
              rintro e w7 ⟨rfl, h⟩
              have HX7 := Lib.hid (HX6.out.trans (h.mono HX6.out.size))
              have HR7 := Lib.hid (HR.out w7 HX7.out)
              clear h
              go_wp2_with fail
              go_ret
              exact ⟨rfl, HLt.out _ HX7.out⟩
end
end Go.Proofs.YtaeeeinpelfppaaGreat.upd
