/- All that Update's walks stand on. Updates in memory; what update.wrong and confluenceref10.no return. No condition. What slices.ContainsFunc (with update.odd), slices.Equal, slices.Grow, slices.Concat of prefixes and confluenceref07.Same return. Condition: at most 100000 prefixes. -/
import Derived.Test.YtaeeeinpelfppaaGreatUpdMath
import Derived.Test.YtaeeeinpelfppaaGreatNlriRef
import Derived.Test.YtaeeeinpelfppaaGreatNlriLives
import Derived.Test.YtaeeeinpelfppaaGreatRefDecode8
import Derived.Test.YtaeeeinpelfppaaGreatRefSame8
import Derived.Test.YtaeeeinpelfppaaGreatAttrCode
import Derived.Test.YtaeeeinpelfppaaGreatMv
import Derived.Test.YtaeeeinpelfppaaGreatPfxFns
import Derived.Test.YtaeeeinpelfppaaGreatZeros


namespace Go.Proofs.YtaeeeinpelfppaaGreat.upd
open Go.RowKit Go.Proofs.YtaeeeinpelfppaaGreat.kit Go.Proofs.YtaeeeinpelfppaaGreat.mem Go.Proofs.YtaeeeinpelfppaaGreat.foot Go.Proofs.YtaeeeinpelfppaaGreat.nums Go.Proofs.YtaeeeinpelfppaaGreat.asn Go.Proofs.YtaeeeinpelfppaaGreat.pth Go.Proofs.YtaeeeinpelfppaaGreat.octet Go.Proofs.YtaeeeinpelfppaaGreat.attr Go.Proofs.YtaeeeinpelfppaaGreat.mv
set_option linter.unusedVariables false
set_option linter.unusedSimpArgs false
/-- prefixes in memory -/
structure Pw (w : World) (G : Foot) (A : Option Addr) (c : Nat) (l : List (Nat × Int)) : Prop where
  nil : A = none → c = 0
  cap : l.length ≤ c
  max : c ≤ maxLen
  rg : Rg w G 2 A l.length (pv l)
section
variable {w w' : World} {F G H : Foot} {A : Option Addr} {c : Nat} {l : List (Nat × Int)}
theorem Pw.chg (h : Pw w G A c l) (hc : Chg F w w') (hd : ∀ k, k < w.heap.size → G k → ¬ F k) : Pw w' G A c l := ⟨h.nil, h.cap, h.max, h.rg.chg hc hd⟩
theorem Pw.mono (h : Pw w G A c l) (hG : ∀ k, k < w.heap.size → G k → H k) : Pw w H A c l := ⟨h.nil, h.cap, h.max, h.rg.mono hG⟩
theorem Pw.bel (h : Pw w G A c l) (hb : Below w.heap.size w w') : Pw w' G A c l := ⟨h.nil, h.cap, h.max, h.rg.bel hb⟩
theorem Pw.ps (h : Pw w G A c l) : Ps w w.heap.size A l := h.rg.rd
theorem Pw.nil_ (w : World) (G : Foot) : Pw w G none 0 [] := ⟨fun _ => rfl, Nat.le_refl _, Nat.zero_le _, Rg.nil _ _ _ _⟩
theorem Pw.new (h : NewSl 2 l.length (pv l) w A c w') : Pw w' (fun k => w.heap.size ≤ k) A c l := ⟨h.nil, h.cap, h.max, Rg.of_rd h.rd (Nat.le_refl _) h.new⟩
end
/-- an Update in memory -/
structure Um (w : World) (G : Foot) (u : Upd) (A1 : Option Addr) (c1 : Nat) (Ap : Option Addr) (cp : Nat) (Ac : Option Addr) (cc : Nat) (A2 : Option Addr) (c2 : Nat) : Prop where
  gone : Pw w G A1 c1 u.gone
  at_ : Am w G u.a Ap cp Ac cc
  here : Pw w G A2 c2 u.here
section
variable {w w' : World} {F G H : Foot} {A1 Ap Ac A2 : Option Addr} {c1 cp cc c2 : Nat} {u : Upd}
theorem Um.chg (h : Um w G u A1 c1 Ap cp Ac cc A2 c2) (hc : Chg F w w') (hd : ∀ k, k < w.heap.size → G k → ¬ F k) : Um w' G u A1 c1 Ap cp Ac cc A2 c2 := ⟨h.gone.chg hc hd, h.at_.chg hc hd, h.here.chg hc hd⟩
theorem Um.mono (h : Um w G u A1 c1 Ap cp Ac cc A2 c2) (hG : ∀ k, k < w.heap.size → G k → H k) : Um w H u A1 c1 Ap cp Ac cc A2 c2 := ⟨h.gone.mono hG, h.at_.mono hG, h.here.mono hG⟩
theorem Um.bel (h : Um w G u A1 c1 Ap cp Ac cc A2 c2) (hb : Below w.heap.size w w') : Um w' G u A1 c1 Ap cp Ac cc A2 c2 := ⟨h.gone.bel hb, h.at_.bel hb, h.here.bel hb⟩
theorem Um.zero (w : World) (G : Foot) : Um w G zeroU none 0 none 0 none 0 none 0 := ⟨Pw.nil_ _ _, Am.zero _ _, Pw.nil_ _ _⟩
end
/-- an Update's cells -/
def upc (A1 : Option Addr) (n1 c1 : Nat) (cs : List Value) (A2 : Option Addr) (n2 c2 : Nat) : List Value := [.slice A1 n1 c1] ++ cs ++ [.slice A2 n2 c2]
def zeroUC : List Value := upc none 0 0 zeroC none 0 0
theorem info_upd : (Tryz.prog.info? 31).map (·.size) = some 11 := by kernel_rfl
def nt (c s : Int) (A : Option Addr) (n k : Nat) : List Value := [.int .i64 c, .int .i64 s, .slice A n k]
def zeroN : List Value := [.int .i64 0, .int .i64 0, .slice none 0 0]
/-- an Update or a notice handed back -/
def RetUp (G : World → Foot) (D : UDec) (w : World) (e : Ending) (w' : World) : Prop :=
  ∃ A1 c1 Ap cp Ac cc A2 c2 An cn, e = .returned (.tuple #[.agg (upc A1 (uU D).gone.length c1 (atc (uU D).a Ap cp Ac cc) A2 (uU D).here.length c2).toArray, .agg (nt (uC D) (uS D) An (uD D).length cn).toArray]) ∧ Um w' (G w) (uU D) A1 c1 Ap cp Ac cc A2 c2 ∧ Bn w' (G w) An cn (uD D) ∧ Below w.heap.size w w'
/-- two blocks made at a function's head -/
theorem heads (w : World) (cs ds : List Value) (t u : TypeId) : Below w.heap.size w ((w.alloc (.cells cs.toArray t)).alloc (.cells ds.toArray u)) ∧ Bk ((w.alloc (.cells cs.toArray t)).alloc (.cells ds.toArray u)) w.heap.size t cs.toArray ∧ Bk ((w.alloc (.cells cs.toArray t)).alloc (.cells ds.toArray u)) (w.heap.size + 1) u ds.toArray :=
  ⟨((Below.refl _ _).alloc (Nat.le_refl _) _).alloc (by simp) _, (Bk.new w _ _).alloc _, by have := Bk.new (w.alloc (.cells cs.toArray t)) u ds.toArray; rwa [World.size_alloc] at this⟩
set_option maxRecDepth 100000 in
set_option maxHeartbeats 2000000 in
theorem wrong_any (s : Int) (w : World) : Calls Tryz.prog 23 #[.int .i64 s] w fun e w' => e = .returned (.tuple #[.agg zeroUC.toArray, .agg (nt 3 s none 0 0).toArray]) ∧ Below w.heap.size w w' := by
  have HSu : Hid ((Tryz.prog.info? 31).map (·.size) = some 11) := info_upd
  have HSn : Hid ((Tryz.prog.info? 33).map (·.size) = some 3) := info_ntc
  obtain ⟨h1, h2, h3⟩ := heads w zeroUC zeroN 31 33
  obtain ⟨w1, hw1⟩ : ∃ w1, w1 = (w.alloc (.cells zeroUC.toArray 31)).alloc (.cells zeroN.toArray 33) := ⟨_, rfl⟩
  rw [← hw1] at h1 h2 h3
  have HB := Lib.hid h1
  have HK1 := Lib.hid h2
  have HK2 := Lib.hid h3
  clear h1 h2 h3
  have hw0 := hw1
  simp only [zeroUC, upc, zeroC, zeroN, List.cons_append, List.nil_append] at hw0
  clear hw1
  go_enter Tryz.func23, Tryz.ntmps23
  go_upto_region 1 with fail
  rw [show (_ : World) = w1 from hw0.symm]
  clear hw0
  refine wp_region_lit ?_
  go_wp2_with (first
    | (refine wpList_storeBk rfl 31 (.tmp 2) (.tmp 4) rfl w.heap.size (by rfl) zeroUC.toArray (by rfl) 31 zeroUC.toArray HK1.out HSu.out rfl (by rfl) ?_; intro w2 k2 c2 l2; have K2 := Lib.hid k2; have C2 := Lib.hid c2; have HK3 := Lib.hid (HK2.out.chg c2 (by omega)); clear k2 c2 l2)
    | (refine wpList_storeBk rfl 33 (.tmp 3) (.tmp 6) rfl (w.heap.size + 1) (by rfl) (nt 3 s none 0 0).toArray (by rfl) 33 zeroN.toArray HK3.out HSn.out rfl (by rfl) ?_; intro w3 k3 c3 l3; have K3 := Lib.hid k3; have C3 := Lib.hid c3; clear k3 c3 l3))
  have hb := HB.out.trans (C2.out.below (fun k e => Nat.le_of_eq e.symm) HB.out.size)
  refine bodyPost_ret (res_cc rfl _ _ w.heap.size (w.heap.size + 1) 31 33 zeroUC.toArray (nt 3 s none 0 0).toArray (0, 0) (0, 0) _ _ rfl (K2.out.chg C3.out (by omega)) Tryz.underlying31 rfl HSu.out rfl K3.out Tryz.underlying33 rfl HSn.out) rfl ⟨rfl, hb.trans (C3.out.below (fun k e => by omega) hb.size)⟩
end Go.Proofs.YtaeeeinpelfppaaGreat.upd

namespace Go.Proofs.YtaeeeinpelfppaaGreat.upd
open Go.RowKit Go.Proofs.YtaeeeinpelfppaaGreat.kit Go.Proofs.YtaeeeinpelfppaaGreat.mem Go.Proofs.YtaeeeinpelfppaaGreat.foot Go.Proofs.YtaeeeinpelfppaaGreat.nums Go.Proofs.YtaeeeinpelfppaaGreat.octet Go.Proofs.YtaeeeinpelfppaaGreat.attr
open Go.Proofs.YtaeeeinpelfppaaGreat.pfx (goodB)
set_option linter.unusedVariables false
set_option linter.unusedSimpArgs false
theorem odd_any (a : Nat) (n : Int) (ha : a < 4294967296) (w : World) : Calls Tryz.prog 72 #[.agg #[.int .u32 a, .int .i64 n]] w fun e w' => e = .returned (.bool (!goodB a n)) ∧ Below w.heap.size w w' := by
  have HB : Hid (Below w.heap.size w (w.alloc (.cells #[.int .u32 (a : Int), .int .i64 n] 66))) := (Below.refl _ _).alloc (Nat.le_refl _) _
  have HG := Lib.hid (pfx.good_any a n ha (w.alloc (.cells #[.int .u32 (a : Int), .int .i64 n] 66)))
  generalize goodB a n = z at *
  go_enter Tryz.func72, Tryz.ntmps72
  go_wp2_with (go_at_call 77; refine HG.out.mono ?_; rintro e w2 ⟨rfl, h⟩; have HB2 := Lib.hid (HB.out.trans (h.mono HB.out.size)); clear h)
  go_ret
  exact ⟨rfl, HB2.out⟩
theorem pw_at {w w' : World} {G : Foot} {A : Option Addr} {c k : Nat} {l : List (Nat × Int)} (h : Pw w G A c l) (hb : Below w.heap.size w w') (hk : k < l.length) :
    ∃ b off, A = some ⟨b, off, none⟩ ∧ w'.cell? ⟨b, off + k * 2, none⟩ = some (.int .u32 (l[k].1 : Int)) ∧ w'.cell? ⟨b, off + k * 2 + 1, none⟩ = some (.int .i64 l[k].2) := by
  obtain ⟨b, off, e, hlt, c0, c1⟩ := Ps.at_ h.ps hk
  exact ⟨b, off, e, (hb.cell (p := ⟨b, off + k * 2, none⟩) hlt).trans c0, (hb.cell (p := ⟨b, off + k * 2 + 1, none⟩) hlt).trans c1⟩
set_option maxHeartbeats 2000000 in
theorem index_any (A : Option Addr) (c : Nat) (l : List (Nat × Int)) (G : Foot) (w : World) (hl : l.length ≤ 100000) (h : Pw w G A c l) (hw : ∀ q ∈ l, q.1 < 4294967296) :
    Calls Tryz.prog 104 #[.slice A l.length c, .func (.func 72) #[] #[]] w fun e w' => ∃ i : Int, e = .returned (.int .i64 i) ∧ decide (0 ≤ i) = !nlri.goodL l ∧ Below w.heap.size w w' := by
  have H := Lib.hid h
  have HO := Lib.hid (fun (a : Nat) (n : Int) (ha : a < 4294967296) (w : World) => odd_any a n ha w)
  have HW := Lib.hid hw
  clear h hw
  go_enter Tryz.func104, Tryz.ntmps104
  go_wp2_with fail
  go_loopw [8] (fun v8 wr => ∃ k : Nat, k ≤ l.length ∧ v8 = .int .i64 k ∧ (∀ j (hj : j < l.length), j < k → goodB l[j].1 l[j].2 = true) ∧ Below w.heap.size w wr) (fun v8 _ => l.length - (intOf v8).toNat)
  case atStart => exact ⟨0, by omega, rfl, fun j hj h => by omega, Below.refl _ _⟩
  case round =>
    obtain ⟨k, hk, rfl, hp, hb⟩ := hrel
    have HP := Lib.hid hp
    have HB := Lib.hid hb
    clear hp hb
    by_cases hlt : k < l.length
    · have hlt' : (k : Int) < (l.length : Int) := by omega
      obtain ⟨b, off, rfl, c0, c1⟩ := pw_at H.out HB.out hlt
      have HOx := Lib.hid (HO.out l[k].1 l[k].2 (HW.out l[k] (List.getElem_mem hlt)) wr)
      rcases hg : goodB l[k].1 l[k].2 with _ | _
      · have HN : Hid (nlri.goodL l = false) := nlri.goodL_no l k hlt hg
        rw [hg] at HOx
        clear hg
        generalize l[k] = p at *
        go_wp2_with (go_at_call 72; refine HOx.out.mono ?_; rintro e w2 ⟨rfl, h⟩; have HB2 := Lib.hid (HB.out.trans (h.mono HB.out.size)); clear h)
        go_ret
        refine ⟨k, rfl, ?_, HB2.out⟩
        rw [HN.out, Bool.not_false, decide_eq_true_iff]
        omega
      · have HP2 : Hid (∀ j (hj : j < l.length), j < k + 1 → goodB l[j].1 l[j].2 = true) := fun j hj h => by
          rcases Nat.lt_or_ge j k with h1 | h1
          · exact HP.out j hj h1
          · obtain rfl : j = k := by omega
            exact hg
        rw [hg] at HOx
        clear hg
        generalize l[k] = p at *
        go_wp2_with (go_at_call 72; refine HOx.out.mono ?_; rintro e w2 ⟨rfl, h⟩; have HB2 := Lib.hid (HB.out.trans (h.mono HB.out.size)); clear h)
        go_roundw
        case rel => exact ⟨k + 1, by omega, by go_num, HP2.out, HB2.out⟩
        case measure => simp [intOf]; omega
    · obtain rfl : k = l.length := by omega
      have HN : Hid (nlri.goodL l = true) := (nlri.goodL_iff l).2 fun p hp => by
        obtain ⟨j, hj, rfl⟩ := List.mem_iff_getElem.1 hp
        exact HP.out j hj hj
      go_wp2_with fail
      go_ret
      refine ⟨-1, rfl, ?_, HB.out⟩
      rw [HN.out]
      rfl
theorem contains_any (A : Option Addr) (c : Nat) (l : List (Nat × Int)) (G : Foot) (w : World) (hl : l.length ≤ 100000) (h : Pw w G A c l) (hw : ∀ q ∈ l, q.1 < 4294967296) :
    Calls Tryz.prog 71 #[.slice A l.length c, .func (.func 72) #[] #[]] w fun e w' => e = .returned (.bool (!nlri.goodL l)) ∧ Below w.heap.size w w' := by
  have HI := Lib.hid (index_any A c l G w hl h hw)
  clear h hw
  generalize nlri.goodL l = z at *
  go_enter Tryz.func71, Tryz.ntmps71
  go_wp2_with (go_at_call 104; refine HI.out.mono ?_; rintro e w2 ⟨i, rfl, h1, h2⟩; have HK := Lib.hid h1; have HB := Lib.hid h2; clear h1 h2)
  go_ret
  exact ⟨by rw [← HK.out]; rfl, HB.out⟩
/-- the loop of Equal and Same -/
theorem eq_upto {l r : List (Nat × Int)} (hlen : l.length = r.length) (h : ∀ j (h1 : j < l.length) (h2 : j < r.length), l[j] = r[j]) : l = r := List.ext_getElem hlen h
set_option maxHeartbeats 2000000 in
theorem refSame07_any (A B : Option Addr) (c d : Nat) (l r : List (Nat × Int)) (G H : Foot) (w : World) (hl : l.length ≤ 100000) (hr : r.length ≤ 100000) (h1 : Pw w G A c l) (h2 : Pw w H B d r) :
    Calls Tryz.prog 33 #[.slice A l.length c, .slice B r.length d] w fun e w' => e = .returned (.bool (decide (l = r))) ∧ Below w.heap.size w w' := by
  have H1 := Lib.hid h1
  have H2 := Lib.hid h2
  clear h1 h2
  by_cases hlen : l.length = r.length
  · have HLen := Lib.hid hlen
    have d0 : ((l.length : Int) != (r.length : Int)) = false := by simp [hlen]
    obtain ⟨m, hm⟩ : ∃ m, m = l.length := ⟨_, rfl⟩
    have hm2 : r.length = m := by omega
    have hmb : m ≤ 100000 := by omega
    have HM := Lib.hid hm
    have HM2 := Lib.hid hm2
    rw [← hm, hm2] at d0 ⊢
    clear hm hm2 hlen
    go_enter Tryz.func33, Tryz.ntmps33
    go_wp2_with fail
    go_loopw [5] (fun v5 wr => ∃ k n : Nat, k ≤ m ∧ v5 = .int .i64 k ∧ (∀ j (h1 : j < l.length) (h2 : j < r.length), j < k → l[j] = r[j]) ∧ wr = w.drewN n) (fun v5 _ => m - (intOf v5).toNat)
    case atStart => exact ⟨0, 0, by omega, rfl, fun j _ _ h => by omega, rfl⟩
    case round =>
      obtain ⟨k, n, hk, rfl, hp, rfl⟩ := hrel
      have HP := Lib.hid hp
      clear hp
      by_cases hlt : k < m
      · have hlt' : (k : Int) < (m : Int) := by omega
        have hkl : k < l.length := by rw [← HM.out]; exact hlt
        have hkr : k < r.length := by rw [HM2.out]; exact hlt
        obtain ⟨b, off, rfl, c0, c1⟩ := pw_at H1.out (Below.refl _ _) hkl
        obtain ⟨b', off', rfl, c0', c1'⟩ := pw_at H2.out (Below.refl _ _) hkr
        by_cases he : l[k] = r[k]
        · have HP2 : Hid (∀ j (h1 : j < l.length) (h2 : j < r.length), j < k + 1 → l[j] = r[j]) := fun j h1 h2 h => by
            rcases Nat.lt_or_ge j k with h3 | h3
            · exact HP.out j h1 h2 h3
            · obtain rfl : j = k := by omega
              exact he
          rw [← he] at c0' c1'
          generalize l[k] = p at *
          clear he hkl hkr
          go_wp2_with fail
          go_quiet (fail)
          go_wp2_with fail
          go_roundw
          case rel => exact ⟨k + 1, _, by omega, by go_num, HP2.out, rfl⟩
          case measure => simp [intOf]; omega
        · have HNe : Hid (decide (l = r) = false) := by
            rw [Hid, decide_eq_false_iff_not]
            rintro rfl
            exact he rfl
          have HNp := Lib.hid he
          clear he
          generalize l[k] = p at *
          generalize r[k] = q at *
          by_cases ha : p.1 = q.1
          · have hb : ¬ p.2 = q.2 := fun hb => HNp.out (Prod.ext ha hb)
            rw [ha] at c0
            go_wp2_with fail
            go_quiet (fail)
            go_wp2_with fail
            go_ret
            exact ⟨by rw [HNe.out]; rfl, ⟨rfl, rfl, rfl, Nat.le_refl _, fun _ _ => rfl⟩⟩
          · have ha' : ¬ (p.1 : Int) = (q.1 : Int) := by omega
            go_wp2_with fail
            go_quiet (fail)
            go_wp2_with fail
            go_ret
            exact ⟨by rw [HNe.out]; rfl, ⟨rfl, rfl, rfl, Nat.le_refl _, fun _ _ => rfl⟩⟩
      · obtain rfl : k = m := by omega
        have HEq : Hid (decide (l = r) = true) := by
          rw [Hid, decide_eq_true_iff]
          exact eq_upto HLen.out fun j h1 h2 => HP.out j h1 h2 (by rw [HM.out]; exact h1)
        go_wp2_with fail
        go_ret
        exact ⟨by rw [HEq.out]; rfl, ⟨rfl, rfl, rfl, Nat.le_refl _, fun _ _ => rfl⟩⟩
  · have d0 : ((l.length : Int) != (r.length : Int)) = true := by simp; omega
    have HNe : Hid (decide (l = r) = false) := by
      rw [Hid, decide_eq_false_iff_not]
      rintro rfl
      exact hlen rfl
    go_enter Tryz.func33, Tryz.ntmps33
    go_wp2_with fail
    go_ret
    exact ⟨by rw [HNe.out]; rfl, Below.refl _ _⟩
set_option maxHeartbeats 2000000 in
theorem Equal_any (A B : Option Addr) (c d : Nat) (l r : List (Nat × Int)) (G H : Foot) (w : World) (hl : l.length ≤ 100000) (hr : r.length ≤ 100000) (h1 : Pw w G A c l) (h2 : Pw w H B d r) :
    Calls Tryz.prog 46 #[.slice A l.length c, .slice B r.length d] w fun e w' => e = .returned (.bool (decide (l = r))) ∧ Below w.heap.size w w' := by
  have H1 := Lib.hid h1
  have H2 := Lib.hid h2
  clear h1 h2
  by_cases hlen : l.length = r.length
  · have HLen := Lib.hid hlen
    have d0 : ((l.length : Int) != (r.length : Int)) = false := by simp [hlen]
    obtain ⟨m, hm⟩ : ∃ m, m = l.length := ⟨_, rfl⟩
    have hm2 : r.length = m := by omega
    have hmb : m ≤ 100000 := by omega
    have HM := Lib.hid hm
    have HM2 := Lib.hid hm2
    rw [← hm, hm2] at d0 ⊢
    clear hm hm2 hlen
    go_enter Tryz.func46, Tryz.ntmps46
    go_wp2_with fail
    go_loopw [13] (fun v5 wr => ∃ k n : Nat, k ≤ m ∧ v5 = .int .i64 k ∧ (∀ j (h1 : j < l.length) (h2 : j < r.length), j < k → l[j] = r[j]) ∧ wr = w.drewN n) (fun v5 _ => m - (intOf v5).toNat)
    case atStart => exact ⟨0, 0, by omega, rfl, fun j _ _ h => by omega, rfl⟩
    case round =>
      obtain ⟨k, n, hk, rfl, hp, rfl⟩ := hrel
      have HP := Lib.hid hp
      clear hp
      by_cases hlt : k < m
      · have hlt' : (k : Int) < (m : Int) := by omega
        have hkl : k < l.length := by rw [← HM.out]; exact hlt
        have hkr : k < r.length := by rw [HM2.out]; exact hlt
        obtain ⟨b, off, rfl, c0, c1⟩ := pw_at H1.out (Below.refl _ _) hkl
        obtain ⟨b', off', rfl, c0', c1'⟩ := pw_at H2.out (Below.refl _ _) hkr
        by_cases he : l[k] = r[k]
        · have HP2 : Hid (∀ j (h1 : j < l.length) (h2 : j < r.length), j < k + 1 → l[j] = r[j]) := fun j h1 h2 h => by
            rcases Nat.lt_or_ge j k with h3 | h3
            · exact HP.out j h1 h2 h3
            · obtain rfl : j = k := by omega
              exact he
          rw [← he] at c0' c1'
          generalize l[k] = p at *
          clear he hkl hkr
          go_wp2_with fail
          go_quiet (fail)
          go_wp2_with fail
          go_roundw
          case rel => exact ⟨k + 1, _, by omega, by go_num, HP2.out, rfl⟩
          case measure => simp [intOf]; omega
        · have HNe : Hid (decide (l = r) = false) := by
            rw [Hid, decide_eq_false_iff_not]
            rintro rfl
            exact he rfl
          have HNp := Lib.hid he
          clear he
          generalize l[k] = p at *
          generalize r[k] = q at *
          by_cases ha : p.1 = q.1
          · have hb : ¬ p.2 = q.2 := fun hb => HNp.out (Prod.ext ha hb)
            rw [ha] at c0
            go_wp2_with fail
            go_quiet (fail)
            go_wp2_with fail
            go_ret
            exact ⟨by rw [HNe.out]; rfl, ⟨rfl, rfl, rfl, Nat.le_refl _, fun _ _ => rfl⟩⟩
          · have ha' : ¬ (p.1 : Int) = (q.1 : Int) := by omega
            go_wp2_with fail
            go_quiet (fail)
            go_wp2_with fail
            go_ret
            exact ⟨by rw [HNe.out]; rfl, ⟨rfl, rfl, rfl, Nat.le_refl _, fun _ _ => rfl⟩⟩
      · obtain rfl : k = m := by omega
        have HEq : Hid (decide (l = r) = true) := by
          rw [Hid, decide_eq_true_iff]
          exact eq_upto HLen.out fun j h1 h2 => HP.out j h1 h2 (by rw [HM.out]; exact h1)
        go_wp2_with fail
        go_ret
        exact ⟨by rw [HEq.out]; rfl, ⟨rfl, rfl, rfl, Nat.le_refl _, fun _ _ => rfl⟩⟩
  · have d0 : ((l.length : Int) != (r.length : Int)) = true := by simp; omega
    have HNe : Hid (decide (l = r) = false) := by
      rw [Hid, decide_eq_false_iff_not]
      rintro rfl
      exact hlen rfl
    go_enter Tryz.func46, Tryz.ntmps46
    go_wp2_with fail
    go_ret
    exact ⟨by rw [HNe.out]; rfl, Below.refl _ _⟩
theorem info_pf : (Tryz.prog.info? 66).map (fun i => (i.zero, i.size, i.bytes)) = some (some (.agg #[.int .u32 0, .int .i64 0]), 2, 16) := by kernel_rfl
set_option maxHeartbeats 2000000 in
theorem Grow_any (n : Nat) (hn : n ≤ 200000) (w : World) :
    Calls Tryz.prog 105 #[.slice none 0 0, .int .i64 n] w fun e w' => ∃ A c, e = .returned (.slice A 0 c) ∧ Acc w 66 2 w' A 0 c [] := by
  obtain ⟨i0, hi, hz0, hz1, hz2⟩ := info_parts info_pf
  have Hi := Lib.hid hi
  have Hz0 := Lib.hid hz0
  have Hz1 := Lib.hid hz1
  have Hz2 := Lib.hid hz2
  have hwrap : wrap64 (n : Int) = (n : Int) := by unfold wrap64; omega
  have hn0 : ¬ (n : Int) < 0 := by omega
  have HO := Lib.hid (own_none w w.heap.size 66 2)
  clear hi hz0 hz1 hz2
  rcases Nat.eq_zero_or_pos n with rfl | hpos
  · go_enter Tryz.func105, Tryz.ntmps105
    go_wp2_with fail
    go_ret
    exact ⟨none, 0, rfl, foot.Own.none_ _ _ _, Below.refl _ _, fun k hk => absurd hk (sf_none k)⟩
  · have hn1 : (0 : Int) < (n : Int) := by omega
    have hzo : ∀ u ∈ (Value.agg #[.int .u32 0, .int .i64 0]).cells.toList, u.oneCell' = true := by intro u hu; simp [Value.cells] at hu; rcases hu with rfl | rfl <;> rfl
    go_enter Tryz.func105, Tryz.ntmps105
    go_wp2_with (at_builtin; refine wpList_append_zeros_own rfl (.tmp 20) _ _ _ rfl w.heap.size 66 i0 (.agg #[.int .u32 0, .int .i64 0]) .i64 .i64 2 16 Tryz.underlying24 Tryz.underlying3 Hi.out Hz0.out Hz1.out Hz2.out rfl (by omega) hzo (.slice none 0 0) 0 [] rfl HO.out n rfl (by omega) (by unfold maxLen; omega) (by omega) (Nat.le_refl _) ?_; intro A3 c3 w3 hown3 hg3 hat3; have Hown3 := Lib.hid hown3; have Hg3 := Lib.hid hg3; clear hown3 hg3 hat3)
    go_ret
    obtain ⟨h1, h2⟩ := foot.Own.of_row Hown3.out
    have h3 := h1.take (k := 0) (Nat.zero_le _)
    rw [Nat.zero_mul, List.take_zero] at h3
    exact ⟨A3, c3, rfl, h3, (Below.refl _ _).grown Hg3.out (Nat.le_refl _) (fun k hk => by cases hk), h2⟩
def szk (n m k : Nat) : Nat := if k = 0 then 0 else if k = 1 then n else n + m
def ctk (l r : List (Nat × Int)) (k : Nat) : List (Nat × Int) := if k = 0 then [] else if k = 1 then l else l ++ r
set_option maxRecDepth 100000 in
set_option maxHeartbeats 4000000 in
theorem Concat_any (A B : Option Addr) (c d b : Nat) (l r : List (Nat × Int)) (G H : Foot) (w : World) (hl : l.length ≤ 50000) (hr : r.length ≤ 50000) (hk : Bk w b 24 #[.slice A l.length c, .slice B r.length d]) (h1 : Pw w G A c l) (h2 : Pw w H B d r) :
    Calls Tryz.prog 75 #[.slice (some ⟨b, 0, none⟩) 2 2] w fun e w' => ∃ A' c', e = .returned (.slice A' (l.length + r.length) c') ∧ Pw w' (fun k => w.heap.size ≤ k) A' c' (l ++ r) ∧ Below w.heap.size w w' := by
  obtain ⟨i0, hi, hz0, hz1, hz2⟩ := info_parts info_pf
  have Hi := Lib.hid hi
  have Hz0 := Lib.hid hz0
  have Hz1 := Lib.hid hz1
  have Hz2 := Lib.hid hz2
  have HK := Lib.hid hk
  have H1 := Lib.hid h1
  have H2 := Lib.hid h2
  have HGr := Lib.hid (Grow_any (l.length + r.length) (by omega) w)
  have hn0 : ¬ ((l.length : Int) < 0) := by omega
  have hn1 : ¬ ((l.length : Int) + (r.length : Int) < 0) := by omega
  have y0 := hk.cell 0
  have y1 := hk.cell 1
  simp at y0 y1
  have hF : Hid (∀ (xs : List (Nat × Int)) (A' : Option Addr) (c' : Nat) (w' : World), Acc w 66 2 w' A' xs.length c' (pv xs) → Pw w' (fun k => w.heap.size ≤ k) A' c' xs) := fun xs A' c' w' h => ⟨h.own.nil, h.own.cap, h.own.max, h.own.rg.mono fun k _ hk => h.low k hk⟩
  clear hi hz0 hz1 hz2 hk h1 h2
  obtain ⟨n, hn⟩ : ∃ n, n = l.length := ⟨_, rfl⟩
  obtain ⟨m, hm⟩ : ∃ m, m = r.length := ⟨_, rfl⟩
  have HN := Lib.hid hn
  have HM := Lib.hid hm
  rw [← hn] at hl hn0 hn1 y0 HGr ⊢
  rw [← hm] at hr hn1 y1 HGr ⊢
  rw [Int.natCast_add] at HGr
  have e0 : szk n m 0 = 0 := rfl
  have e1 : szk n m 1 = n := rfl
  have e2 : szk n m 2 = n + m := rfl
  clear hn hm
  go_enter Tryz.func75, Tryz.ntmps75
  go_wp2_with fail
  go_loopw [3, 11] (fun v3 v11 wr => ∃ k : Nat, k ≤ 2 ∧ v11 = .int .i64 k ∧ v3 = .int .i64 (szk n m k) ∧ w = wr) (fun _ v11 _ => 2 - (intOf v11).toNat)
  case atStart => exact ⟨0, by omega, rfl, rfl, rfl⟩
  case round =>
    obtain ⟨k, hk, rfl, rfl, rfl⟩ := hrel
    have h : k = 0 ∨ k = 1 ∨ k = 2 := by omega
    rcases h with rfl | rfl | rfl
    · rw [e0]
      go_wp2_with fail
      go_roundw
      case rel => exact ⟨1, by omega, by go_num, by rw [e1], by trivial⟩
      case measure => simp [intOf]
    · rw [e1]
      go_wp2_with fail
      go_roundw
      case rel => exact ⟨2, by omega, by go_num, by rw [e2]; go_num, by trivial⟩
      case measure => simp [intOf]
    · rw [e2]
      go_wp2_with (go_at_call 105; refine HGr.out.mono ?_; rintro e w2 ⟨A2, c2, rfl, h⟩; have HA2 := Lib.hid h; clear h)
      go_loopw [6, 27] (fun v6 v27 wr => ∃ (k : Nat) (Ao : Option Addr) (co : Nat), k ≤ 2 ∧ v27 = .int .i64 k ∧ v6 = .slice Ao (szk n m k) co ∧ Acc w 66 2 wr Ao (szk n m k) co (pv (ctk l r k))) (fun _ v27 _ => 2 - (intOf v27).toNat)
      case atStart => exact ⟨0, A2, c2, by omega, rfl, rfl, HA2.out⟩
      case round =>
        obtain ⟨k, Ao, co, hk, rfl, rfl, ha⟩ := hrel
        have HA := Lib.hid ha
        have x0 := HK.out.below ha.bel HK.out.lt |>.cell 0
        have x1 := HK.out.below ha.bel HK.out.lt |>.cell 1
        simp at x0 x1
        rw [← HN.out] at x0
        rw [← HM.out] at x1
        have h : k = 0 ∨ k = 1 ∨ k = 2 := by omega
        rcases h with rfl | rfl | rfl
        · have HS := Lib.hid (H1.out.bel ha.bel)
          have HSr : Hid (Rg wr G 2 A n (pv l)) := by have := HS.out.rg; rwa [← HN.out] at this
          clear ha
          rw [e0] at HA ⊢
          go_wp2_with (at_builtin; refine wpList_app _ rfl (.tmp 31) (.tmp 32) _ rfl 66 i0 _ 2 16 Tryz.underlying24 Hi.out Hz0.out Hz1.out Hz2.out rfl (by omega) Ao 0 co (pv (ctk l r 0)) rfl HA.out.own _ A n c HS.out.nil (pv l) rfl HSr.out (pv_one _) (by unfold maxLen; omega) (by omega) ?_; intro A8 c8 w8 ho8 hc8 hf8; have H8 := Lib.hid (HA.out.app ho8 hc8 hf8); clear ho8 hc8 hf8)
          go_roundw
          case rel => exact ⟨1, A8, c8, by omega, by go_num, by rw [e1], by rw [e1, show ctk l r 1 = ctk l r 0 ++ l from (by simp [ctk]), pv_app]; exact (by have := H8.out; rwa [Nat.zero_add] at this)⟩
          case measure => simp [intOf]
        · have HS := Lib.hid (H2.out.bel ha.bel)
          have HSr : Hid (Rg wr H 2 B m (pv r)) := by have := HS.out.rg; rwa [← HM.out] at this
          clear ha
          rw [e1] at HA ⊢
          go_wp2_with (at_builtin; refine wpList_app _ rfl (.tmp 31) (.tmp 32) _ rfl 66 i0 _ 2 16 Tryz.underlying24 Hi.out Hz0.out Hz1.out Hz2.out rfl (by omega) Ao n co (pv (ctk l r 1)) rfl HA.out.own _ B m d HS.out.nil (pv r) rfl HSr.out (pv_one _) (by unfold maxLen; omega) (by omega) ?_; intro A8 c8 w8 ho8 hc8 hf8; have H8 := Lib.hid (HA.out.app ho8 hc8 hf8); clear ho8 hc8 hf8)
          go_roundw
          case rel => exact ⟨2, A8, c8, by omega, by go_num, by rw [e2], by rw [e2, show ctk l r 2 = ctk l r 1 ++ r from rfl, pv_app]; exact H8.out⟩
          case measure => simp [intOf]
        · rw [e2] at ha ⊢
          have HFx := Lib.hid (hF.out (l ++ r) Ao co _ (by rw [List.length_append, ← HN.out, ← HM.out]; exact ha))
          have HBx := Lib.hid ha.bel
          clear ha
          go_wp2_with fail
          go_ret
          exact ⟨Ao, co, rfl, HFx.out, HBx.out⟩
end Go.Proofs.YtaeeeinpelfppaaGreat.upd
