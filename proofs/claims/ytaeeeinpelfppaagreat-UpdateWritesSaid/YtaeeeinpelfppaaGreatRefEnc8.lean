/- What confluenceref08.Encode returns. Condition: at most 10^5 pieces and numbers together. -/
import Derived.Test.YtaeeeinpelfppaaGreatRefVal8
import Derived.Test.YtaeeeinpelfppaaGreatRefAttr
import Derived.Test.YtaeeeinpelfppaaGreatAttrCode
namespace Go.Proofs.YtaeeeinpelfppaaGreat.attr
open Go.RowKit Go.Proofs.YtaeeeinpelfppaaGreat.kit Go.Proofs.YtaeeeinpelfppaaGreat.mem Go.Proofs.YtaeeeinpelfppaaGreat.foot Go.Proofs.YtaeeeinpelfppaaGreat.nums Go.Proofs.YtaeeeinpelfppaaGreat.asn Go.Proofs.YtaeeeinpelfppaaGreat.pth Go.Proofs.YtaeeeinpelfppaaGreat.octet
set_option linter.unusedVariables false
set_option linter.unusedSimpArgs false
structure TwoB (w w1 wx : World) (A : Option Addr) (n c : Nat) (L : List UInt8) (B : Option Addr) (d : Nat) (V : List UInt8) : Prop where
  acc : Acc w 5 1 wx A n c (bv L)
  bel : Below (w.heap.size + 1) w1 wx
  low : ∀ j, sf A j → w.heap.size + 1 ≤ j
  own : foot.Own wx 5 1 B V.length d (bv V)
  apart : ∀ j, sf B j → ¬ sf A j
  size : w.heap.size + 1 ≤ wx.heap.size
theorem TwoB.go {w w1 wx wy : World} {A B : Option Addr} {n c d : Nat} {L V : List UInt8} (h : TwoB w w1 wx A n c L B d V) (hb : Below wx.heap.size wx wy) : TwoB w w1 wy A n c L B d V :=
  ⟨h.acc.go hb, h.bel.trans (hb.mono h.size), h.low, h.own.bel hb, h.apart, Nat.le_trans h.size hb.size⟩
theorem TwoB.made {w w1 wx : World} {A B : Option Addr} {n c d : Nat} {L V : List UInt8} (h : TwoB w w1 wx A n c L B d V) (cs : Array Value) : TwoB w w1 (wx.alloc (.cells cs 5)) A n c L B d V := h.go ((Below.refl _ _).alloc (Nat.le_refl _) _)
theorem TwoB.app {w w1 wx w2 : World} {A B A2 : Option Addr} {n c d m c2 : Nat} {L V X : List UInt8} (h : TwoB w w1 wx A n c L B d V) (ho : foot.Own w2 5 1 A2 m c2 (bv L ++ bv X)) (hc : Chg (sf A) wx w2) (hf : Fresh wx (sf A) (sf A2)) : TwoB w w1 w2 A2 m c2 (L ++ X) B d V :=
  ⟨by rw [bv_app]; exact h.acc.app ho hc hf, h.bel.trans (hc.below h.low h.size), fun j hj => (hf j hj).elim (h.low j) fun e => Nat.le_trans h.size e, h.own.chg hc fun j _ hj => h.apart j hj, fun j hj => hf.apart (h.own.lt j hj) (h.apart j hj), Nat.le_trans h.size hc.size⟩
theorem bv_2 {x y : Int} (hx : 0 ≤ x) (hx2 : x < 256) (hy : 0 ≤ y) (hy2 : y < 256) : [Value.int .u8 x, .int .u8 y] = bv [octet.byteOf x, octet.byteOf y] := by
  simp [bv, byteOf_nat, Int.emod_eq_of_lt hx hx2, Int.emod_eq_of_lt hy hy2]
theorem bv_3 {x y z : Int} (hx : 0 ≤ x) (hx2 : x < 256) (hy : 0 ≤ y) (hy2 : y < 256) (hz : 0 ≤ z) (hz2 : z < 256) : [Value.int .u8 x, .int .u8 y, .int .u8 z] = bv [octet.byteOf x, octet.byteOf y, octet.byteOf z] := by
  simp [bv, byteOf_nat, Int.emod_eq_of_lt hx hx2, Int.emod_eq_of_lt hy hy2, Int.emod_eq_of_lt hz hz2]
theorem big2 (n : Nat) (h : n ≤ 1000000000) (w : World) : Calls Tryz.prog 50 #[.int .u64 (n : Int), .int .i64 2] w (RetB [octet.byteOf ((n : Int) / 256), octet.byteOf (n : Int)] w) := by
  have := BigB_any n 2 w (by omega) (by omega)
  have e : bigv n 2 = [octet.byteOf ((n : Int) / 256), octet.byteOf (n : Int)] := by simp [bigv]
  rw [e] at this
  exact this
set_option maxRecDepth 100000 in
set_option maxHeartbeats 8000000 in
theorem refEncode_any (a : Atr) (Ap Ac : Option Addr) (cp cc : Nat) (G : Foot) (w : World) (hm : Am w G a Ap cp Ac cc) (hp : nsz a.path ≤ 100000) (hc : a.comms.length ≤ 100000) :
    Calls Tryz.prog 49 #[.agg (atc a Ap cp Ac cc).toArray] w (RetB (encB a) w) := by
  obtain ⟨i0, hi, hz0, hz1, hz2⟩ := info_parts info_u8
  have Hi := Lib.hid hi
  have Hz0 := Lib.hid hz0
  have Hz1 := Lib.hid hz1
  have Hz2 := Lib.hid hz2
  have HSz : Hid ((Tryz.prog.info? 29).map (·.size) = some 9) := info_atr
  have HHas : Hid (∀ (k : Nat) (w' : World), k ≤ 8 → Calls Tryz.prog 32 #[.agg (atc a Ap cp Ac cc).toArray, .int .i64 (k : Int)] w' fun e w2 => e = .returned (.bool (bitI a.has k)) ∧ Below w'.heap.size w' w2) := fun k w' hk => refHas_any a Ap Ac cp cc k hk w'
  have HVal : Hid (∀ (k : Nat) (w' : World), 1 ≤ k → k ≤ 8 → Below w.heap.size w w' → Calls Tryz.prog 89 #[.agg (atc a Ap cp Ac cc).toArray, .int .i64 (k : Int)] w' (RetB (valB a k) w')) := fun k w' h1 h8 hb => refValue_any a Ap Ac cp cc G k h1 h8 w' (hm.bel hb) hp hc
  have HFl : Hid (∀ (k : Int) w', Calls Tryz.prog 63 #[.int .i64 k] w' fun e w2 => e = .returned (.int .i64 (flg k)) ∧ Below w'.heap.size w' w2) := fun k w' => refFlags_any k w'
  have HUl := Lib.hid (fun k => encU_len hp hc k)
  have HVl := Lib.hid (fun k => valB_len (k := k) hp hc)
  have HSt := Lib.hid (fun (k : Nat) (h : 1 ≤ k) => encU_step a h)
  obtain ⟨w1, hw1⟩ : ∃ w1, w1 = (w.alloc (.cells (atc a Ap cp Ac cc).toArray 29)).alloc (.cells #[] 5) := ⟨_, rfl⟩
  have hb2 := Bk.new (w.alloc (.cells (atc a Ap cp Ac cc).toArray 29)) 5 #[]
  have e2 : (w.alloc (.cells (atc a Ap cp Ac cc).toArray 29)).heap.size = w.heap.size + 1 := by simp
  rw [e2, ← hw1] at hb2
  have HB1 : Hid (Below w.heap.size w w1) := by rw [hw1]; exact ((Below.refl _ _).alloc (Nat.le_refl _) _).alloc (by simp) _
  have HK1 : Hid (Bk w1 w.heap.size 29 (atc a Ap cp Ac cc).toArray) := by rw [hw1]; exact (Bk.new w _ _).alloc _
  have HA0 : Hid (Acc w 5 1 w1 (some ⟨w.heap.size + 1, 0, none⟩) 0 0 (bv (encU a 0))) := Acc.start HB1.out hb2 (by omega)
  have HS1 : Hid (w.heap.size + 1 ≤ w1.heap.size) := Nat.le_of_lt hb2.lt
  obtain ⟨Q, hQ⟩ : ∃ Q, Q = RetB (encB a) w := ⟨_, rfl⟩
  have HQ : Hid (∀ (n : Nat) (A : Option Addr) (c : Nat) (w' : World), (encU a 8).length = n → Acc w 5 1 w' A n c (bv (encU a 8)) → Q (.returned (.slice A n c)) w') := fun n A c w' h2 h3 => by
    subst h2
    rw [hQ]
    exact ⟨A, c, rfl, h3.own, h3.low, h3.bel⟩
  rw [← hQ]
  have HKb : Hid (∀ w', Below (w.heap.size + 1) w1 w' → Bk w' w.heap.size 29 (atc a Ap cp Ac cc).toArray) := fun w' hb => HK1.out.below hb (Nat.lt_succ_self _)
  have HCl : Hid ((atc a Ap cp Ac cc).length = 9) := rfl
  have HAb : Hid (∀ k, attB a k = if 255 < (valB a k).length then [octet.byteOf (flg k + 16), octet.byteOf (k : Int), octet.byteOf (((valB a k).length : Int) / 256), octet.byteOf ((valB a k).length : Int)] ++ valB a k else [octet.byteOf (flg k), octet.byteOf (k : Int), octet.byteOf ((valB a k).length : Int)] ++ valB a k) := fun k => rfl
  clear hQ hi hz0 hz1 hz2 hb2 e2 hm hp hc
  generalize hcs : atc a Ap cp Ac cc = cs at *
  clear hcs
  go_enter Tryz.func49, Tryz.ntmps49
  go_upto_region 2 with fail
  rw [← hw1]
  clear hw1
  go_wp2_with fail
  go_loopw [3, 4, 5] (fun v3 v4 v5 wr => ∃ (k n : Nat) (A : Option Addr) (c : Nat), k ≤ 8 ∧ v4 = .int .i64 ((k : Int) + 1) ∧ v3 = .slice A n c ∧ (encU a k).length = n ∧ Acc w 5 1 wr A n c (bv (encU a k)) ∧ Below (w.heap.size + 1) w1 wr ∧ ∀ j, sf A j → w.heap.size + 1 ≤ j) (fun _ v4 _ _ => 9 - (intOf v4).toNat)
  case atStart => exact ⟨0, 0, _, 0, by omega, rfl, rfl, rfl, HA0.out, Below.refl _ _, fun j hj => by rw [sf_some] at hj; exact Nat.le_of_eq hj⟩
  case round =>
    obtain ⟨k, n, A, c, hk, rfl, rfl, hn, ha, hb, hlo⟩ := hrel
    have HLow := Lib.hid hlo
    have HA := Lib.hid ha
    have HB := Lib.hid hb
    have HNn := Lib.hid hn
    have HKx := Lib.hid (HKb.out wr hb)
    have yl : w.heap.size < wr.heap.size := Nat.lt_of_lt_of_le HS1.out hb.size
    have hnb : n ≤ 4000000 := by
      have h1 := HUl.out k
      omega
    clear ha hb hlo hn
    by_cases hlt : k < 8
    · have d1 : decide ((k : Int) + 1 ≤ 8) = true := by rw [decide_eq_true_iff]; omega
      have HHk := Lib.hid (fun w' => HHas.out (k + 1) w' (by omega))
      have HVk := Lib.hid (fun w' hb => HVal.out (k + 1) w' (by omega) (by omega) hb)
      have HSk := Lib.hid (HSt.out (k + 1) (by omega))
      rw [Nat.add_sub_cancel] at HSk
      have hvl := HVl.out (k + 1)
      have HAk := Lib.hid (HAb.out (k + 1))
      rw [show ((k + 1 : Nat) : Int) = (k : Int) + 1 by omega] at HHk HVk HAk
      generalize bitI a.has (k + 1) = bt at *
      rcases bt with _ | _
      · have HEq : Hid (encU a (k + 1) = encU a k) := by rw [Hid, HSk.out, if_neg (by decide), List.append_nil]
        go_wp2_with (first
          | (refine wpList_loadBk rfl 29 (.tmp 1) rfl w.heap.size (by rfl) 29 cs.toArray _ HKx.out Tryz.underlying29 (by rfl) (by rw [List.size_toArray, HCl.out]; exact HSz.out) ?_)
          | (go_at_call 32; refine (HHk.out _).mono ?_; rintro e w2 ⟨rfl, h1⟩; have HA2 := Lib.hid (HA.out.go h1); have HB2 := Lib.hid (HB.out.trans (h1.mono yl)); clear h1))
        go_roundw
        case rel => exact ⟨k + 1, n, A, c, by omega, by go_num, rfl, by rw [HEq.out]; exact HNn.out, by rw [HEq.out]; exact HA2.out, HB2.out, HLow.out⟩
        case measure => simp [intOf]; omega
      · rw [if_pos rfl] at HSk
        generalize hV : valB a (k + 1) = V at *
        clear hV
        by_cases hlong : 255 < V.length
        · rw [if_pos hlong] at HAk
          have d2 : decide ((255 : Int) < (V.length : Int)) = true := by rw [decide_eq_true_iff]; omega
          have HBig := Lib.hid (fun w' => big2 V.length (by omega) w')
          have hfl0 : 0 ≤ flg ((k : Int) + 1) ∧ flg ((k : Int) + 1) ≤ 192 := by unfold flg; split <;> (try split) <;> (try split) <;> omega
          have HFk := Lib.hid (HFl.out ((k : Int) + 1))
          generalize flg ((k : Int) + 1) = f at *
          have HXX : Hid ([Value.int .u8 (f + 16), .int .u8 ((k : Int) + 1)] = bv [octet.byteOf (f + 16), octet.byteOf ((k : Int) + 1)]) := bv_2 (by omega) (by omega) (by omega) (by omega)
          have HLn : Hid ((encU a (k + 1)).length = n + 2 + 2 + V.length) := by
            rw [Hid, HSk.out, HAk.out, List.length_append, HNn.out]
            simp
            omega
          go_wp2_with (first
            | (refine wpList_loadBk rfl 29 (.tmp 1) rfl w.heap.size (by rfl) 29 cs.toArray _ (by first | exact HKx2.out | exact HKx.out) Tryz.underlying29 (by rfl) (by rw [List.size_toArray, HCl.out]; exact HSz.out) ?_)
            | (go_at_call 32; refine (HHk.out _).mono ?_; rintro e w2 ⟨rfl, h1⟩; have HA2 := Lib.hid (HA.out.go h1); have HB2 := Lib.hid (HB.out.trans (h1.mono yl)); have HKx2 := Lib.hid (HKb.out w2 HB2.out); have HY2 : Hid (w.heap.size + 1 ≤ w2.heap.size) := Nat.le_trans yl h1.size; clear h1)
            | (go_at_call 89; refine (HVk.out w2 HA2.out.bel).mono ?_; rintro e w3 ⟨A3, c3, rfl, h1, h2, h3⟩; have T3 : Hid (TwoB w w1 w3 A n c (encU a k) A3 c3 V) := ⟨HA2.out.go h3, HB2.out.trans (h3.mono HY2.out), HLow.out, h1, fun j hj e => by have q1 := HA2.out.own.lt j e; have q2 := h2 j hj; omega, Nat.le_trans HY2.out h3.size⟩; clear h1 h2 h3)
            | (go_at_call 63; refine (HFk.out _).mono ?_; rintro e w4 ⟨rfl, h3⟩; have T4 := Lib.hid (T3.out.go h3); have T5 := Lib.hid (T4.out.made #[.int .u8 (f + 16), .int .u8 ((k : Int) + 1)]); have HR5 := Lib.hid (Rg.new w4 5 1 2 #[.int .u8 (f + 16), .int .u8 ((k : Int) + 1)] rfl); clear h3)
            | (at_builtin; refine wpList_app _ rfl (.tmp 21) (.tmp 28) _ rfl 5 i0 _ 1 1 Tryz.underlying22 Hi.out Hz0.out Hz1.out Hz2.out rfl (by omega) A n c (bv (encU a k)) rfl T5.out.acc.own _ (some ⟨w4.heap.size, 0, none⟩) 2 2 (by intro h; cases h) (bv ([octet.byteOf (f + 16), octet.byteOf ((k : Int) + 1)])) rfl (by rw [← HXX.out]; exact HR5.out) (bv_one _) (by unfold maxLen; omega) (by omega) ?_; intro A6 c6 w6 ho hc' hf; have T6 := Lib.hid (T5.out.app ho hc' hf); clear ho hc' hf)
            | (go_at_call 50; refine (HBig.out w6).mono ?_; rintro e w7 ⟨A7, c7, rfl, h1, h2, h3⟩; have T7 := Lib.hid (T6.out.go h3); have HO7 := Lib.hid h1; clear h1 h2 h3)
            | (at_builtin; refine wpList_app _ rfl (.tmp 29) (.tmp 33) _ rfl 5 i0 _ 1 1 Tryz.underlying22 Hi.out Hz0.out Hz1.out Hz2.out rfl (by omega) A6 (n + 2) c6 (bv (encU a k ++ [octet.byteOf (f + 16), octet.byteOf ((k : Int) + 1)])) rfl T7.out.acc.own _ A7 2 c7 HO7.out.nil (bv ([octet.byteOf ((V.length : Int) / 256), octet.byteOf (V.length : Int)])) rfl HO7.out.rg (bv_one _) (by unfold maxLen; omega) (by omega) ?_; intro A8 c8 w8 ho hc' hf; have T8 := Lib.hid (T7.out.app ho hc' hf); clear ho hc' hf)
            | (at_builtin; refine wpList_app _ rfl (.tmp 46) (.tmp 47) _ rfl 5 i0 _ 1 1 Tryz.underlying22 Hi.out Hz0.out Hz1.out Hz2.out rfl (by omega) A8 (n + 2 + 2) c8 (bv (encU a k ++ [octet.byteOf (f + 16), octet.byteOf ((k : Int) + 1)] ++ [octet.byteOf ((V.length : Int) / 256), octet.byteOf (V.length : Int)])) rfl T8.out.acc.own _ A3 V.length c3 T8.out.own.nil (bv V) rfl T8.out.own.rg (bv_one _) (by unfold maxLen; omega) (by omega) ?_; intro A9 c9 w9 ho hc' hf; have T9 := Lib.hid (T8.out.app ho hc' hf); clear ho hc' hf))
          go_roundw
          case rel => exact ⟨k + 1, _, A9, c9, by omega, by go_num, rfl, HLn.out, by rw [HSk.out, HAk.out, ← List.append_assoc, show ([octet.byteOf (f + 16), octet.byteOf ((k : Int) + 1), octet.byteOf ((V.length : Int) / 256), octet.byteOf (V.length : Int)] : List UInt8) = [octet.byteOf (f + 16), octet.byteOf ((k : Int) + 1)] ++ [octet.byteOf ((V.length : Int) / 256), octet.byteOf (V.length : Int)] from rfl, ← List.append_assoc]; exact T9.out.acc, T9.out.bel, T9.out.low⟩
          case measure => simp [intOf]; omega
        · rw [if_neg hlong] at HAk
          have d2 : decide ((255 : Int) < (V.length : Int)) = false := by rw [decide_eq_false_iff_not]; omega
          have hfl0 : 0 ≤ flg ((k : Int) + 1) ∧ flg ((k : Int) + 1) ≤ 192 := by unfold flg; split <;> (try split) <;> (try split) <;> omega
          have HFk := Lib.hid (HFl.out ((k : Int) + 1))
          generalize flg ((k : Int) + 1) = f at *
          have HXX : Hid ([Value.int .u8 f, .int .u8 ((k : Int) + 1), .int .u8 (V.length : Int)] = bv [octet.byteOf f, octet.byteOf ((k : Int) + 1), octet.byteOf (V.length : Int)]) := bv_3 (by omega) (by omega) (by omega) (by omega) (by omega) (by omega)
          have HLn : Hid ((encU a (k + 1)).length = n + 3 + V.length) := by
            rw [Hid, HSk.out, HAk.out, List.length_append, HNn.out]
            simp
            omega
          go_wp2_with (first
            | (refine wpList_loadBk rfl 29 (.tmp 1) rfl w.heap.size (by rfl) 29 cs.toArray _ (by first | exact HKx2.out | exact HKx.out) Tryz.underlying29 (by rfl) (by rw [List.size_toArray, HCl.out]; exact HSz.out) ?_)
            | (go_at_call 32; refine (HHk.out _).mono ?_; rintro e w2 ⟨rfl, h1⟩; have HA2 := Lib.hid (HA.out.go h1); have HB2 := Lib.hid (HB.out.trans (h1.mono yl)); have HKx2 := Lib.hid (HKb.out w2 HB2.out); have HY2 : Hid (w.heap.size + 1 ≤ w2.heap.size) := Nat.le_trans yl h1.size; clear h1)
            | (go_at_call 89; refine (HVk.out w2 HA2.out.bel).mono ?_; rintro e w3 ⟨A3, c3, rfl, h1, h2, h3⟩; have T3 : Hid (TwoB w w1 w3 A n c (encU a k) A3 c3 V) := ⟨HA2.out.go h3, HB2.out.trans (h3.mono HY2.out), HLow.out, h1, fun j hj e => by have q1 := HA2.out.own.lt j e; have q2 := h2 j hj; omega, Nat.le_trans HY2.out h3.size⟩; clear h1 h2 h3)
            | (go_at_call 63; refine (HFk.out _).mono ?_; rintro e w4 ⟨rfl, h3⟩; have T4 := Lib.hid (T3.out.go h3); have T5 := Lib.hid (T4.out.made #[.int .u8 f, .int .u8 ((k : Int) + 1), .int .u8 (V.length : Int)]); have HR5 := Lib.hid (Rg.new w4 5 1 3 #[.int .u8 f, .int .u8 ((k : Int) + 1), .int .u8 (V.length : Int)] rfl); clear h3)
            | (at_builtin; refine wpList_app _ rfl (.tmp 35) (.tmp 44) _ rfl 5 i0 _ 1 1 Tryz.underlying22 Hi.out Hz0.out Hz1.out Hz2.out rfl (by omega) A n c (bv (encU a k)) rfl T5.out.acc.own _ (some ⟨w4.heap.size, 0, none⟩) 3 3 (by intro h; cases h) (bv ([octet.byteOf f, octet.byteOf ((k : Int) + 1), octet.byteOf (V.length : Int)])) rfl (by rw [← HXX.out]; exact HR5.out) (bv_one _) (by unfold maxLen; omega) (by omega) ?_; intro A6 c6 w6 ho hc' hf; have T6 := Lib.hid (T5.out.app ho hc' hf); clear ho hc' hf)
            | (at_builtin; refine wpList_app _ rfl (.tmp 46) (.tmp 47) _ rfl 5 i0 _ 1 1 Tryz.underlying22 Hi.out Hz0.out Hz1.out Hz2.out rfl (by omega) A6 (n + 3) c6 (bv (encU a k ++ [octet.byteOf f, octet.byteOf ((k : Int) + 1), octet.byteOf (V.length : Int)])) rfl T6.out.acc.own _ A3 V.length c3 T6.out.own.nil (bv V) rfl T6.out.own.rg (bv_one _) (by unfold maxLen; omega) (by omega) ?_; intro A9 c9 w9 ho hc' hf; have T9 := Lib.hid (T6.out.app ho hc' hf); clear ho hc' hf))
          go_roundw
          case rel => exact ⟨k + 1, _, A9, c9, by omega, by go_num, rfl, HLn.out, by rw [HSk.out, HAk.out, ← List.append_assoc]; exact T9.out.acc, T9.out.bel, T9.out.low⟩
          case measure => simp [intOf]; omega
    · obtain rfl : k = 8 := by omega
      have HP := Lib.hid (HQ.out n A c wr HNn.out HA.out)
      go_wp2_with fail
      exact HP.out
end Go.Proofs.YtaeeeinpelfppaaGreat.attr
