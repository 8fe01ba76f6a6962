/- What confluenceref06.Big hands back as a row of its own; what confluenceref08.value returns. Conditions: at most eight bytes; at most 10^5 pieces and numbers together. Printed by gen_refval8.py. -/
import Derived.Test.YtaeeeinpelfppaaGreatAttrValue
import Derived.Test.YtaeeeinpelfppaaGreatOctLives
import Derived.Test.YtaeeeinpelfppaaGreatRefAsn
import Derived.Deep.RegionHeld3
namespace Go.Proofs.YtaeeeinpelfppaaGreat.attr
open Go.RowKit Go.Proofs.YtaeeeinpelfppaaGreat.kit Go.Proofs.YtaeeeinpelfppaaGreat.mem Go.Proofs.YtaeeeinpelfppaaGreat.foot Go.Proofs.YtaeeeinpelfppaaGreat.nums Go.Proofs.YtaeeeinpelfppaaGreat.asn Go.Proofs.YtaeeeinpelfppaaGreat.pth Go.Proofs.YtaeeeinpelfppaaGreat.octet
set_option linter.unusedVariables false
set_option linter.unusedSimpArgs false
theorem bv_byte (n : Int) : bv [octet.byteOf n] = [.int .u8 (n % 256)] := by simp [bv, byteOf_nat]
set_option maxRecDepth 100000 in
set_option maxHeartbeats 2000000 in
theorem BigB_any (n many : Nat) (w : World) (hn : n < 18446744073709551616) (hm : many ≤ 8) :
    Calls Tryz.prog 50 #[.int .u64 n, .int .i64 many] w (RetB (bigv n many) w) := by
  obtain ⟨i0, hi, hz0, hz1, hz2⟩ := info_parts info_u8
  have Hi := Lib.hid hi
  have Hz0 := Lib.hid hz0
  have Hz1 := Lib.hid hz1
  have Hz2 := Lib.hid hz2
  have Hn := Lib.hid hn
  have HA0 : Hid (Acc w 5 1 (w.alloc (.cells #[] 5)) (some ⟨w.heap.size, 0, none⟩) 0 0 (bv (bigv n 0))) := Acc.start ((Below.refl _ _).alloc (Nat.le_refl _) _) (Bk.new w _ _) (Nat.le_refl _)
  clear hi hz0 hz1 hz2 hn
  go_enter Tryz.func50, Tryz.ntmps50
  go_wp2_with fail
  go_loopw [0, 5, 6] (fun u o i wr => ∃ (k : Nat) (A : Option Addr) (c : Nat), k ≤ many ∧ i = .int .i64 k ∧ u = .int .u64 ((n / 256 ^ k : Nat) : Int) ∧ o = .slice A k c ∧ Acc w 5 1 wr A k c (bv (bigv n k))) (fun _ _ i _ => many - (intOf i).toNat)
  case atStart => exact ⟨0, some ⟨w.heap.size, 0, none⟩, 0, by omega, rfl, by simp, rfl, HA0.out⟩
  case round =>
    obtain ⟨k, A, c, hk, rfl, rfl, rfl, hret⟩ := hrel
    have HR := Lib.hid hret
    clear hret
    by_cases hlt : k < many
    · have hdiv : n / 256 ^ k ≤ n := Nat.div_le_self _ _
      have Hd : Hid (n / 256 ^ (k + 1) = n / 256 ^ k / 256) := by rw [Hid, Nat.div_div_eq_div_mul, Nat.pow_succ]
      have hu : ((n / 256 ^ k : Nat) : Int) ≤ 18446744073709551615 := by have := Hn.out; omega
      have Hb : Hid (bigv n (k + 1) = octet.byteOf ((n / 256 ^ k : Nat) : Int) :: bigv n k) := rfl
      clear hdiv
      generalize n / 256 ^ k = u at *
      have HO : Hid (foot.Own (wr.alloc (.cells #[.int .u8 ((u : Int) % 256)] 5)) 5 1 (some ⟨wr.heap.size, 0, none⟩) 1 1 (bv [octet.byteOf (u : Int)])) := foot.Own.made wr 5 1 1 1 _ _ (Nat.le_refl _) (by unfold maxLen; omega) rfl rfl (by rw [bv_byte]; rfl)
      have HS : Hid (Rg (wr.alloc (.cells #[.int .u8 ((u : Int) % 256)] 5)) (sf A) 1 A k (bv (bigv n k))) := HR.out.own.rg.bel ((Below.refl _ _).alloc (Nat.le_refl _) _)
      have HNl := Lib.hid HR.out.own.nil
      go_wp2_with (at_builtin; refine wpList_app _ rfl (.tmp 16) (.tmp 17) _ rfl 5 i0 _ 1 1 Tryz.underlying22 Hi.out Hz0.out Hz1.out Hz2.out rfl (by omega) (some ⟨wr.heap.size, 0, none⟩) 1 1 (bv [octet.byteOf (u : Int)]) rfl HO.out _ A k c HNl.out (bv (bigv n k)) rfl HS.out (bv_one _) (by unfold maxLen; omega) (by omega) ?_; intro A1 c1 w1 ho hc hf; have HE : Hid (Acc w 5 1 w1 A1 (1 + k) c1 (bv (octet.byteOf (u : Int) :: bigv n k))) := ⟨ho, (HR.out.bel.alloc HR.out.bel.size _).trans (hc.below (fun j hj => by rw [sf_some] at hj; have := HR.out.bel.size; have hj' : wr.heap.size = j := hj; omega) (by have := HR.out.bel.size; simp; omega)), fun j hj => by have h5 := HR.out.bel.size; rcases hf j hj with e | e; (rw [sf_some] at e; have e' : wr.heap.size = j := e; omega); (simp at e; omega)⟩; clear ho hc hf)
      go_roundw
      case rel => exact ⟨k + 1, A1, c1, by omega, by go_num, by rw [Hd.out]; simp, by rw [Nat.add_comm], by rw [Hb.out, Nat.add_comm k 1]; exact HE.out⟩
      case measure => simp [intOf]; omega
    · obtain rfl : k = many := by omega
      go_wp2_with fail
      go_ret
      exact ⟨A, c, by rw [bigv_len]; rfl, by rw [bigv_len]; exact HR.out.own, HR.out.low, HR.out.bel⟩
theorem big4 (n : Int) (h0 : 0 ≤ n) (h1 : n ≤ 4294967295) (w : World) : Calls Tryz.prog 50 #[.int .u64 n, .int .i64 4] w (RetB (be4 n) w) := by
  have := BigB_any n.toNat 4 w (by omega) (by omega)
  rw [big_be4, Int.toNat_of_nonneg h0] at this
  exact this
section
variable (w : World) (a : Atr) (Ap Ac : Option Addr) (cp cc : Nat) (G : Foot)
set_option maxRecDepth 100000 in
set_option maxHeartbeats 4000000 in
theorem rval_6 (hm : Am w G a Ap cp Ac cc) : Calls Tryz.prog 89 #[.agg (atc a Ap cp Ac cc).toArray, .int .i64 6] w (RetB (valB a 6) w) := by
  obtain ⟨i0, hi, hz0, hz1, hz2⟩ := info_parts info_u8
  have Hi := Lib.hid hi
  have Hz0 := Lib.hid hz0
  have Hz1 := Lib.hid hz1
  have Hz2 := Lib.hid hz2
  have HM := Lib.hid hm
  have hwf := hm.wf
  obtain ⟨w1, hw1⟩ : ∃ w1, w1 = (w.alloc (.cells (atc a Ap cp Ac cc).toArray 29)).alloc (.cells #[] 5) := ⟨_, rfl⟩
  have hb2 := Bk.new (w.alloc (.cells (atc a Ap cp Ac cc).toArray 29)) 5 #[]
  have e2 : (w.alloc (.cells (atc a Ap cp Ac cc).toArray 29)).heap.size = w.heap.size + 1 := by simp
  rw [e2, ← hw1] at hb2
  have HB1 : Hid (Below w.heap.size w w1) := by rw [hw1]; exact ((Below.refl _ _).alloc (Nat.le_refl _) _).alloc (by simp) _
  have HK1 : Hid (Bk w1 w.heap.size 29 (atc a Ap cp Ac cc).toArray) := by rw [hw1]; exact (Bk.new w _ _).alloc _
  have HA0 : Hid (Acc w 5 1 w1 (some ⟨w.heap.size + 1, 0, none⟩) 0 0 []) := Acc.start HB1.out hb2 (by omega)
  obtain ⟨Q, hQ⟩ : ∃ Q, Q = RetB (valB a 6) w := ⟨_, rfl⟩
  have HQ : Hid (∀ (l' : List UInt8) (n : Nat) (A : Option Addr) (c : Nat) (w' : World), l' = valB a 6 → l'.length = n → Acc w 5 1 w' A n c (bv l') → Q (.returned (.slice A n c)) w') := fun l' n A c w' h1 h2 h3 => by
    subst h1 h2
    rw [hQ]
    exact ⟨A, c, rfl, h3.own, h3.low, h3.bel⟩
  rw [← hQ]
  have HS1 : Hid (w.heap.size + 1 ≤ w1.heap.size) := Nat.le_of_lt hb2.lt
  have HU : Hid (∀ w' j u, Below (w.heap.size + 1) w1 w' → (atc a Ap cp Ac cc).toArray[j]? = some u → w'.cell? ⟨w.heap.size, j, none⟩ = some u ∧ w.heap.size < w'.heap.size) := fun w' j u hb hu => ⟨((HK1.out.below hb (Nat.lt_succ_self _)).cell j).trans hu, (HK1.out.below hb (Nat.lt_succ_self _)).lt⟩
  clear hQ hi hz0 hz1 hz2 hb2 e2 hm
  have yl := (HU.out w1 0 _ (Below.refl _ _) (show _ = some (Value.int .i64 a.has) from rfl)).2
  generalize hcs : atc a Ap cp Ac cc = cs at *
  go_enter Tryz.func89, Tryz.ntmps89
  go_upto_region 2 with fail
  rw [← hw1]
  clear hw1
  go_wp2_with fail
  go_loopw [5, 8] (fun v5 v8 wq => v5 = .slice (some ⟨w.heap.size + 1, 0, none⟩) 0 0 ∧ v8 = .int .i64 0 ∧ wq = w1) (fun _ _ _ => 0)
  case atStart => exact ⟨rfl, rfl, rfl⟩
  case round =>
    obtain ⟨rfl, rfl, rfl⟩ := hrel
    go_wp2_with fail
    exact HQ.out [] 0 _ _ _ rfl rfl HA0.out
set_option maxRecDepth 100000 in
set_option maxHeartbeats 4000000 in
theorem rval_3 (hm : Am w G a Ap cp Ac cc) : Calls Tryz.prog 89 #[.agg (atc a Ap cp Ac cc).toArray, .int .i64 3] w (RetB (valB a 3) w) := by
  obtain ⟨i0, hi, hz0, hz1, hz2⟩ := info_parts info_u8
  have Hi := Lib.hid hi
  have Hz0 := Lib.hid hz0
  have Hz1 := Lib.hid hz1
  have Hz2 := Lib.hid hz2
  have HM := Lib.hid hm
  have hwf := hm.wf
  obtain ⟨w1, hw1⟩ : ∃ w1, w1 = (w.alloc (.cells (atc a Ap cp Ac cc).toArray 29)).alloc (.cells #[] 5) := ⟨_, rfl⟩
  have hb2 := Bk.new (w.alloc (.cells (atc a Ap cp Ac cc).toArray 29)) 5 #[]
  have e2 : (w.alloc (.cells (atc a Ap cp Ac cc).toArray 29)).heap.size = w.heap.size + 1 := by simp
  rw [e2, ← hw1] at hb2
  have HB1 : Hid (Below w.heap.size w w1) := by rw [hw1]; exact ((Below.refl _ _).alloc (Nat.le_refl _) _).alloc (by simp) _
  have HK1 : Hid (Bk w1 w.heap.size 29 (atc a Ap cp Ac cc).toArray) := by rw [hw1]; exact (Bk.new w _ _).alloc _
  have HA0 : Hid (Acc w 5 1 w1 (some ⟨w.heap.size + 1, 0, none⟩) 0 0 []) := Acc.start HB1.out hb2 (by omega)
  obtain ⟨Q, hQ⟩ : ∃ Q, Q = RetB (valB a 3) w := ⟨_, rfl⟩
  have HQ : Hid (∀ (l' : List UInt8) (n : Nat) (A : Option Addr) (c : Nat) (w' : World), l' = valB a 3 → l'.length = n → Acc w 5 1 w' A n c (bv l') → Q (.returned (.slice A n c)) w') := fun l' n A c w' h1 h2 h3 => by
    subst h1 h2
    rw [hQ]
    exact ⟨A, c, rfl, h3.own, h3.low, h3.bel⟩
  rw [← hQ]
  have HS1 : Hid (w.heap.size + 1 ≤ w1.heap.size) := Nat.le_of_lt hb2.lt
  have HU : Hid (∀ w' j u, Below (w.heap.size + 1) w1 w' → (atc a Ap cp Ac cc).toArray[j]? = some u → w'.cell? ⟨w.heap.size, j, none⟩ = some u ∧ w.heap.size < w'.heap.size) := fun w' j u hb hu => ⟨((HK1.out.below hb (Nat.lt_succ_self _)).cell j).trans hu, (HK1.out.below hb (Nat.lt_succ_self _)).lt⟩
  clear hQ hi hz0 hz1 hz2 hb2 e2 hm
  have y3 := (HU.out w1 3 _ (Below.refl _ _) (show _ = some (Value.int .u32 a.hop) from rfl)).1
  have yl := (HU.out w1 0 _ (Below.refl _ _) (show _ = some (Value.int .i64 a.has) from rfl)).2
  have hwf2 := wf_u32 hwf.hop
  have HBig := Lib.hid (fun w' => big4 a.hop hwf2.1 hwf2.2 w')
  have HVl : Hid (be4 a.hop = valB a 3 ∧ (be4 a.hop).length = 4) := ⟨rfl, rfl⟩
  generalize be4 a.hop = V at *
  generalize a.hop = x at *
  generalize hcs : atc a Ap cp Ac cc = cs at *
  go_enter Tryz.func89, Tryz.ntmps89
  go_upto_region 2 with fail
  rw [← hw1]
  clear hw1
  go_wp2_with (go_at_call 50; refine (HBig.out w1).mono ?_; rintro e w2 ⟨A2, c2, rfl, h1, h2, h3⟩; have HA2 : Hid (Acc w 5 1 w2 A2 V.length c2 (bv V)) := ⟨h1, HB1.out.trans (h3.mono HB1.out.size), fun j hj => Nat.le_trans HB1.out.size (h2 j hj)⟩; clear h1 h2 h3)
  go_loopw [5, 8] (fun v5 v8 wq => v5 = .slice A2 V.length c2 ∧ v8 = .int .i64 0 ∧ wq = w2) (fun _ _ _ => 0)
  case atStart => exact ⟨rfl, rfl, rfl⟩
  case round =>
    obtain ⟨rfl, rfl, rfl⟩ := hrel
    go_wp2_with fail
    exact HQ.out V _ _ _ _ HVl.out.1 rfl HA2.out
set_option maxRecDepth 100000 in
set_option maxHeartbeats 4000000 in
theorem rval_4 (hm : Am w G a Ap cp Ac cc) : Calls Tryz.prog 89 #[.agg (atc a Ap cp Ac cc).toArray, .int .i64 4] w (RetB (valB a 4) w) := by
  obtain ⟨i0, hi, hz0, hz1, hz2⟩ := info_parts info_u8
  have Hi := Lib.hid hi
  have Hz0 := Lib.hid hz0
  have Hz1 := Lib.hid hz1
  have Hz2 := Lib.hid hz2
  have HM := Lib.hid hm
  have hwf := hm.wf
  obtain ⟨w1, hw1⟩ : ∃ w1, w1 = (w.alloc (.cells (atc a Ap cp Ac cc).toArray 29)).alloc (.cells #[] 5) := ⟨_, rfl⟩
  have hb2 := Bk.new (w.alloc (.cells (atc a Ap cp Ac cc).toArray 29)) 5 #[]
  have e2 : (w.alloc (.cells (atc a Ap cp Ac cc).toArray 29)).heap.size = w.heap.size + 1 := by simp
  rw [e2, ← hw1] at hb2
  have HB1 : Hid (Below w.heap.size w w1) := by rw [hw1]; exact ((Below.refl _ _).alloc (Nat.le_refl _) _).alloc (by simp) _
  have HK1 : Hid (Bk w1 w.heap.size 29 (atc a Ap cp Ac cc).toArray) := by rw [hw1]; exact (Bk.new w _ _).alloc _
  have HA0 : Hid (Acc w 5 1 w1 (some ⟨w.heap.size + 1, 0, none⟩) 0 0 []) := Acc.start HB1.out hb2 (by omega)
  obtain ⟨Q, hQ⟩ : ∃ Q, Q = RetB (valB a 4) w := ⟨_, rfl⟩
  have HQ : Hid (∀ (l' : List UInt8) (n : Nat) (A : Option Addr) (c : Nat) (w' : World), l' = valB a 4 → l'.length = n → Acc w 5 1 w' A n c (bv l') → Q (.returned (.slice A n c)) w') := fun l' n A c w' h1 h2 h3 => by
    subst h1 h2
    rw [hQ]
    exact ⟨A, c, rfl, h3.own, h3.low, h3.bel⟩
  rw [← hQ]
  have HS1 : Hid (w.heap.size + 1 ≤ w1.heap.size) := Nat.le_of_lt hb2.lt
  have HU : Hid (∀ w' j u, Below (w.heap.size + 1) w1 w' → (atc a Ap cp Ac cc).toArray[j]? = some u → w'.cell? ⟨w.heap.size, j, none⟩ = some u ∧ w.heap.size < w'.heap.size) := fun w' j u hb hu => ⟨((HK1.out.below hb (Nat.lt_succ_self _)).cell j).trans hu, (HK1.out.below hb (Nat.lt_succ_self _)).lt⟩
  clear hQ hi hz0 hz1 hz2 hb2 e2 hm
  have y4 := (HU.out w1 4 _ (Below.refl _ _) (show _ = some (Value.int .u32 a.med) from rfl)).1
  have yl := (HU.out w1 0 _ (Below.refl _ _) (show _ = some (Value.int .i64 a.has) from rfl)).2
  have hwf2 := wf_u32 hwf.med
  have HBig := Lib.hid (fun w' => big4 a.med hwf2.1 hwf2.2 w')
  have HVl : Hid (be4 a.med = valB a 4 ∧ (be4 a.med).length = 4) := ⟨rfl, rfl⟩
  generalize be4 a.med = V at *
  generalize a.med = x at *
  generalize hcs : atc a Ap cp Ac cc = cs at *
  go_enter Tryz.func89, Tryz.ntmps89
  go_upto_region 2 with fail
  rw [← hw1]
  clear hw1
  go_wp2_with (go_at_call 50; refine (HBig.out w1).mono ?_; rintro e w2 ⟨A2, c2, rfl, h1, h2, h3⟩; have HA2 : Hid (Acc w 5 1 w2 A2 V.length c2 (bv V)) := ⟨h1, HB1.out.trans (h3.mono HB1.out.size), fun j hj => Nat.le_trans HB1.out.size (h2 j hj)⟩; clear h1 h2 h3)
  go_loopw [5, 8] (fun v5 v8 wq => v5 = .slice A2 V.length c2 ∧ v8 = .int .i64 0 ∧ wq = w2) (fun _ _ _ => 0)
  case atStart => exact ⟨rfl, rfl, rfl⟩
  case round =>
    obtain ⟨rfl, rfl, rfl⟩ := hrel
    go_wp2_with fail
    exact HQ.out V _ _ _ _ HVl.out.1 rfl HA2.out
set_option maxRecDepth 100000 in
set_option maxHeartbeats 4000000 in
theorem rval_5 (hm : Am w G a Ap cp Ac cc) : Calls Tryz.prog 89 #[.agg (atc a Ap cp Ac cc).toArray, .int .i64 5] w (RetB (valB a 5) w) := by
  obtain ⟨i0, hi, hz0, hz1, hz2⟩ := info_parts info_u8
  have Hi := Lib.hid hi
  have Hz0 := Lib.hid hz0
  have Hz1 := Lib.hid hz1
  have Hz2 := Lib.hid hz2
  have HM := Lib.hid hm
  have hwf := hm.wf
  obtain ⟨w1, hw1⟩ : ∃ w1, w1 = (w.alloc (.cells (atc a Ap cp Ac cc).toArray 29)).alloc (.cells #[] 5) := ⟨_, rfl⟩
  have hb2 := Bk.new (w.alloc (.cells (atc a Ap cp Ac cc).toArray 29)) 5 #[]
  have e2 : (w.alloc (.cells (atc a Ap cp Ac cc).toArray 29)).heap.size = w.heap.size + 1 := by simp
  rw [e2, ← hw1] at hb2
  have HB1 : Hid (Below w.heap.size w w1) := by rw [hw1]; exact ((Below.refl _ _).alloc (Nat.le_refl _) _).alloc (by simp) _
  have HK1 : Hid (Bk w1 w.heap.size 29 (atc a Ap cp Ac cc).toArray) := by rw [hw1]; exact (Bk.new w _ _).alloc _
  have HA0 : Hid (Acc w 5 1 w1 (some ⟨w.heap.size + 1, 0, none⟩) 0 0 []) := Acc.start HB1.out hb2 (by omega)
  obtain ⟨Q, hQ⟩ : ∃ Q, Q = RetB (valB a 5) w := ⟨_, rfl⟩
  have HQ : Hid (∀ (l' : List UInt8) (n : Nat) (A : Option Addr) (c : Nat) (w' : World), l' = valB a 5 → l'.length = n → Acc w 5 1 w' A n c (bv l') → Q (.returned (.slice A n c)) w') := fun l' n A c w' h1 h2 h3 => by
    subst h1 h2
    rw [hQ]
    exact ⟨A, c, rfl, h3.own, h3.low, h3.bel⟩
  rw [← hQ]
  have HS1 : Hid (w.heap.size + 1 ≤ w1.heap.size) := Nat.le_of_lt hb2.lt
  have HU : Hid (∀ w' j u, Below (w.heap.size + 1) w1 w' → (atc a Ap cp Ac cc).toArray[j]? = some u → w'.cell? ⟨w.heap.size, j, none⟩ = some u ∧ w.heap.size < w'.heap.size) := fun w' j u hb hu => ⟨((HK1.out.below hb (Nat.lt_succ_self _)).cell j).trans hu, (HK1.out.below hb (Nat.lt_succ_self _)).lt⟩
  clear hQ hi hz0 hz1 hz2 hb2 e2 hm
  have y5 := (HU.out w1 5 _ (Below.refl _ _) (show _ = some (Value.int .u32 a.pref) from rfl)).1
  have yl := (HU.out w1 0 _ (Below.refl _ _) (show _ = some (Value.int .i64 a.has) from rfl)).2
  have hwf2 := wf_u32 hwf.pref
  have HBig := Lib.hid (fun w' => big4 a.pref hwf2.1 hwf2.2 w')
  have HVl : Hid (be4 a.pref = valB a 5 ∧ (be4 a.pref).length = 4) := ⟨rfl, rfl⟩
  generalize be4 a.pref = V at *
  generalize a.pref = x at *
  generalize hcs : atc a Ap cp Ac cc = cs at *
  go_enter Tryz.func89, Tryz.ntmps89
  go_upto_region 2 with fail
  rw [← hw1]
  clear hw1
  go_wp2_with (go_at_call 50; refine (HBig.out w1).mono ?_; rintro e w2 ⟨A2, c2, rfl, h1, h2, h3⟩; have HA2 : Hid (Acc w 5 1 w2 A2 V.length c2 (bv V)) := ⟨h1, HB1.out.trans (h3.mono HB1.out.size), fun j hj => Nat.le_trans HB1.out.size (h2 j hj)⟩; clear h1 h2 h3)
  go_loopw [5, 8] (fun v5 v8 wq => v5 = .slice A2 V.length c2 ∧ v8 = .int .i64 0 ∧ wq = w2) (fun _ _ _ => 0)
  case atStart => exact ⟨rfl, rfl, rfl⟩
  case round =>
    obtain ⟨rfl, rfl, rfl⟩ := hrel
    go_wp2_with fail
    exact HQ.out V _ _ _ _ HVl.out.1 rfl HA2.out
set_option maxRecDepth 100000 in
set_option maxHeartbeats 4000000 in
theorem rval_1 (hm : Am w G a Ap cp Ac cc) : Calls Tryz.prog 89 #[.agg (atc a Ap cp Ac cc).toArray, .int .i64 1] w (RetB (valB a 1) w) := by
  obtain ⟨i0, hi, hz0, hz1, hz2⟩ := info_parts info_u8
  have Hi := Lib.hid hi
  have Hz0 := Lib.hid hz0
  have Hz1 := Lib.hid hz1
  have Hz2 := Lib.hid hz2
  have HM := Lib.hid hm
  have hwf := hm.wf
  obtain ⟨w1, hw1⟩ : ∃ w1, w1 = (w.alloc (.cells (atc a Ap cp Ac cc).toArray 29)).alloc (.cells #[] 5) := ⟨_, rfl⟩
  have hb2 := Bk.new (w.alloc (.cells (atc a Ap cp Ac cc).toArray 29)) 5 #[]
  have e2 : (w.alloc (.cells (atc a Ap cp Ac cc).toArray 29)).heap.size = w.heap.size + 1 := by simp
  rw [e2, ← hw1] at hb2
  have HB1 : Hid (Below w.heap.size w w1) := by rw [hw1]; exact ((Below.refl _ _).alloc (Nat.le_refl _) _).alloc (by simp) _
  have HK1 : Hid (Bk w1 w.heap.size 29 (atc a Ap cp Ac cc).toArray) := by rw [hw1]; exact (Bk.new w _ _).alloc _
  have HA0 : Hid (Acc w 5 1 w1 (some ⟨w.heap.size + 1, 0, none⟩) 0 0 []) := Acc.start HB1.out hb2 (by omega)
  obtain ⟨Q, hQ⟩ : ∃ Q, Q = RetB (valB a 1) w := ⟨_, rfl⟩
  have HQ : Hid (∀ (l' : List UInt8) (n : Nat) (A : Option Addr) (c : Nat) (w' : World), l' = valB a 1 → l'.length = n → Acc w 5 1 w' A n c (bv l') → Q (.returned (.slice A n c)) w') := fun l' n A c w' h1 h2 h3 => by
    subst h1 h2
    rw [hQ]
    exact ⟨A, c, rfl, h3.own, h3.low, h3.bel⟩
  rw [← hQ]
  have HS1 : Hid (w.heap.size + 1 ≤ w1.heap.size) := Nat.le_of_lt hb2.lt
  have HU : Hid (∀ w' j u, Below (w.heap.size + 1) w1 w' → (atc a Ap cp Ac cc).toArray[j]? = some u → w'.cell? ⟨w.heap.size, j, none⟩ = some u ∧ w.heap.size < w'.heap.size) := fun w' j u hb hu => ⟨((HK1.out.below hb (Nat.lt_succ_self _)).cell j).trans hu, (HK1.out.below hb (Nat.lt_succ_self _)).lt⟩
  clear hQ hi hz0 hz1 hz2 hb2 e2 hm
  have y1 := (HU.out w1 1 _ (Below.refl _ _) (show _ = some (Value.int .i64 a.orig) from rfl)).1
  have yl := (HU.out w1 0 _ (Below.refl _ _) (show _ = some (Value.int .i64 a.has) from rfl)).2
  have HVl : Hid ([octet.byteOf a.orig] = valB a 1) := rfl
  generalize a.orig = x at *
  have HO : Hid (foot.Own (w1.alloc (.cells #[.int .u8 (x % 256)] 5)) 5 1 (some ⟨w.heap.size + 1, 0, none⟩) 0 0 []) := HA0.out.own.bel ((Below.refl _ _).alloc (Nat.le_refl _) _)
  have HR := Lib.hid (Rg.new w1 5 1 1 #[.int .u8 (x % 256)] rfl)
  have HF : Hid (∀ A2 c2 w2, foot.Own w2 5 1 A2 (0 + 1) c2 ([] ++ [.int .u8 (x % 256)]) → Chg (sf (some ⟨w.heap.size + 1, 0, none⟩)) (w1.alloc (.cells #[.int .u8 (x % 256)] 5)) w2 → Fresh (w1.alloc (.cells #[.int .u8 (x % 256)] 5)) (sf (some ⟨w.heap.size + 1, 0, none⟩)) (sf A2) → Acc w 5 1 w2 A2 1 c2 (bv [octet.byteOf x])) := fun A2 c2 w2 h1 h2 h3 => by
    have := (HA0.out.go ((Below.refl _ _).alloc (Nat.le_refl _) _)).app h1 h2 h3
    rw [bv_byte]
    simpa using this
  generalize hcs : atc a Ap cp Ac cc = cs at *
  go_enter Tryz.func89, Tryz.ntmps89
  go_upto_region 2 with fail
  rw [← hw1]
  clear hw1
  go_wp2_with (at_builtin; refine wpList_app _ rfl (.tmp 12) (.tmp 16) _ rfl 5 i0 _ 1 1 Tryz.underlying22 Hi.out Hz0.out Hz1.out Hz2.out rfl (by omega) (some ⟨w.heap.size + 1, 0, none⟩) 0 0 [] rfl HO.out _ (some ⟨w1.heap.size, 0, none⟩) 1 1 (by intro h; cases h) [.int .u8 (x % 256)] rfl HR.out (by intro u hu; simp at hu; rw [hu]; rfl) (by unfold maxLen; omega) (by omega) ?_; intro A2 c2 w2 ho hc hf; have HA2 := Lib.hid (HF.out A2 c2 w2 ho hc hf); clear ho hc hf)
  go_loopw [5, 8] (fun v5 v8 wq => v5 = .slice A2 1 c2 ∧ v8 = .int .i64 0 ∧ wq = w2) (fun _ _ _ => 0)
  case atStart => exact ⟨rfl, rfl, rfl⟩
  case round =>
    obtain ⟨rfl, rfl, rfl⟩ := hrel
    go_wp2_with fail
    exact HQ.out [octet.byteOf x] 1 _ _ _ HVl.out rfl HA2.out
set_option maxRecDepth 100000 in
set_option maxHeartbeats 4000000 in
theorem rval_7 (hm : Am w G a Ap cp Ac cc) : Calls Tryz.prog 89 #[.agg (atc a Ap cp Ac cc).toArray, .int .i64 7] w (RetB (valB a 7) w) := by
  obtain ⟨i0, hi, hz0, hz1, hz2⟩ := info_parts info_u8
  have Hi := Lib.hid hi
  have Hz0 := Lib.hid hz0
  have Hz1 := Lib.hid hz1
  have Hz2 := Lib.hid hz2
  have HM := Lib.hid hm
  have hwf := hm.wf
  obtain ⟨w1, hw1⟩ : ∃ w1, w1 = (w.alloc (.cells (atc a Ap cp Ac cc).toArray 29)).alloc (.cells #[] 5) := ⟨_, rfl⟩
  have hb2 := Bk.new (w.alloc (.cells (atc a Ap cp Ac cc).toArray 29)) 5 #[]
  have e2 : (w.alloc (.cells (atc a Ap cp Ac cc).toArray 29)).heap.size = w.heap.size + 1 := by simp
  rw [e2, ← hw1] at hb2
  have HB1 : Hid (Below w.heap.size w w1) := by rw [hw1]; exact ((Below.refl _ _).alloc (Nat.le_refl _) _).alloc (by simp) _
  have HK1 : Hid (Bk w1 w.heap.size 29 (atc a Ap cp Ac cc).toArray) := by rw [hw1]; exact (Bk.new w _ _).alloc _
  have HA0 : Hid (Acc w 5 1 w1 (some ⟨w.heap.size + 1, 0, none⟩) 0 0 []) := Acc.start HB1.out hb2 (by omega)
  obtain ⟨Q, hQ⟩ : ∃ Q, Q = RetB (valB a 7) w := ⟨_, rfl⟩
  have HQ : Hid (∀ (l' : List UInt8) (n : Nat) (A : Option Addr) (c : Nat) (w' : World), l' = valB a 7 → l'.length = n → Acc w 5 1 w' A n c (bv l') → Q (.returned (.slice A n c)) w') := fun l' n A c w' h1 h2 h3 => by
    subst h1 h2
    rw [hQ]
    exact ⟨A, c, rfl, h3.own, h3.low, h3.bel⟩
  rw [← hQ]
  have HS1 : Hid (w.heap.size + 1 ≤ w1.heap.size) := Nat.le_of_lt hb2.lt
  have HU : Hid (∀ w' j u, Below (w.heap.size + 1) w1 w' → (atc a Ap cp Ac cc).toArray[j]? = some u → w'.cell? ⟨w.heap.size, j, none⟩ = some u ∧ w.heap.size < w'.heap.size) := fun w' j u hb hu => ⟨((HK1.out.below hb (Nat.lt_succ_self _)).cell j).trans hu, (HK1.out.below hb (Nat.lt_succ_self _)).lt⟩
  clear hQ hi hz0 hz1 hz2 hb2 e2 hm
  have y6 := (HU.out w1 6 _ (Below.refl _ _) (show _ = some (Value.int .u32 a.aas) from rfl)).1
  have y7 := (HU.out w1 7 _ (Below.refl _ _) (show _ = some (Value.int .u32 a.aid) from rfl)).1
  have yl := (HU.out w1 0 _ (Below.refl _ _) (show _ = some (Value.int .i64 a.has) from rfl)).2
  have hwf2 := wf_u32 hwf.aas
  have hwf3 := wf_u32 hwf.aid
  have HBig1 := Lib.hid (fun w' => big4 a.aas hwf2.1 hwf2.2 w')
  have HBig2 := Lib.hid (fun w' => big4 a.aid hwf3.1 hwf3.2 w')
  have HVl : Hid (be4 a.aas ++ be4 a.aid = valB a 7) := rfl
  have HL4 : Hid ((be4 a.aas).length = 4 ∧ (be4 a.aid).length = 4) := ⟨rfl, rfl⟩
  have z6 := fun w' (hb : Below w1.heap.size w1 w') => (HU.out w' 6 _ (hb.mono HS1.out) (show _ = some (Value.int .u32 a.aas) from rfl)).1
  have z7 := fun w' (hb : Below w1.heap.size w1 w') => (HU.out w' 7 _ (hb.mono HS1.out) (show _ = some (Value.int .u32 a.aid) from rfl)).1
  have HZ : Hid (∀ w', Below w1.heap.size w1 w' → w'.cell? ⟨w.heap.size, 6, none⟩ = some (.int .u32 a.aas) ∧ w'.cell? ⟨w.heap.size, 7, none⟩ = some (.int .u32 a.aid)) := fun w' hb => ⟨z6 w' hb, z7 w' hb⟩
  clear z6 z7
  have wu1 : IntKind.u64.wrap a.aas = a.aas := by rw [IntKind.wrap_u64]; omega
  have wu2 : IntKind.u64.wrap a.aid = a.aid := by rw [IntKind.wrap_u64]; omega
  generalize be4 a.aas = V at *
  generalize be4 a.aid = V2 at *
  generalize a.aas = x at *
  generalize a.aid = x2 at *
  generalize hcs : atc a Ap cp Ac cc = cs at *
  go_enter Tryz.func89, Tryz.ntmps89
  go_upto_region 20 with fail
  rw [← hw1]
  clear hw1
  have HBd : Hid (Below w1.heap.size w1 w1.drew) := (Below.refl _ _).drew
  have HZd := Lib.hid (HZ.out w1.drew HBd.out)
  have HBx1 := Lib.hid (HBig1.out w1.drew)
  go_region_held3 (fun w' => w'.cell? ⟨w.heap.size, 6, none⟩ = some (.int .u32 x) ∧ w'.cell? ⟨w.heap.size, 7, none⟩ = some (.int .u32 x2)) (first | exact HZ4.out | exact HZ3.out | exact HZ2.out | exact HZd.out | exact ⟨y6, y7⟩) (first
    | (go_at_call 50; (with_reducible refine HBx1.out.mono ?_); rintro e w2 ⟨A2, c2, rfl, h1, h2, h3⟩; go_must (have HB2 := Lib.hid (HBd.out.trans (h3.mono HBd.out.size))); go_must (have HO2 := Lib.hid (And.intro h1 h2)); go_must (have HBx2 := Lib.hid (HBig2.out w2)); go_must (have HZ2 := Lib.hid (HZ.out w2 HB2.out)); clear h1 h2 h3)
    | (go_at_call 50; (with_reducible refine HBx2.out.mono ?_); rintro e w3 ⟨A3, c3, rfl, h1, h2, h3⟩; go_must (have HB3 := Lib.hid (HB2.out.trans (h3.mono HB2.out.size))); go_must (have HO3 := Lib.hid (HO2.out.1.bel h3)); go_must (have HP3 := Lib.hid (And.intro h1 h2)); go_must (have HZ3 := Lib.hid (HZ.out w3 HB3.out)); clear h1 h2 h3)
    | (refine step_app _ (by rfl) (.tmp 92) (.tmp 96) _ (by rfl) 5 i0 _ 1 1 Tryz.underlying22 Hi.out Hz0.out Hz1.out Hz2.out rfl (by omega) A2 V.length c2 (bv V) (by rfl) HO3.out _ A3 V2.length c3 HP3.out.1.nil (bv V2) (by rfl) HP3.out.1.rg (bv_one _) (by unfold maxLen; have := HL4.out.1; have := HL4.out.2; omega) (by have := HL4.out.1; have := HL4.out.2; omega) ?_; intro A4 c4 w4 ho hc hf; go_must (have HA4 : Hid (Acc w 5 1 w4 A4 (V.length + V2.length) c4 (bv (V ++ V2))) := (by rw [bv_app]; exact Acc.app ⟨HO3.out, HB1.out.trans (HB3.out.mono HB1.out.size), fun j hj => Nat.le_trans (Nat.le_trans HB1.out.size (Nat.le_refl _)) (HO2.out.2 j hj)⟩ ho hc hf)); go_must (have HZ4 := Lib.hid (HZ.out w4 (HB3.out.trans (hc.below (fun j hj => HO2.out.2 j hj) HB3.out.size)))); clear ho hc hf))
  go_wp2_with fail
  go_loopw [5, 8] (fun v5 v8 wq => v5 = .slice A4 (V.length + V2.length) c4 ∧ v8 = .int .i64 0 ∧ wq = w4) (fun _ _ _ => 0)
  case atStart => exact ⟨rfl, rfl, rfl⟩
  case round =>
    obtain ⟨rfl, rfl, rfl⟩ := hrel
    go_wp2_with fail
    exact HQ.out (V ++ V2) _ _ _ _ HVl.out (by simp) HA4.out
set_option maxRecDepth 100000 in
set_option maxHeartbeats 4000000 in
theorem rval_8 (hm : Am w G a Ap cp Ac cc) (hc : a.comms.length ≤ 100000) : Calls Tryz.prog 89 #[.agg (atc a Ap cp Ac cc).toArray, .int .i64 8] w (RetB (valB a 8) w) := by
  obtain ⟨i0, hi, hz0, hz1, hz2⟩ := info_parts info_u8
  have Hi := Lib.hid hi
  have Hz0 := Lib.hid hz0
  have Hz1 := Lib.hid hz1
  have Hz2 := Lib.hid hz2
  have HM := Lib.hid hm
  have hwf := hm.wf
  obtain ⟨w1, hw1⟩ : ∃ w1, w1 = (w.alloc (.cells (atc a Ap cp Ac cc).toArray 29)).alloc (.cells #[] 5) := ⟨_, rfl⟩
  have hb2 := Bk.new (w.alloc (.cells (atc a Ap cp Ac cc).toArray 29)) 5 #[]
  have e2 : (w.alloc (.cells (atc a Ap cp Ac cc).toArray 29)).heap.size = w.heap.size + 1 := by simp
  rw [e2, ← hw1] at hb2
  have HB1 : Hid (Below w.heap.size w w1) := by rw [hw1]; exact ((Below.refl _ _).alloc (Nat.le_refl _) _).alloc (by simp) _
  have HK1 : Hid (Bk w1 w.heap.size 29 (atc a Ap cp Ac cc).toArray) := by rw [hw1]; exact (Bk.new w _ _).alloc _
  have HA0 : Hid (Acc w 5 1 w1 (some ⟨w.heap.size + 1, 0, none⟩) 0 0 []) := Acc.start HB1.out hb2 (by omega)
  obtain ⟨Q, hQ⟩ : ∃ Q, Q = RetB (valB a 8) w := ⟨_, rfl⟩
  have HQ : Hid (∀ (l' : List UInt8) (n : Nat) (A : Option Addr) (c : Nat) (w' : World), l' = valB a 8 → l'.length = n → Acc w 5 1 w' A n c (bv l') → Q (.returned (.slice A n c)) w') := fun l' n A c w' h1 h2 h3 => by
    subst h1 h2
    rw [hQ]
    exact ⟨A, c, rfl, h3.own, h3.low, h3.bel⟩
  rw [← hQ]
  have HS1 : Hid (w.heap.size + 1 ≤ w1.heap.size) := Nat.le_of_lt hb2.lt
  have HU : Hid (∀ w' j u, Below (w.heap.size + 1) w1 w' → (atc a Ap cp Ac cc).toArray[j]? = some u → w'.cell? ⟨w.heap.size, j, none⟩ = some u ∧ w.heap.size < w'.heap.size) := fun w' j u hb hu => ⟨((HK1.out.below hb (Nat.lt_succ_self _)).cell j).trans hu, (HK1.out.below hb (Nat.lt_succ_self _)).lt⟩
  clear hQ hi hz0 hz1 hz2 hb2 e2 hm
  have y8 := (HU.out w1 8 _ (Below.refl _ _) (show _ = some (Value.slice Ac a.comms.length cc) from rfl)).1
  have yl := (HU.out w1 0 _ (Below.refl _ _) (show _ = some (Value.int .i64 a.has) from rfl)).2
  have HVl : Hid (n4s a.comms = valB a 8) := rfl
  have HZ : Hid (∀ w', Below (w.heap.size + 1) w1 w' → w'.cell? ⟨w.heap.size, 8, none⟩ = some (.slice Ac a.comms.length cc)) := fun w' hb => (HU.out w' 8 _ hb (show _ = some (Value.slice Ac a.comms.length cc) from rfl)).1
  have HSn : Hid (∀ w', Below w.heap.size w w' → Sn w' G Ac cc a.comms) := fun w' hb => HM.out.sn.bel hb
  have H32 := Lib.hid HM.out.w32
  have HBig : Hid (∀ (n : Nat) w', n < 4294967296 → Calls Tryz.prog 50 #[.int .u64 (n : Int), .int .i64 4] w' (RetB (be4 (n : Int)) w')) := fun n w' h => big4 (n : Int) (by omega) (by omega) w'
  clear HM hwf
  generalize a.comms = cm at *
  generalize hcs : atc a Ap cp Ac cc = cs at *
  go_enter Tryz.func89, Tryz.ntmps89
  go_upto_region 2 with fail
  rw [← hw1]
  clear hw1
  go_wp2_with fail
  go_loopw [5, 8] (fun v5 v8 wr => ∃ (i : Nat) (A : Option Addr) (c : Nat), i ≤ cm.length ∧ v8 = .int .i64 i ∧ v5 = .slice A (4 * i) c ∧ Acc w 5 1 wr A (4 * i) c (bv (n4s (cm.take i))) ∧ Below (w.heap.size + 1) w1 wr ∧ ∀ j, sf A j → w.heap.size + 1 ≤ j) (fun _ v8 _ => cm.length - (intOf v8).toNat)
  case atStart => exact ⟨0, _, 0, by omega, rfl, rfl, HA0.out, Below.refl _ _, fun j hj => by rw [sf_some] at hj; exact Nat.le_of_eq hj⟩
  case round =>
    obtain ⟨i, A, c, hi, rfl, rfl, ha, hb, hlo⟩ := hrel
    have HLow := Lib.hid hlo
    have HA := Lib.hid ha
    have HB := Lib.hid hb
    have y8 := HZ.out wr hb
    have yl : w.heap.size < wr.heap.size := Nat.lt_of_lt_of_le HS1.out hb.size
    clear ha hb hlo
    by_cases hlt : i < cm.length
    · obtain ⟨p1, o1, rfl, l1, q1⟩ := (HSn.out wr HA.out.bel).at_ hlt
      have hi1 : (i : Int) < (cm.length : Int) := by omega
      have HNx : Hid (n4s (cm.take (i + 1)) = n4s (cm.take i) ++ be4 (cm[i] : Int)) := by
        rw [Hid, List.take_succ_eq_append_getElem hlt, n4s_app]
        simp [n4s]
      have HBx := Lib.hid (HBig.out cm[i] wr (H32.out _ (List.getElem_mem hlt)))
      have HL4 : Hid ((be4 (cm[i] : Int)).length = 4) := rfl
      have hx : cm[i] < 4294967296 := H32.out _ (List.getElem_mem hlt)
      generalize be4 (cm[i] : Int) = V at *
      generalize cm[i] = x at *
      generalize hm4 : 4 * i = m4 at *
      go_wp2_with (first
        | (go_at_call 50; refine HBx.out.mono ?_; rintro e w2 ⟨A2, c2, rfl, h1, h2, h3⟩; have HB2 := Lib.hid (HB.out.trans (h3.mono yl)); have HA2 := Lib.hid (HA.out.go h3); have HO2 := Lib.hid h1; have HS2 := Lib.hid h3.size; clear h1 h2 h3)
        | (at_builtin; refine wpList_app _ rfl (.tmp 109) (.tmp 116) _ rfl 5 i0 _ 1 1 Tryz.underlying22 Hi.out Hz0.out Hz1.out Hz2.out rfl (by omega) A m4 c (bv (n4s (cm.take i))) rfl HA2.out.own _ A2 V.length c2 HO2.out.nil (bv V) rfl HO2.out.rg (bv_one _) (by unfold maxLen; have := HL4.out; omega) (by have := HL4.out; omega) ?_; intro A3 c3 w3 ho hc' hf; have HA3 := Lib.hid (HA2.out.app ho hc' hf); have HB3 := Lib.hid (HB2.out.trans (hc'.below HLow.out (Nat.le_trans yl HS2.out))); have HLo3 : Hid (∀ j, sf A3 j → w.heap.size + 1 ≤ j) := (fun j hj => (hf j hj).elim (HLow.out j) fun e => Nat.le_trans yl (Nat.le_trans HS2.out e)); clear ho hc' hf))
      go_roundw
      case rel => exact ⟨i + 1, A3, c3, by omega, by go_num, by rw [HL4.out]; congr 1; omega, by have h := HA3.out; rw [← bv_app, ← HNx.out, HL4.out] at h; rw [show 4 * (i + 1) = m4 + 4 by omega]; exact h, HB3.out, HLo3.out⟩
      case measure => simp [intOf]; omega
    · obtain rfl : i = cm.length := by omega
      rw [List.take_length] at HA
      have HL4 := Lib.hid (n4s_len cm)
      have HP := Lib.hid (HQ.out (n4s cm) _ _ _ _ HVl.out HL4.out HA.out)
      go_wp2_with fail
      exact HP.out
set_option maxRecDepth 100000 in
set_option maxHeartbeats 4000000 in
theorem rval_2 (hm : Am w G a Ap cp Ac cc) (hp : nsz a.path ≤ 100000) : Calls Tryz.prog 89 #[.agg (atc a Ap cp Ac cc).toArray, .int .i64 2] w (RetB (valB a 2) w) := by
  obtain ⟨i0, hi, hz0, hz1, hz2⟩ := info_parts info_u8
  have Hi := Lib.hid hi
  have Hz0 := Lib.hid hz0
  have Hz1 := Lib.hid hz1
  have Hz2 := Lib.hid hz2
  have HM := Lib.hid hm
  have hwf := hm.wf
  obtain ⟨w1, hw1⟩ : ∃ w1, w1 = (w.alloc (.cells (atc a Ap cp Ac cc).toArray 29)).alloc (.cells #[] 5) := ⟨_, rfl⟩
  have hb2 := Bk.new (w.alloc (.cells (atc a Ap cp Ac cc).toArray 29)) 5 #[]
  have e2 : (w.alloc (.cells (atc a Ap cp Ac cc).toArray 29)).heap.size = w.heap.size + 1 := by simp
  rw [e2, ← hw1] at hb2
  have HB1 : Hid (Below w.heap.size w w1) := by rw [hw1]; exact ((Below.refl _ _).alloc (Nat.le_refl _) _).alloc (by simp) _
  have HK1 : Hid (Bk w1 w.heap.size 29 (atc a Ap cp Ac cc).toArray) := by rw [hw1]; exact (Bk.new w _ _).alloc _
  have HA0 : Hid (Acc w 5 1 w1 (some ⟨w.heap.size + 1, 0, none⟩) 0 0 []) := Acc.start HB1.out hb2 (by omega)
  obtain ⟨Q, hQ⟩ : ∃ Q, Q = RetB (valB a 2) w := ⟨_, rfl⟩
  have HQ : Hid (∀ (l' : List UInt8) (n : Nat) (A : Option Addr) (c : Nat) (w' : World), l' = valB a 2 → l'.length = n → Acc w 5 1 w' A n c (bv l') → Q (.returned (.slice A n c)) w') := fun l' n A c w' h1 h2 h3 => by
    subst h1 h2
    rw [hQ]
    exact ⟨A, c, rfl, h3.own, h3.low, h3.bel⟩
  rw [← hQ]
  have HS1 : Hid (w.heap.size + 1 ≤ w1.heap.size) := Nat.le_of_lt hb2.lt
  have HU : Hid (∀ w' j u, Below (w.heap.size + 1) w1 w' → (atc a Ap cp Ac cc).toArray[j]? = some u → w'.cell? ⟨w.heap.size, j, none⟩ = some u ∧ w.heap.size < w'.heap.size) := fun w' j u hb hu => ⟨((HK1.out.below hb (Nat.lt_succ_self _)).cell j).trans hu, (HK1.out.below hb (Nat.lt_succ_self _)).lt⟩
  clear hQ hi hz0 hz1 hz2 hb2 e2 hm
  have y2 := (HU.out w1 2 _ (Below.refl _ _) (show _ = some (Value.slice Ap a.path.length cp) from rfl)).1
  have yl := (HU.out w1 0 _ (Below.refl _ _) (show _ = some (Value.int .i64 a.has) from rfl)).2
  have HVl : Hid (pathB a.path = valB a 2) := rfl
  have HZ : Hid (∀ w', Below (w.heap.size + 1) w1 w' → w'.cell? ⟨w.heap.size, 2, none⟩ = some (.slice Ap a.path.length cp) ∧ w.heap.size < w'.heap.size) := fun w' hb => HU.out w' 2 _ hb (show _ = some (Value.slice Ap a.path.length cp) from rfl)
  have HSp : Hid (∀ w', Below w.heap.size w w' → Sp w' G Ap cp a.path) := fun w' hb => HM.out.sp.bel hb
  have HBig : Hid (∀ (n : Nat) w', n < 4294967296 → Calls Tryz.prog 50 #[.int .u64 (n : Int), .int .i64 4] w' (RetB (be4 (n : Int)) w')) := fun n w' h => big4 (n : Int) (by omega) (by omega) w'
  clear HM hwf
  generalize a.path = pt at *
  have hll := nsz_len pt
  generalize hcs : atc a Ap cp Ac cc = cs at *
  go_enter Tryz.func89, Tryz.ntmps89
  go_upto_region 2 with fail
  rw [← hw1]
  clear hw1
  go_wp2_with fail
  go_loopw [5, 6, 7] (fun v5 v6 v7 wr => ∃ (i n : Nat) (A : Option Addr) (c : Nat), i ≤ pt.length ∧ v6 = .int .i64 i ∧ v5 = .slice A n c ∧ (pathB (pt.take i)).length = n ∧ Acc w 5 1 wr A n c (bv (pathB (pt.take i))) ∧ Below (w.heap.size + 1) w1 wr ∧ ∀ j, sf A j → w.heap.size + 1 ≤ j) (fun _ v6 _ _ => pt.length - (intOf v6).toNat)
  case atStart => exact ⟨0, 0, _, 0, by omega, rfl, rfl, rfl, HA0.out, Below.refl _ _, fun j hj => by rw [sf_some] at hj; exact Nat.le_of_eq hj⟩
  case round =>
    obtain ⟨i, n, A, c, hi, rfl, rfl, hn, ha, hb, hlo⟩ := hrel
    have HLow := Lib.hid hlo
    have HA := Lib.hid ha
    have HB := Lib.hid hb
    have HNn := Lib.hid hn
    have y2 := (HZ.out wr hb).1
    have yl : w.heap.size < wr.heap.size := Nat.lt_of_lt_of_le HS1.out hb.size
    have hnb : n ≤ 400000 := by
      have h1 := pathB_len (pt.take i)
      have h2 := nsz_take pt i
      omega
    clear ha hb hlo hn
    by_cases hlt : i < pt.length
    · have hsz := nsz_at hlt
      obtain ⟨b, off, cs2, rfl, _, hbl, hrr, hc2⟩ := (HSp.out w (Below.refl _ _)).els.at_ keeps_seg hlt
      obtain ⟨A1, c1, rfl, hkw, hA1, hc1, hm1, hu1, hw1⟩ := seg_at hrr
      have HUs : Hid (∀ w', Below w.heap.size w w' → w'.cell? ⟨b, off + i * 2, none⟩ = some (.int .i64 pt[i].1) ∧ w'.cell? ⟨b, off + i * 2 + 1, none⟩ = some (.slice A1 pt[i].2.length c1) ∧ Sn w' G A1 c1 pt[i].2) := fun w' hb => ⟨(hb.cell (p := ⟨b, off + i * 2 + 0, none⟩) hbl).trans (hc2 0 _ rfl), (hb.cell (p := ⟨b, off + i * 2 + 1, none⟩) hbl).trans (hc2 1 _ rfl), ⟨hA1, hc1, hm1, Rg.bel hu1 hb⟩⟩
      have hi1 : (i : Int) < (pt.length : Int) := by omega
      have H32 := Lib.hid hw1
      have HSg : Hid (pathB (pt.take (i + 1)) = pathB (pt.take i) ++ ([octet.byteOf pt[i].1, octet.byteOf (pt[i].2.length : Int)] ++ n4s pt[i].2)) := by
        rw [Hid, List.take_succ_eq_append_getElem hlt, pathB_app]
        simp [pathB, segB]
      clear hrr hkw hA1 hc1 hm1 hu1 hw1 hc2
      generalize hsg : pt[i] = sg at *
      obtain ⟨kd, ns⟩ := sg
      dsimp only at *
      clear hsg
      generalize hnl : ns.length = nl at *
      have HNl := Lib.hid hnl
      clear hnl
      generalize hBs : pathB (pt.take i) = BS at *
      have HBd : Hid (Below (w.heap.size + 1) w1 wr.drew) := HB.out.drew
      have HAd : Hid (Acc w 5 1 wr.drew A n c (bv BS)) := HA.out.go (Below.refl _ _).drew
      have HSS : Hid (∀ w', Below w.heap.size w w' → Below (w.heap.size + 1) w1 w' → w'.cell? ⟨w.heap.size, 2, none⟩ = some (.slice (some ⟨b, off, none⟩) pt.length cp) ∧ w'.cell? ⟨b, off + i * 2, none⟩ = some (.int .i64 kd) ∧ w'.cell? ⟨b, off + i * 2 + 1, none⟩ = some (.slice A1 nl c1)) := fun w' h1 h2 => ⟨(HZ.out w' h2).1, (HUs.out w' h1).1, (HUs.out w' h1).2.1⟩
      have HS0 := Lib.hid (HSS.out wr HA.out.bel HB.out)
      have HSd := Lib.hid (HSS.out wr.drew HAd.out.bel HBd.out)
      have wu1 : IntKind.u8.wrap kd = kd % 256 := by rw [IntKind.wrap_u8]
      have wu2 : IntKind.u8.wrap (nl : Int) = (nl : Int) % 256 := by rw [IntKind.wrap_u8]
      have HBw : Hid (∀ w', Below wr.drew.heap.size wr.drew w' → Below (w.heap.size + 1) w1 w') := fun w' h => HBd.out.trans (h.mono yl)
      have HOa : Hid (foot.Own (wr.drew.alloc (.cells #[.int .u8 (kd % 256), .int .u8 ((nl : Int) % 256)] 5)) 5 1 A n c (bv BS)) := HAd.out.own.bel ((Below.refl _ _).alloc (Nat.le_refl _) _)
      have HRa := Lib.hid (Rg.new wr.drew 5 1 2 #[.int .u8 (kd % 256), .int .u8 ((nl : Int) % 256)] rfl)
      have HSa := Lib.hid (HSS.out (wr.drew.alloc (.cells #[.int .u8 (kd % 256), .int .u8 ((nl : Int) % 256)] 5)) (HAd.out.bel.alloc HAd.out.bel.size _) (HBw.out _ ((Below.refl _ _).alloc (Nat.le_refl _) _)))
      have HFa : Hid (∀ A2 c2 w2, foot.Own w2 5 1 A2 (n + 2) c2 (bv BS ++ [.int .u8 (kd % 256), .int .u8 ((nl : Int) % 256)]) → Chg (sf A) (wr.drew.alloc (.cells #[.int .u8 (kd % 256), .int .u8 ((nl : Int) % 256)] 5)) w2 → Fresh (wr.drew.alloc (.cells #[.int .u8 (kd % 256), .int .u8 ((nl : Int) % 256)] 5)) (sf A) (sf A2) → Acc w 5 1 w2 A2 (n + 2) c2 (bv (BS ++ [octet.byteOf kd, octet.byteOf (nl : Int)])) ∧ Below (w.heap.size + 1) w1 w2 ∧ ∀ j, sf A2 j → w.heap.size + 1 ≤ j) := fun A2 c2 w2 h1 h2 h3 => by
        have hb1 : Below wr.drew.heap.size wr.drew (wr.drew.alloc (.cells #[.int .u8 (kd % 256), .int .u8 ((nl : Int) % 256)] 5)) := (Below.refl _ _).alloc (Nat.le_refl _) _
        have hz : wr.drew.heap.size = wr.heap.size := rfl
        refine ⟨?_, (HBw.out _ hb1).trans (h2.below HLow.out (by have := hb1.size; omega)), fun j hj => (h3 j hj).elim (HLow.out j) fun e => by have := hb1.size; omega⟩
        rw [bv_app, show bv [octet.byteOf kd, octet.byteOf (nl : Int)] = [.int .u8 (kd % 256), .int .u8 ((nl : Int) % 256)] by simp [bv, byteOf_nat]]
        exact (HAd.out.go hb1).app h1 h2 h3
      go_wp2_with fail
      go_region_held3 (fun w' => w'.cell? ⟨w.heap.size, 2, none⟩ = some (.slice (some ⟨b, off, none⟩) pt.length cp) ∧ w'.cell? ⟨b, off + i * 2, none⟩ = some (.int .i64 kd) ∧ w'.cell? ⟨b, off + i * 2 + 1, none⟩ = some (.slice A1 nl c1)) (first | exact HS2.out | exact HSa.out | exact HSd.out | exact HS0.out) ((refine step_app _ (by rfl) (.tmp 27) (.tmp 43) _ (by rfl) 5 i0 _ 1 1 Tryz.underlying22 Hi.out Hz0.out Hz1.out Hz2.out rfl (by omega) A n c (bv BS) (by rfl) HOa.out _ (some ⟨wr.drew.heap.size, 0, none⟩) 2 2 (by intro h; cases h) [.int .u8 (kd % 256), .int .u8 ((nl : Int) % 256)] (by rfl) HRa.out (by intro u hu; simp at hu; rcases hu with rfl | rfl <;> rfl) (by unfold maxLen; omega) (by omega) ?_; intro A2 c2 w2 ho hc hf; go_must (have HA2 := Lib.hid (HFa.out A2 c2 w2 ho hc hf)); go_must (have HS2 := Lib.hid (HSS.out w2 HA2.out.1.bel HA2.out.2.1)); clear ho hc hf))
      go_wp2_with fail
      go_loopw [5, 7] (fun v5 v7 wr => ∃ (k m : Nat) (A : Option Addr) (c : Nat), k ≤ nl ∧ v7 = .int .i64 k ∧ v5 = .slice A m c ∧ m = n + 2 + 4 * k ∧ Acc w 5 1 wr A m c (bv (BS ++ [octet.byteOf kd, octet.byteOf (nl : Int)] ++ n4s (ns.take k))) ∧ Below (w.heap.size + 1) w1 wr ∧ ∀ j, sf A j → w.heap.size + 1 ≤ j) (fun _ v7 _ => nl - (intOf v7).toNat)
      case atStart => exact ⟨0, n + 2, A2, c2, by omega, rfl, rfl, by omega, by have h := HA2.out.1; simpa [n4s] using h, HA2.out.2.1, HA2.out.2.2⟩
      case round =>
        obtain ⟨k, m, A4, c4, hk, rfl, rfl, hm', ha, hb, hlo⟩ := hrel
        have HLow4 := Lib.hid hlo
        have HA4 := Lib.hid ha
        have HB4 := Lib.hid hb
        have HM4 := Lib.hid hm'
        obtain ⟨x2, x3, x4⟩ := HSS.out wr ha.bel hb
        have yl4 : w.heap.size < wr.heap.size := Nat.lt_of_lt_of_le HS1.out hb.size
        have hmb : m ≤ 900000 := by omega
        clear ha hb hlo hm'
        by_cases hkl : k < nl
        · obtain ⟨p1, o1, rfl, l1, z1⟩ := (HUs.out wr HA4.out.bel).2.2.at_ (show k < ns.length by have := HNl.out; omega)
          have hk1 : (k : Int) < (nl : Int) := by omega
          have hkn : k < ns.length := by have := HNl.out; omega
          have HNx : Hid (n4s (ns.take (k + 1)) = n4s (ns.take k) ++ be4 (ns[k] : Int)) := by
            rw [Hid, List.take_succ_eq_append_getElem hkn, n4s_app]
            simp [n4s]
          have hx : ns[k] < 4294967296 := H32.out _ (List.getElem_mem hkn)
          have HBx := Lib.hid (HBig.out ns[k] wr hx)
          have HL4 : Hid ((be4 (ns[k] : Int)).length = 4) := rfl
          have HV4 : Hid (be4 (ns[k] : Int) = be4 (ns[k] : Int)) := rfl
          generalize be4 (ns[k] : Int) = V at *
          generalize ns[k] = x at *
          go_wp2_with (first
            | (go_at_call 50; refine HBx.out.mono ?_; rintro e w5 ⟨A5, c5, rfl, h1, h2, h3⟩; have HB5 := Lib.hid (HB4.out.trans (h3.mono yl4)); have HA5 := Lib.hid (HA4.out.go h3); have HO5 := Lib.hid h1; have HS5 := Lib.hid h3.size; clear h1 h2 h3)
            | (at_builtin; refine wpList_app _ rfl (.tmp 56) (.tmp 67) _ rfl 5 i0 _ 1 1 Tryz.underlying22 Hi.out Hz0.out Hz1.out Hz2.out rfl (by omega) A4 m c4 _ rfl HA5.out.own _ A5 V.length c5 HO5.out.nil (bv V) rfl HO5.out.rg (bv_one _) (by unfold maxLen; have := HL4.out; omega) (by have := HL4.out; omega) ?_; intro A6 c6 w6 ho hc' hf; have HA6 := Lib.hid (HA5.out.app ho hc' hf); have HB6 := Lib.hid (HB5.out.trans (hc'.below HLow4.out (Nat.le_trans yl4 HS5.out))); have HLo6 : Hid (∀ j, sf A6 j → w.heap.size + 1 ≤ j) := (fun j hj => (hf j hj).elim (HLow4.out j) fun e => Nat.le_trans yl4 (Nat.le_trans HS5.out e)); clear ho hc' hf))
          go_roundw
          case rel => exact ⟨k + 1, m + V.length, A6, c6, by omega, by go_num, rfl, by have := HL4.out; have := HM4.out; omega, by have h := HA6.out; rw [← bv_app, List.append_assoc, ← HNx.out] at h; exact h, HB6.out, HLo6.out⟩
          case measure => simp [intOf]; omega
        · obtain rfl : k = nl := by omega
          have e1 : ns.take k = ns := List.take_of_length_le (by have := HNl.out; omega)
          rw [e1] at HA4
          have HFn : Hid (BS ++ [octet.byteOf kd, octet.byteOf (k : Int)] ++ n4s ns = pathB (pt.take (i + 1))) := by rw [Hid, HSg.out]; simp
          have HLn : Hid ((pathB (pt.take (i + 1))).length = m) := by
            rw [Hid, ← HFn.out, List.length_append, List.length_append, n4s_len, HNn.out, HM4.out, HNl.out]
            simp
          clear e1
          go_wp2_with fail
          go_roundw
          case rel => exact ⟨i + 1, m, A4, c4, by omega, by go_num, rfl, HLn.out, by rw [← HFn.out]; exact HA4.out, HB4.out, HLow4.out⟩
          case measure => simp [intOf]; omega
    · obtain rfl : i = pt.length := by omega
      rw [List.take_length] at HA HNn
      have HP := Lib.hid (HQ.out (pathB pt) n A c wr HVl.out HNn.out HA.out)
      go_wp2_with fail
      go_loopw [5, 8] (fun v5 v8 wq => v5 = .slice A n c ∧ v8 = .int .i64 0 ∧ wq = wr) (fun _ _ _ => 0)
      case atStart => exact ⟨rfl, rfl, rfl⟩
      case round =>
        obtain ⟨rfl, rfl, rfl⟩ := hrel
        go_wp2_with fail
        exact HP.out
end
theorem refValue_any (a : Atr) (Ap Ac : Option Addr) (cp cc : Nat) (G : Foot) (k : Nat) (h1 : 1 ≤ k) (h8 : k ≤ 8) (w : World) (hm : Am w G a Ap cp Ac cc) (hp : nsz a.path ≤ 100000) (hc : a.comms.length ≤ 100000) :
    Calls Tryz.prog 89 #[.agg (atc a Ap cp Ac cc).toArray, .int .i64 (k : Int)] w (RetB (valB a k) w) := by
  have h : k = 1 ∨ k = 2 ∨ k = 3 ∨ k = 4 ∨ k = 5 ∨ k = 6 ∨ k = 7 ∨ k = 8 := by omega
  rcases h with rfl | rfl | rfl | rfl | rfl | rfl | rfl | rfl
  · exact rval_1 w a Ap Ac cp cc G hm
  · exact rval_2 w a Ap Ac cp cc G hm hp
  · exact rval_3 w a Ap Ac cp cc G hm
  · exact rval_4 w a Ap Ac cp cc G hm
  · exact rval_5 w a Ap Ac cp cc G hm
  · exact rval_6 w a Ap Ac cp cc G hm
  · exact rval_7 w a Ap Ac cp cc G hm
  · exact rval_8 w a Ap Ac cp cc G hm hc
end Go.Proofs.YtaeeeinpelfppaaGreat.attr
