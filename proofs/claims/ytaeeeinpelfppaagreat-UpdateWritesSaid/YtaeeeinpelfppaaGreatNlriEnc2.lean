/- What confluenceref07.Encode and confluencelaw07.Few return. Conditions as each lemma states. -/
import Derived.Test.YtaeeeinpelfppaaGreatNlriLives
import Derived.Test.YtaeeeinpelfppaaGreatGround
import Derived.IntWalk
namespace Go.Proofs.YtaeeeinpelfppaaGreat.nlri
open Go.RowKit Go.Proofs.YtaeeeinpelfppaaGreat.kit Go.Proofs.YtaeeeinpelfppaaGreat.mem Go.Proofs.YtaeeeinpelfppaaGreat.octet Go.Proofs.YtaeeeinpelfppaaGreat.pfx
set_option linter.unusedVariables false

theorem bv_byte (m : Nat) (h : m ≤ 255) : bv [octet.byteOf (m : Int)] = [.int .u8 (m : Int)] := by
  simp only [bv, List.map_cons, List.map_nil]
  rw [byteOf_nat]
  congr 2
  omega

theorem take_bs {w : World} {a m : Nat} {A : Option Addr} (h : Bs w w.heap.size A (bigv a 4)) (hm : m ≤ 4) : Rd w w.heap.size 1 A m (bv ((be4 (a : Int)).take m)) := by
  rw [big_be4] at h
  have := Rd.take h (k := m) hm
  rw [Nat.mul_one, ← bv_take] at this
  exact this

set_option maxRecDepth 100000 in
set_option maxHeartbeats 1000000 in
theorem refEncode_any (A : Option Addr) (c B : Nat) (l : List (Nat × Int)) (w : World) (hl : l.length ≤ 109951162) (hB : B ≤ w.heap.size) (h : Ps w B A l) (hw : ∀ q ∈ l, q.1 < 4294967296) (hgood : goodL l = true) :
    Calls Tryz.prog 48 #[.slice A l.length c] w fun e w' => ∃ A' c', e = .returned (.slice A' (enc l).length c') ∧ NewSl 1 (enc l).length (bv (enc l)) w A' c' w' := by
  obtain ⟨i0, hi, hz0, hz1, hz2⟩ := info_parts info_u8
  have Hi := Lib.hid hi
  have Hz0 := Lib.hid hz0
  have Hz1 := Lib.hid hz1
  have Hz2 := Lib.hid hz2
  have H := Lib.hid h
  have Hw := Lib.hid hw
  have Hgood := Lib.hid ((goodL_iff l).1 hgood)
  clear h hw hgood hi hz0 hz1 hz2
  go_enter Tryz.func48, Tryz.ntmps48
  go_wp2_with fail
  go_loopw [3, 4] (fun o i wr => ∃ (k : Nat) (pre : List UInt8) (A3 : Option Addr) (c3 : Nat), k ≤ l.length ∧ i = .int .i64 k ∧ o = .slice A3 pre.length c3 ∧ pre = enc (l.take k) ∧ wr.ownsRow w.heap.size 5 1 (.slice A3 pre.length c3) pre.length (bv pre) ∧ Below w.heap.size w wr) (fun _ i _ => l.length - (intOf i).toNat)
  case atStart => exact ⟨0, [], some ⟨w.heap.size, 0, none⟩, 0, by omega, rfl, rfl, by simp [enc], own_empty2 _ _ _ _ (Nat.le_refl _), (Below.refl _ _).alloc (Nat.le_refl _) _⟩
  case round =>
    obtain ⟨k, pre, A3, c3, hk, rfl, rfl, hpre, hown, hb⟩ := hrel
    have HB := Lib.hid hb
    have HO := Lib.hid hown
    have HP := Lib.hid hpre
    have HEL : Hid (pre.length ≤ 5 * k) := by rw [Hid, hpre]; have := enc_le (l.take k); rw [List.length_take] at this; omega
    clear hb hown hpre
    by_cases hlt : k < l.length
    · obtain ⟨b, off, rfl, hbl, c0, c1⟩ := Ps.at_ (Rd.below H.out (HB.out.mono hB) (Nat.le_refl _)) hlt
      have hki : (k : Int) < (l.length : Int) := by omega
      have hpw := Hw.out _ (List.getElem_mem hlt)
      have hgp := Hgood.out _ (List.getElem_mem hlt)
      have HEn : Hid (enc (l.take (k + 1)) = pre ++ encP l[k]) := by
        rw [Hid, List.take_succ_eq_append_getElem hlt, enc_app, HP.out]; simp [enc]
      generalize l[k] = p at *
      obtain ⟨a, n⟩ := p
      simp only at hpw hgp c0 c1
      have HSz := fun w => Lib.hid (refSize_any a n hpw w)
      have hsz : sizeP (a, n) = 1 + bodyN n.toNat := by simp [sizeP, hgp]
      rw [hsz] at HSz
      obtain ⟨g0, g1, _⟩ := (goodB_iff a n).1 hgp
      obtain ⟨m, rfl⟩ := Int.eq_ofNat_of_zero_le g0
      rw [Int.toNat_natCast] at HSz
      rw [show ((1 + bodyN m : Nat) : Int) = 1 + (bodyN m : Int) from by omega] at HSz
      have hm : m ≤ 32 := by omega
      have hb4 := bodyN_le m hm
      have hbc : b < w.heap.size := by omega
      have hwm : IntKind.u8.wrap (m : Int) = m := by show (m : Int) % 256 = m; omega
      have HBig := fun w => Lib.hid (Big_any a 4 w (by omega) (by omega))
      have HEp : Hid (encP (a, (m : Int)) = [octet.byteOf (m : Int)] ++ (be4 (a : Int)).take (bodyN m)) := rfl
      have hal : Below wr.heap.size wr (wr.alloc (.cells #[.int .u8 (m : Int)] 5)) := (Below.refl _ _).alloc (Nat.le_refl _) _
      have HO1 := Lib.hid (own_below HO.out hal)
      have HS1 : Hid (Rd (wr.alloc (.cells #[.int .u8 (m : Int)] 5)) (wr.heap.size + 1) 1 (some ⟨wr.heap.size, 0, none⟩) 1 (bv [octet.byteOf (m : Int)])) := by
        rw [Hid, bv_byte m (by omega)]
        exact rd_new wr 5 1 1 #[.int .u8 (m : Int)] rfl
      have hwB : w.heap.size ≤ wr.heap.size := HB.out.size
      have K1 := Lib.hid (hal.mono hwB)
      clear hsz hgp g0 g1 hal
      generalize bodyN m = mm at *
      have hwa : IntKind.u64.wrap (a : Int) = a := by show (a : Int) % 18446744073709551616 = a; omega
      have hws : IntKind.i64.wrap (mm : Int) = mm := IntWalk.i64_in _ (by omega)
      have hws2 : IntKind.i64.wrap (1 + (mm : Int) - 1) = mm := by rw [show 1 + (mm : Int) - 1 = mm from by omega]; exact hws
      go_wp2_with fail
      go_region_held3 (fun w' => w'.cell? ⟨b, off + k * 2, none⟩ = some (.int .u32 (a : Int)) ∧ w'.cell? ⟨b, off + k * 2 + 1, none⟩ = some (.int .i64 (m : Int))) (first | exact ⟨c0, c1⟩ | exact ⟨(K1.out.cell (p := ⟨b, off + k * 2, none⟩) hbc).trans c0, (K1.out.cell (p := ⟨b, off + k * 2 + 1, none⟩) hbc).trans c1⟩) (first
        | (refine step_append_sl rfl (.tmp 12) (.tmp 19) _ rfl w.heap.size 5 i0 _ 1 1 Tryz.underlying22 Hi.out Hz0.out Hz1.out Hz2.out rfl (by omega) (.slice A3 pre.length c3) pre.length (bv pre) rfl (by exact HO1.out) (wr.heap.size + 1) (some ⟨wr.heap.size, 0, none⟩) 1 1 (by intro h; cases h) (bv [octet.byteOf (m : Int)]) rfl (by exact HS1.out) (bv_one _) (by have := HEL.out; unfold maxLen; omega) (by have := HEL.out; omega) (by simp; omega) ?_; intro R0 r0 wq ho hg hat; go_must (have K1 := Lib.hid (K1.out.drew.trans (below_grown hg (by simp; omega) (fun g e => (HO1.out.lt g e).1)))); have HO2 := Lib.hid ho; clear ho hg hat)
        | (go_at_call 50; refine (HBig _).out.mono ?_; rintro e wb ⟨A5, c5, rfl, d2, d3, d4, d5, d6, d7⟩; go_must (have K1 := Lib.hid (K1.out.trans (d6.mono (by have := K1.out.size; exact Nat.le_trans hwB this)))); go_must (have HO3 := Lib.hid (own_below HO2.out d6)); go_must (have HBs := Lib.hid (take_bs d5 hb4)); go_must (have HA5 := Lib.hid d2); go_must (have hcut := cut_lo A5 c5 4 mm d2 d3 d4 hb4); go_must (have hcut2 := cut_lo A5 c5 (bigv a 4).length mm d2 d3 d4 (by rw [bigv_len]; exact hb4)); clear d2 d3 d4 d5 d6 d7)
        | (go_at_call 61; refine (HSz _).out.mono ?_; rintro e wc ⟨rfl, hc⟩; go_must (have K1 := Lib.hid (K1.out.trans (hc.mono (by have := K1.out.size; exact Nat.le_trans hwB this)))); go_must (have HO4 := Lib.hid (own_below HO3.out hc)); go_must (have HBs2 := Lib.hid ((HBs.out.below hc (Nat.le_refl _)).more hc.size)); clear hc)
        | (refine step_append_sl rfl (.tmp 20) (.tmp 34) _ rfl w.heap.size 5 i0 _ 1 1 Tryz.underlying22 Hi.out Hz0.out Hz1.out Hz2.out rfl (by omega) (.slice R0 (pre.length + 1) r0) (pre.length + 1) (bv pre ++ bv [octet.byteOf (m : Int)]) rfl (by exact HO4.out) _ A5 mm c5 HA5.out (bv ((be4 (a : Int)).take mm)) rfl (by exact HBs2.out) (bv_one _) (by have := HEL.out; unfold maxLen; omega) (by have := HEL.out; omega) (by have := K1.out.size; exact Nat.le_trans hwB this) ?_; intro R1 r1 wf ho hg hat; go_must (have K1 := Lib.hid (K1.out.trans (below_grown hg (by have := K1.out.size; exact Nat.le_trans hwB this) (fun g e => (HO4.out.lt g e).1)))); have HO5 := Lib.hid ho; clear ho hg hat))
      go_wp2_with fail
      go_roundw
      case rel =>
        have hl4 : ((be4 (a : Int)).take mm).length = mm := by rw [List.length_take]; exact Nat.min_eq_left hb4
        have e1 : pre.length + 1 + mm = (pre ++ encP (a, (m : Int))).length := by rw [HEp.out]; simp only [List.length_append, List.length_cons, List.length_nil, hl4]; omega
        have ho := HO5.out
        rw [← bv_app, ← bv_app, List.append_assoc, ← HEp.out, e1] at ho
        exact ⟨k + 1, pre ++ encP (a, (m : Int)), R1, r1, by omega, by go_num, by rw [e1], HEn.out.symm, ho, HB.out.trans K1.out⟩
      case measure => simp [intOf]; omega
    · obtain rfl : k = l.length := by omega
      rw [List.take_length] at HP
      go_wp2_with fail
      go_ret
      refine ⟨A3, c3, (show Ending.returned (.slice A3 pre.length c3) = _ by rw [HP.out]), ?_⟩
      have := NewSl.of_own HO.out HB.out
      rw [HP.out] at this
      exact this

/-- prefixes cut, in memory of their own -/
theorem Few_any (A : Option Addr) (c B : Nat) (l : List (Nat × Int)) (most : Nat) (w : World) (hmost : most ≤ 1000) (hcap : l.length ≤ c) (hm : l.length ≤ maxLen) (hA : A = none → c = 0) (hB : B ≤ w.heap.size) (hs : Ps w B A l) :
    Calls Tryz.prog 35 #[.slice A l.length c, .int .i64 most] w fun e w' => ∃ A' c', e = .returned (.slice A' (l.take most).length c') ∧ NewSl 2 (l.take most).length (pv (l.take most)) w A' c' w' := by
  obtain ⟨i0, hi, hz0, hz1, hz2⟩ := info_parts info_pre3
  have Hi := Lib.hid hi
  have Hz0 := Lib.hid hz0
  have Hz1 := Lib.hid hz1
  have Hz2 := Lib.hid hz2
  have Hown := Lib.hid (own_empty2 w 66 w.heap.size 2 (Nat.le_refl _))
  clear hi hz0 hz1 hz2
  unfold maxLen at hm
  by_cases h : most < l.length
  · have hr := Rd.take hs (k := most) (by omega)
    rw [← pv_take] at hr
    have hne : A ≠ none := by
      rintro rfl
      obtain ⟨b, off, e, _⟩ := hs.2 (by omega)
      cases e
    have e1 : (l.take most).length = most := by simp; omega
    have HM : Hid (0 + most ≤ maxLen) := by show _ ≤ maxLen; unfold maxLen; omega
    have HN : Hid ((0 + most) * 16 ≤ 140737488355328) := by show _ ≤ _; omega
    have HR := Lib.hid (hr.alloc hB (.cells #[] 66))
    obtain ⟨ad, rfl⟩ : ∃ ad, A = some ad := by cases A with | none => exact absurd rfl hne | some ad => exact ⟨ad, rfl⟩
    clear hs hr hne hA
    go_enter Tryz.func35, Tryz.ntmps35
    go_wp2_with (at_builtin; refine wpList_append_sl rfl (.tmp 12) (.tmp 13) _ rfl w.heap.size 66 i0 _ 2 16 Tryz.underlying24 Hi.out Hz0.out Hz1.out Hz2.out rfl (by omega) (.slice (some ⟨w.heap.size, 0, none⟩) 0 0) 0 [] rfl Hown.out B (some ad) most c (by intro h; cases h) (pv (l.take most)) rfl HR.out (pv_one _) HM.out HN.out (by simp) ?_; intro A1 c1 w1 hown1 hg1 hat1; have Hown1 := Lib.hid hown1; have Hg1 := Lib.hid hg1; clear hown1 hg1 hat1)
    go_ret
    have hb : Below w.heap.size w w1 := ((Below.refl _ _).alloc (Nat.le_refl _) _).trans (below_grown Hg1.out (by simp) (by simp [Value.ownBlock]))
    have ho := Hown1.out
    rw [Nat.zero_add, List.nil_append] at ho
    refine ⟨A1, c1, by rw [e1]; simp, ?_⟩
    rw [e1]
    exact NewSl.of_own ho hb
  · have e1 : l.take most = l := List.take_of_length_le (by omega)
    rw [e1]
    have d1 : decide ((most : Int) < (l.length : Int)) = false := by simp; omega
    have HM : Hid (0 + l.length ≤ maxLen) := by show _ ≤ maxLen; unfold maxLen; omega
    have HN : Hid ((0 + l.length) * 16 ≤ 140737488355328) := by show _ ≤ _; omega
    have HR := Lib.hid (hs.alloc hB (.cells #[] 66))
    have HA := Lib.hid hA
    clear hs hA
    go_enter Tryz.func35, Tryz.ntmps35
    go_wp2_with (at_builtin; refine wpList_append_sl rfl (.tmp 12) (.tmp 13) _ rfl w.heap.size 66 i0 _ 2 16 Tryz.underlying24 Hi.out Hz0.out Hz1.out Hz2.out rfl (by omega) (.slice (some ⟨w.heap.size, 0, none⟩) 0 0) 0 [] rfl Hown.out B A l.length c HA.out (pv l) rfl HR.out (pv_one _) HM.out HN.out (by simp) ?_; intro A1 c1 w1 hown1 hg1 hat1; have Hown1 := Lib.hid hown1; have Hg1 := Lib.hid hg1; clear hown1 hg1 hat1)
    go_ret
    have hb : Below w.heap.size w w1 := ((Below.refl _ _).alloc (Nat.le_refl _) _).trans (below_grown Hg1.out (by simp) (by simp [Value.ownBlock]))
    have ho := Hown1.out
    rw [Nat.zero_add, List.nil_append] at ho
    exact ⟨A1, c1, by simp, NewSl.of_own ho hb⟩
end Go.Proofs.YtaeeeinpelfppaaGreat.nlri
