/- What confluenceref07's Size, Same, Good and Decode return. Conditions as each lemma states. -/
import Derived.Test.YtaeeeinpelfppaaGreatNlriDec
import Derived.Test.YtaeeeinpelfppaaGreatPfxRef0
import Derived.Test.YtaeeeinpelfppaaGreatOctRef
namespace Go.Proofs.YtaeeeinpelfppaaGreat.nlri
open Go.RowKit Go.Proofs.YtaeeeinpelfppaaGreat.kit Go.Proofs.YtaeeeinpelfppaaGreat.mem Go.Proofs.YtaeeeinpelfppaaGreat.octet Go.Proofs.YtaeeeinpelfppaaGreat.pfx
set_option linter.unusedVariables false

theorem refSize_any (a : Nat) (n : Int) (ha : a < 4294967296) (w : World) :
    Calls Tryz.prog 61 #[.agg #[.int .u32 a, .int .i64 n]] w fun e w' => e = .returned (.int .i64 (sizeP (a, n) : Int)) ∧ Below w.heap.size w w' := by
  have HG := fun w => Lib.hid (ref_Good a n ha w)
  have hal : Below w.heap.size w (w.alloc (.cells #[.int .u32 a, .int .i64 n] 66)) := (Below.refl _ _).alloc (Nat.le_refl _) _
  by_cases g : goodB a n = true
  · have e : Hid (sizeP (a, n) = 1 + bodyN n.toNat) := by simp [sizeP, g, Hid]
    rw [g] at HG
    obtain ⟨h0, h1, _⟩ := (goodB_iff a n).1 g
    obtain ⟨k, rfl⟩ := Int.eq_ofNat_of_zero_le h0
    rw [Int.toNat_natCast] at e
    have hk : k ≤ 32 := by omega
    clear g h0 h1
    go_enter Tryz.func61, Tryz.ntmps61
    go_wp2_with fail
    refine (HG _).out.mono ?_; rintro e w1 ⟨rfl, hb1⟩
    have q1 := (hb1.cell (p := ⟨w.heap.size, 1, none⟩) (by simp)).trans (show _ = some (.int .i64 (k : Int)) by go_simp)
    have HW := Lib.hid (hal.trans (hb1.mono (by simp)))
    have hlt : w.heap.size < w1.heap.size := by have := hb1.size; simp at this; omega
    clear hb1 hal
    go_wp2_with fail
    go_loop [3, 4] (fun n i => ∃ j : Nat, 8 * j < k + 8 ∧ i = .int .i64 (8 * j : Nat) ∧ n = .int .i64 (1 + j : Nat)) (fun _ i => 48 - (intOf i).toNat)
    case atStart => exact ⟨0, by omega, rfl, rfl⟩
    case round =>
      obtain ⟨j, hj, rfl, rfl⟩ := hrel
      by_cases hlt2 : 8 * j < k
      · have d1 : decide (((8 * j : Nat) : Int) < (k : Int)) = true := by simp; omega
        have hj2 : ((8 * j : Nat) : Int) ≤ 100 := by omega
        have hj3 : ((1 + j : Nat) : Int) ≤ 100 := by omega
        go_wp2_with fail
        go_round
        case rel => exact ⟨j + 1, by omega, by congr 1, by congr 1⟩
        case measure => simp [intOf]; omega
      · have d1 : decide (((8 * j : Nat) : Int) < (k : Int)) = false := by simp; omega
        have hb : Hid (sizeP (a, (k : Int)) = 1 + j) := by rw [Hid, e.out, bodyN]; omega
        go_wp2_with fail
        go_ret
        exact ⟨ret_int (by rw [hb.out]; omega), HW.out⟩
  · have g' : goodB a n = false := by simpa using g
    have e : sizeP (a, n) = 0 := by simp [sizeP, g']
    rw [e]
    rw [g'] at HG
    clear g e
    go_enter Tryz.func61, Tryz.ntmps61
    go_wp2_with fail
    refine (HG _).out.mono ?_; rintro e w1 ⟨rfl, hb1⟩
    have HW := Lib.hid (hal.trans (hb1.mono (by simp)))
    clear hb1 hal
    go_wp2_with fail
    go_ret
    exact ⟨rfl, HW.out⟩

/-- four bytes, the first of them these -/
def fourL (t : List UInt8) (i : Nat) : List UInt8 := (t.take i ++ [0, 0, 0, 0]).take 4
theorem fourL_len (t : List UInt8) (i : Nat) : (fourL t i).length = 4 := by simp [fourL]
theorem fourL_zero (t : List UInt8) : fourL t 0 = [0, 0, 0, 0] := by simp [fourL]
theorem fourL_step (t : List UInt8) (i : Nat) (h : i < t.length) (h4 : i < 4) : fourL t (i + 1) = (fourL t i).set i t[i] := by
  have hl : (t.take i).length = i := by rw [List.length_take]; omega
  unfold fourL
  rw [← List.take_set, List.take_succ_eq_append_getElem h, List.set_append_right (s := t.take i) (t := [0, 0, 0, 0]) i t[i] (by omega), hl, Nat.sub_self]
  simp only [List.set_cons_zero]
  rw [show t.take i ++ [t[i]] ++ [0, 0, 0, 0] = (t.take i ++ t[i] :: [0, 0, 0]) ++ [0] from by rw [List.append_assoc, List.append_assoc]; rfl, List.take_append_of_le_length (by simp)]
theorem num_fourL (t : List UInt8) (b : Nat) : num (fourL t b) = addr4 (t.take b) := rfl
theorem bs_of_bk {w : World} {g : Nat} {x : List UInt8} {cs : Array Value} (h : Bk w g 5 cs) (hc : cs = (bv x).toArray) : Bs w (g + 1) (some ⟨g, 0, none⟩) x := by
  subst hc
  refine ⟨by rw [bv_len, Nat.mul_one], fun _ => ⟨g, 0, rfl, by omega, fun j u hu => ?_⟩⟩
  rw [Nat.zero_add, h.cell j]
  simpa using hu

theorem bs_cell {w : World} {B b off : Nat} {l : List UInt8} {i : Nat} {x : UInt8} (h : Bs w B (some ⟨b, off, none⟩) l) (hx : l[i]? = some x) : w.cell? ⟨b, off + i, none⟩ = some (.int .u8 (x.toNat : Int)) := by
  obtain ⟨hi, hx⟩ := List.getElem?_eq_some_iff.1 hx
  obtain ⟨b', off', e, _, hc⟩ := h.at_ hi
  injection e with e
  injection e with e1 e2
  subst e1 e2
  rw [hc, hx]

/-- what ref's Decode hands back -/
def RefDec (l : List UInt8) (w : World) (e : Ending) (w' : World) : Prop :=
  match dec l with
  | some ps => ∃ A c, e = .returned (.tuple #[.slice A ps.length c, .bool true]) ∧ NewSl 2 ps.length (pv ps) w A c w'
  | none => e = .returned (.tuple #[.slice none 0 0, .bool false]) ∧ Below w.heap.size w w'

/-- what holds at the loop's head -/
structure RefJ (l : List UInt8) (w : World) (k : Nat) (out : List (Nat × Int)) (A : Option Addr) (c : Nat) (wr : World) : Prop where
  own : wr.ownsRow w.heap.size 66 2 (.slice A out.length c) out.length (pv out)
  dec : dec l = (dec (l.drop k)).map (out ++ ·)
  bel : Below w.heap.size w wr
  len : out.length ≤ k

set_option maxRecDepth 100000 in
set_option maxHeartbeats 4000000 in
theorem refDecode_any (A : Option Addr) (c B : Nat) (l : List UInt8) (w : World) (hl : l.length ≤ 274877906944) (hB : B ≤ w.heap.size) (hr : Bs w B A l) :
    Calls Tryz.prog 30 #[.slice A l.length c] w (RefDec l w) := by
  obtain ⟨i0, hi, hz0, hz1, hz2⟩ := info_parts info_pre3
  have Hi := Lib.hid hi
  have Hz0 := Lib.hid hz0
  have Hz1 := Lib.hid hz1
  have Hz2 := Lib.hid hz2
  have HS := Lib.hid hr
  have HJ0 : Hid (RefJ l w 0 [] (some ⟨w.heap.size, 0, none⟩) 0 (w.alloc (.cells #[] 66))) := ⟨own_empty2 _ _ _ _ (Nat.le_refl _), by simp, (Below.refl _ _).alloc (Nat.le_refl _) _, by simp⟩
  clear hr hi hz0 hz1 hz2
  go_enter Tryz.func30, Tryz.ntmps30
  go_wp2_with fail
  go_loopw [4, 5, 6, 7, 8, 9] (fun o i _ _ _ _ wr => ∃ (k : Nat) (out : List (Nat × Int)) (A1 : Option Addr) (c1 : Nat), k ≤ l.length ∧ i = .int .i64 k ∧ o = .slice A1 out.length c1 ∧ RefJ l w k out A1 c1 wr) (fun _ i _ _ _ _ _ => l.length - (intOf i).toNat)
  case atStart => exact ⟨0, [], _, 0, by omega, rfl, rfl, HJ0.out⟩
  case round =>
    obtain ⟨k, out, A1, c1, hk, rfl, rfl, hJ⟩ := hrel
    have HJ := Lib.hid hJ
    clear hJ HJ0
    by_cases hlt : k < l.length
    · obtain ⟨b, off, rfl, hb, hc⟩ := Bs.at_ (HS.out.below (HJ.out.bel.mono hB) (Nat.le_refl _)) hlt
      have hd := List.drop_eq_getElem_cons hlt
      generalize hcv : l[k] = cv at *
      have hcl := cv.toNat_lt
      obtain ⟨t, ht⟩ : ∃ t, l.drop (k + 1) = t := ⟨_, rfl⟩
      have htl : t.length = l.length - (k + 1) := by rw [← ht]; simp
      rw [ht] at hd
      have HD : Hid (l.drop k = cv :: t) := hd
      have HT : Hid (l.drop (k + 1) = t) := ht
      have HZ := fun w => Lib.hid (refSize_any 0 (cv.toNat : Int) (by omega) w)
      have hki : (k : Int) < (l.length : Int) := by omega
      clear hd ht hcv
      generalize hn : cv.toNat = n at *
      have Hn := Lib.hid hn
      clear hn
      by_cases h32 : n ≤ 32
      · have hg : goodB 0 (n : Int) = true := by rw [goodB_iff]; exact ⟨by omega, by omega, by simp⟩
        have hs : sizeP (0, (n : Int)) = 1 + bodyN n := by simp [sizeP, hg]
        rw [hs] at HZ
        have hb4 := bodyN_le n h32
        have d1 : decide ((32 : Int) < (n : Int)) = false := by simp; omega
        by_cases hlen : k + (1 + bodyN n) ≤ l.length
        · have d2 : decide ((l.length : Int) < (k : Int) + (1 + (bodyN n : Int))) = false := by simp; omega
          rw [show ((1 + bodyN n : Nat) : Int) = 1 + (bodyN n : Int) from by omega] at HZ
          have HD1 : Hid (dec (l.drop k) = (dec (l.drop (k + 1 + bodyN n))).map ((cutv (addr4 (t.take (bodyN n))) n, (n : Int)) :: ·)) := by
            rw [Hid, HD.out]
            have h1 : dec1 (cv :: t) = some ((cutv (addr4 (t.take (bodyN n))) n, (n : Int)), t.drop (bodyN n)) := by
              simp only [dec1]; rw [Hn.out, if_pos ⟨h32, by omega⟩]
            rw [dec_ok h1, ← HT.out, List.drop_drop]
          have hmt : bodyN n ≤ t.length := by omega
          have hkm : k + 1 + bodyN n ≤ l.length := by omega
          clear hs hg
          generalize bodyN n = m at *
          go_wp2_with (go_at_call 61; refine (HZ _).out.mono ?_; rintro e w2 ⟨rfl, hb2⟩; have HB2 := Lib.hid hb2; clear hb2)
          obtain ⟨wo, rfl⟩ : ∃ wo : World, wo = w2 := ⟨_, rfl⟩
          have hm4 : m ≤ 4 := hb4
          go_loopw [9] (fun i wi => ∃ j : Nat, j ≤ m ∧ i = .int .i64 j ∧ Bk wi wo.heap.size 5 (bv (fourL t j)).toArray ∧ Below wo.heap.size wo wi) (fun i _ => m - (intOf i).toNat)
          case atStart => exact ⟨0, by omega, rfl, by rw [fourL_zero]; exact Bk.new wo _ _, (Below.refl _ _).alloc (Nat.le_refl _) _⟩
          case round =>
            obtain ⟨j, hj, rfl, hbk, hbi⟩ := hrel
            obtain ⟨wi, rfl⟩ : ∃ wi : World, wi = wr := ⟨_, rfl⟩
            have HBK := Lib.hid hbk
            have HBI := Lib.hid hbi
            have hwl := hbk.lt
            clear hbk hbi
            by_cases hjm : j < m
            · obtain ⟨x, hx⟩ : ∃ x, t[j]? = some x := ⟨t[j], List.getElem?_eq_getElem (by omega)⟩
              have hxl : l[k + 1 + j]? = some x := by rw [← hx, ← HT.out, List.getElem?_drop]
              have hcj := bs_cell (HS.out.below ((HJ.out.bel.trans ((HB2.out.trans (HBI.out.mono HB2.out.size)).mono HJ.out.bel.size)).mono hB) (Nat.le_refl _)) hxl
              have hst : (fourL t (j + 1)) = (fourL t j).set j x := by
                rw [fourL_step t j (by omega) (by omega)]
                congr 1
                rw [List.getElem?_eq_getElem (by omega)] at hx
                injection hx
              have HNX : Hid (Bk (wi.setCell ⟨wo.heap.size, j, none⟩ (.int .u8 (x.toNat : Int))) wo.heap.size 5 (bv (fourL t (j + 1))).toArray) := by
                have h := HBK.out.put j (.int .u8 (x.toNat : Int))
                rw [hst]
                simpa [Hid, bv, List.map_set] using h
              have h4 := fourL_len t j
              have q0 := (HBK.out.cell j).trans (show _ = some (.int .u8 (((fourL t j)[j]'(by omega)).toNat : Int)) by have := bv_at (fourL t j) j (by omega); simpa using this)
              have q1 := HBK.out.free j
              generalize (((fourL t j)[j]'(by omega)).toNat : Int) = y at q0
              have hji : (j : Int) < 4 := by omega
              have hkj : (k : Int) + 1 + (j : Int) < (l.length : Int) := by omega
              clear h4 hst hxl hx
              go_wp2_with fail
              go_roundw
              case rel => exact ⟨j + 1, by omega, by go_num, HNX.out, HBI.out.setCell (p := ⟨wo.heap.size, j, none⟩) (Nat.le_refl _) _⟩
              case measure => simp [intOf]; omega
            · obtain rfl : j = m := by omega
              have hnum := Num_any (some ⟨wo.heap.size, 0, none⟩) 4 (wo.heap.size + 1) (fourL t j) wi (by rw [fourL_len]; omega) (bs_of_bk HBK.out rfl)
              rw [fourL_len, num_fourL] at hnum
              have HNum := Lib.hid hnum
              have hal := addr4_lt (t.take j)
              have HCut := Lib.hid (ref_Cut (addr4 (t.take j)) n hal h32 wi)
              have d3 : decide ((j : Int) + 1 < 1 + (j : Int)) = false := by simp; omega
              have HI4 : Hid (Below wr.heap.size wr wi) := HB2.out.trans (HBI.out.mono HB2.out.size)
              have hzw : wr.heap.size ≤ wi.heap.size := HI4.out.size
              generalize addr4 (t.take j) = ad at *
              generalize hca : cutv ad n = ca at *
              have Hca := Lib.hid hca
              have hown4 := own_below (own_below HJ.out.own HI4.out) ((Below.refl wi.heap.size wi).alloc (Nat.le_refl _) (.cells #[.int .u32 (ca : Int), .int .i64 n] 66))
              have HO4 := Lib.hid hown4
              have HS4 : Hid (Rd (wi.alloc (.cells #[.int .u32 (ca : Int), .int .i64 n] 66)) (wi.heap.size + 1) 2 (some ⟨wi.heap.size, 0, none⟩) 1 (pv [(ca, (n : Int))])) := by
                have := rd_new wi 66 2 1 #[.int .u32 (ca : Int), .int .i64 n] rfl
                simpa [pv, Hid] using this
              have HLO : Hid (out.length + 1 ≤ 274877906944) := by have h1 := HJ.out.len; rw [Hid]; omega
              have HM : Hid (out.length + 1 ≤ maxLen) := by have := HLO.out; rw [Hid]; unfold maxLen; omega
              have HN2 : Hid ((out.length + 1) * 16 ≤ 140737488355328) := by have := HLO.out; rw [Hid]; omega
              have hwz : w.heap.size ≤ wi.heap.size := Nat.le_trans HJ.out.bel.size hzw
              clear hnum hca hown4
              go_wp2_with (first
                | (go_at_call 29; refine (HNum.out).mono ?_; rintro e w' ⟨rfl, rfl⟩)
                | (go_at_call 62; refine (HCut.out).mono ?_; rintro e w' ⟨rfl, rfl⟩)
                | (at_builtin; refine wpList_append_sl rfl (.tmp 50) (.tmp 57) _ rfl w.heap.size 66 i0 _ 2 16 Tryz.underlying24 Hi.out Hz0.out Hz1.out Hz2.out rfl (by omega) (.slice A1 out.length c1) out.length (pv out) rfl HO4.out (wi.heap.size + 1) (some ⟨wi.heap.size, 0, none⟩) 1 1 (by intro h; cases h) (pv [(ca, (n : Int))]) rfl HS4.out (pv_one _) HM.out HN2.out (by simp; omega) ?_; intro A2 c2 w5 hown5 hg5 hat5; have Hown5 := Lib.hid hown5; have Hg5 := Lib.hid hg5; clear hown5 hg5 hat5))
              go_roundw
              case rel =>
                have ho5 := Hown5.out
                rw [← pv_app] at ho5
                have e1 : out.length + 1 = (out ++ [(ca, (n : Int))]).length := by simp
                rw [e1] at ho5
                refine ⟨k + 1 + j, out ++ [(ca, (n : Int))], A2, c2, by omega, by congr 1; omega, by rw [e1], ho5, ?_, ?_, ?_⟩
                · rw [HJ.out.dec, HD1.out, Option.map_map]
                  congr 1
                  funext y
                  simp
                · have hb5 : Below w.heap.size (wi.alloc (.cells #[.int .u32 (ca : Int), .int .i64 n] 66)) w5 := below_grown Hg5.out (by simp; omega) (fun g hg => (HO4.out.lt g hg).1)
                  exact ((HJ.out.bel.trans (HI4.out.mono HJ.out.bel.size)).alloc hwz _).trans hb5
                · have := HJ.out.len
                  simp
                  omega
              case measure => simp [intOf]; omega
        · have d2 : decide ((l.length : Int) < (k : Int) + ((1 + bodyN n : Nat) : Int)) = true := by simp; omega
          have HE : Hid (dec l = none) := by
            rw [Hid, HJ.out.dec, HD.out, dec_bad (by simp) (by simp only [dec1]; rw [Hn.out, if_neg (by rintro ⟨_, h⟩; omega)])]
            rfl
          have hbd : ((1 + bodyN n : Nat) : Int) ≤ 5 := by omega
          generalize (1 + bodyN n : Nat) = s at *
          go_wp2_with (go_at_call 61; refine (HZ _).out.mono ?_; rintro e w2 ⟨rfl, hb2⟩; have HB2 := Lib.hid (HJ.out.bel.trans (hb2.mono HJ.out.bel.size)); clear hb2)
          go_ret2
          unfold RefDec
          rw [HE.out]
          exact ⟨rfl, HB2.out⟩
      · have HE : Hid (dec l = none) := by
          rw [Hid, HJ.out.dec, HD.out, dec_bad (by simp) (by simp only [dec1]; rw [Hn.out, if_neg (by omega)])]
          rfl
        have d1 : decide ((32 : Int) < (n : Int)) = true := by simp; omega
        generalize sizeP (0, (n : Int)) = s at *
        go_wp2_with (go_at_call 61; refine (HZ _).out.mono ?_; rintro e w2 ⟨rfl, hb2⟩; have HB2 := Lib.hid (HJ.out.bel.trans (hb2.mono HJ.out.bel.size)); clear hb2)
        go_ret2
        unfold RefDec
        rw [HE.out]
        exact ⟨rfl, HB2.out⟩
    · obtain rfl : k = l.length := by omega
      have HE : Hid (dec l = some out) := by rw [Hid, HJ.out.dec, List.drop_length, dec_nil]; simp
      have d0 : decide ((l.length : Int) < (l.length : Int)) = false := by simp
      go_wp2_with fail
      go_ret2
      unfold RefDec
      rw [HE.out]
      exact ⟨A1, c1, rfl, NewSl.of_own HJ.out.own HJ.out.bel⟩
end Go.Proofs.YtaeeeinpelfppaaGreat.nlri
