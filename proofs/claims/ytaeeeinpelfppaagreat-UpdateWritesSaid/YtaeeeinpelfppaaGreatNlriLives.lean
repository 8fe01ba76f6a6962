/- What nlri.Encode, confluenceref07's Good and confluencelaw07.lives return. Conditions as each lemma states. confluencelaw07.lives is true; what confluencelaw07.Few returns. Conditions as each lemma states. -/
import Derived.Test.YtaeeeinpelfppaaGreatNlriRef
import Derived.Test.YtaeeeinpelfppaaGreatOctLives
import Derived.Test.YtaeeeinpelfppaaGreatSlice
import Derived.Deep.DeepCutAuto
import Derived.Deep.RegionHeld3
import Derived.Test.YtaeeeinpelfppaaGreatStr
namespace Go.Proofs.YtaeeeinpelfppaaGreat.nlri
open Go.RowKit Go.Proofs.YtaeeeinpelfppaaGreat.kit Go.Proofs.YtaeeeinpelfppaaGreat.mem Go.Proofs.YtaeeeinpelfppaaGreat.octet Go.Proofs.YtaeeeinpelfppaaGreat.pfx
set_option linter.unusedVariables false

/-- all prefixes are good -/
def goodL (l : List (Nat × Int)) : Bool := l.all fun p => goodB p.1 p.2
theorem goodL_iff (l : List (Nat × Int)) : goodL l = true ↔ ∀ p ∈ l, goodB p.1 p.2 = true := by simp [goodL]
theorem goodL_no (l : List (Nat × Int)) (k : Nat) (h : k < l.length) (hg : goodB l[k].1 l[k].2 = false) : goodL l = false := by
  rw [Bool.eq_false_iff, Ne, goodL_iff]
  intro h2
  have := h2 l[k] (List.getElem_mem h)
  rw [hg] at this
  cases this

theorem Good_any (A : Option Addr) (c B : Nat) (l : List (Nat × Int)) (w : World) (hl : l.length ≤ maxLen) (hB : B ≤ w.heap.size) (h : Ps w B A l) (hw : ∀ q ∈ l, q.1 < 4294967296) :
    Calls Tryz.prog 44 #[.slice A l.length c] w fun e w' => e = .returned (.bool (goodL l)) ∧ Below w.heap.size w w' := by
  have H := Lib.hid h
  have Hw := Lib.hid hw
  clear h hw
  unfold maxLen at hl
  go_enter Tryz.func44, Tryz.ntmps44
  go_wp2_with fail
  go_loopw [3] (fun i wr => ∃ k : Nat, k ≤ l.length ∧ i = .int .i64 k ∧ Below w.heap.size w wr ∧ ∀ p ∈ l.take k, goodB p.1 p.2 = true) (fun i _ => l.length - (intOf i).toNat)
  case atStart => exact ⟨0, by omega, rfl, Below.refl _ _, by simp⟩
  case round =>
    obtain ⟨k, hk, rfl, hb, hg⟩ := hrel
    have HB := Lib.hid hb
    have Hg := Lib.hid hg
    clear hb hg
    by_cases hlt : k < l.length
    · obtain ⟨b, off, rfl, hbl, c0, c1⟩ := Ps.at_ (Rd.below H.out (HB.out.mono hB) (Nat.le_refl _)) hlt
      have hki : (k : Int) < (l.length : Int) := by omega
      have HG := Lib.hid (ref_Good l[k].1 l[k].2 (Hw.out _ (List.getElem_mem hlt)) wr)
      have Hno := Lib.hid (goodL_no l k hlt)
      have Hyes : Hid (goodB l[k].1 l[k].2 = true → ∀ p ∈ l.take (k + 1), goodB p.1 p.2 = true) := by
        intro h p hp
        rw [List.take_succ_eq_append_getElem hlt, List.mem_append] at hp
        rcases hp with hp | hp
        · exact Hg.out p hp
        · simp at hp; subst hp; exact h
      generalize l[k] = p at *
      rcases hgb : goodB p.1 p.2 with _ | _
      · rw [hgb] at HG
        have HE := Lib.hid (Hno.out hgb)
        clear hgb Hno Hyes
        go_wp2_with (go_at_call 85; refine (HG.out).mono ?_; rintro e w2 ⟨rfl, hb2⟩; have HB2 := Lib.hid (HB.out.trans (hb2.mono HB.out.size)); clear hb2)
        go_ret
        exact ⟨ret_bool HE.out.symm, HB2.out⟩
      · rw [hgb] at HG
        have HE := Lib.hid (Hyes.out hgb)
        clear hgb Hno Hyes
        go_wp2_with (go_at_call 85; refine (HG.out).mono ?_; rintro e w2 ⟨rfl, hb2⟩; have HB2 := Lib.hid (HB.out.trans (hb2.mono HB.out.size)); clear hb2)
        go_roundw
        case rel => exact ⟨k + 1, by omega, by go_num, HB2.out, HE.out⟩
        case measure => simp [intOf]; omega
    · obtain rfl : k = l.length := by omega
      have HE : Hid (goodL l = true) := by
        rw [Hid, goodL_iff]
        have := Hg.out
        rw [List.take_length] at this
        exact this
      go_wp2_with fail
      go_ret
      exact ⟨ret_bool HE.out.symm, HB.out⟩

theorem ret_new {l : List UInt8} {w w' : World} {e : Ending} (h : RetBytes l w e w') : ∃ A c, e = .returned (.slice A l.length c) ∧ NewSl 1 l.length (bv l) w A c w' := by
  obtain ⟨A, c, h1, h2, h3, h4, h5, h6, h7⟩ := h
  exact ⟨A, c, h1, h2, h3, h4, h5, h6, h7⟩

/-- what Encode hands back -/
def EncPost (l : List (Nat × Int)) (w : World) (e : Ending) (w' : World) : Prop :=
  if goodL l = true then ∃ A c, e = .returned (.tuple #[.slice A (enc l).length c, .int .i64 0]) ∧ NewSl 1 (enc l).length (bv (enc l)) w A c w'
  else e = .returned (.tuple #[.slice none 0 0, .int .i64 1]) ∧ Below w.heap.size w w'

set_option maxRecDepth 100000 in
set_option maxHeartbeats 2000000 in
theorem Encode_any (A : Option Addr) (c B : Nat) (l : List (Nat × Int)) (w : World) (hl : l.length ≤ 1099511627) (hB : B ≤ w.heap.size) (h : Ps w B A l) (hw : ∀ q ∈ l, q.1 < 4294967296) :
    Calls Tryz.prog 39 #[.slice A l.length c] w (EncPost l w) := by
  have H := Lib.hid h
  have Hw := Lib.hid hw
  have HW0 := Lib.hid (wtr_new w)
  clear h hw
  go_enter Tryz.func39, Tryz.ntmps39
  go_wp2_with fail
  go_loopw [6, 7, 12] (fun _ _ i wr => ∃ k : Nat, k ≤ l.length ∧ i = .int .i64 k ∧ Below w.heap.size w wr ∧ Wtr wr w.heap.size w.heap.size (enc (l.take k)) ∧ ∀ p ∈ l.take k, goodB p.1 p.2 = true) (fun _ _ i _ => l.length - (intOf i).toNat)
  case atStart => exact ⟨0, by omega, rfl, (Below.refl _ _).alloc (Nat.le_refl _) _, HW0.out, by simp⟩
  case round =>
    obtain ⟨k, hk, rfl, hb, hwt, hg⟩ := hrel
    have HB := Lib.hid hb
    have Hg := Lib.hid hg
    have HWt := Lib.hid hwt
    clear hb hg hwt HW0
    by_cases hlt : k < l.length
    · obtain ⟨b, off, rfl, hbl, c0, c1⟩ := Ps.at_ (Rd.below H.out (HB.out.mono hB) (Nat.le_refl _)) hlt
      have hki : (k : Int) < (l.length : Int) := by omega
      have hpw := Hw.out _ (List.getElem_mem hlt)
      have hal : Below wr.heap.size wr (wr.alloc (.cells #[.int .u32 (l[k].1 : Int), .int .i64 l[k].2] 66)) := (Below.refl _ _).alloc (Nat.le_refl _) _
      have HAL := Lib.hid hal
      have HG := Lib.hid (good_any l[k].1 l[k].2 hpw (wr.alloc (.cells #[.int .u32 (l[k].1 : Int), .int .i64 l[k].2] 66)))
      have Hno := Lib.hid (goodL_no l k hlt)
      have Hyes : Hid (goodB l[k].1 l[k].2 = true → (∀ p ∈ l.take (k + 1), goodB p.1 p.2 = true) ∧ enc (l.take (k + 1)) = enc (l.take k) ++ encP l[k]) := by
        intro h
        rw [List.take_succ_eq_append_getElem hlt, enc_app]
        refine ⟨fun p hp => ?_, by simp [enc]⟩
        rw [List.mem_append] at hp
        rcases hp with hp | hp
        · exact Hg.out p hp
        · simp at hp; subst hp; exact h
      have HEL : Hid ((enc (l.take k)).length ≤ 5 * k) := by have := enc_le (l.take k); rw [List.length_take] at this; rw [Hid]; omega
      generalize enc (l.take k) = pre at *
      generalize l[k] = p at *
      obtain ⟨a, n⟩ := p
      simp only at hpw c0 c1 hal HG Hno Hyes HAL
      rcases hgb : goodB a n with _ | _
      · rw [hgb] at HG
        have HE := Lib.hid (Hno.out hgb)
        clear hgb Hno Hyes hal
        go_wp2_with (go_at_call 77; refine (HG.out).mono ?_; rintro e w2 ⟨rfl, hb2⟩; have HB2 := Lib.hid ((HB.out.trans (HAL.out.mono HB.out.size)).trans (hb2.mono (Nat.le_trans HB.out.size HAL.out.size))); clear hb2)
        go_ret2
        unfold EncPost
        rw [if_neg (by rw [HE.out]; simp)]
        exact ⟨rfl, HB2.out⟩
      · rw [hgb] at HG
        have HE := Lib.hid (Hyes.out hgb)
        obtain ⟨g0, g1, _⟩ := (goodB_iff a n).1 hgb
        obtain ⟨m, rfl⟩ := Int.eq_ofNat_of_zero_le g0
        have hm : m ≤ 32 := by omega
        have hb4 := bodyN_le m hm
        have HBo := fun w => Lib.hid (body_any m (by omega) w)
        have hb8 : (be4 (a : Int)).length = 4 := rfl
        have HsB : Hid (Bs wr wr.heap.size none []) := Rd.nil _ _ _ _
        clear hgb Hno Hyes g0 g1
        go_wp2_with fail
        refine HG.out.mono ?_; rintro e w2 ⟨rfl, hb2⟩
        have q0 := (hb2.cell (p := ⟨wr.heap.size, 0, none⟩) (by simp)).trans (show _ = some (.int .u32 (a : Int)) by go_simp)
        have q1 := (hb2.cell (p := ⟨wr.heap.size, 1, none⟩) (by simp)).trans (show _ = some (.int .i64 (m : Int)) by go_simp)
        have h2 := hal.trans (hb2.mono (by simp))
        have hlt2 : wr.heap.size < w2.heap.size := by have := hb2.size; simp at this; omega
        have H2 := Lib.hid h2
        have HU := Lib.hid (U32_any w2.heap.size w2.heap.size [] a (w2.alloc (.cells #[.slice none 0 0] 71)) (wtr_new w2) (by simp) (by omega) (by omega))
        have hwB : w.heap.size ≤ wr.heap.size := HB.out.size
        clear hb2 h2 hal HG
        go_wp2_with fail
        refine HU.out.mono ?_; rintro e w3 ⟨rfl, hw3, ho3⟩
        have h23 : Below w2.heap.size w2 w3 := ((Below.refl _ _).alloc (Nat.le_refl _) _).trans ((wtr_new w2).only ho3)
        have H3 := Lib.hid (H2.out.trans (h23.mono (Nat.le_of_lt hlt2)))
        have K3 := Lib.hid h23
        have HBy := Lib.hid (Bytes_any w2.heap.size w2.heap.size _ w3 hw3 (by simp))
        clear hw3 ho3 h23 HU
        go_wp2_with fail
        refine HBy.out.mono ?_; rintro e w4 ⟨⟨A4, c4, rfl, g2, g3, g4, g5, g6, g7⟩, _⟩
        have H4 := Lib.hid (H3.out.trans (g6.mono H3.out.size))
        have hcut := cut_lo A4 c4 4 (bodyN m) g2 g3 g4 hb4
        have HWt4 := Lib.hid (HWt.out.below H4.out)
        have HSepP := Lib.hid (HWt.out.sep (Nat.le_refl _) H4.out)
        have HSepA : Hid (∀ ad, A4 = some ad → Sep w4 w.heap.size ad.block) := fun ad h => HWt.out.sep (Nat.le_trans H3.out.size (g7 ad h)) H4.out
        have HA4 := Lib.hid g2
        have hBs : Bs w4 w4.heap.size A4 ((be4 (a : Int)).take (bodyN m)) := by
          have h5 : Bs w4 w4.heap.size A4 (be4 (a : Int)) := g5
          have := Rd.take h5 (k := bodyN m) (by rw [hb8]; exact hb4)
          rw [Nat.mul_one, ← bv_take] at this
          unfold Bs
          rw [List.length_take, hb8, Nat.min_eq_left hb4]
          exact this
        have HBs := Lib.hid hBs
        have hlen : ((be4 (a : Int)).take (bodyN m)).length = bodyN m := by rw [List.length_take, hb8, Nat.min_eq_left hb4]
        have HEp : Hid (encP (a, (m : Int)) = [octet.byteOf (m : Int)] ++ (be4 (a : Int)).take (bodyN m)) := rfl
        have HLn := Lib.hid hlen
        have k4 := K3.out.trans (g6.mono K3.out.size)
        have hlt4 : wr.heap.size < w4.heap.size := Nat.lt_of_lt_of_le hlt2 k4.size
        have r1 := (k4.cell (p := ⟨wr.heap.size, 1, none⟩) hlt2).trans q1
        clear k4 q0 q1
        clear g2 g3 g4 g5 g6 g7 HBy hBs hb8 hlen
        generalize (be4 (a : Int)).take (bodyN m) = news at *
        generalize bodyN m = mm at *
        go_wp2_with fail
        go_region_held3 (fun w' => w'.cell? ⟨wr.heap.size, 1, none⟩ = some (.int .i64 (m : Int))) (first | exact r1 | exact t1) (first
          | (go_at_call 79; refine (U8_any w.heap.size w.heap.size pre m _ (by exact HWt4.out) (by have := HEL.out; omega)).mono ?_; rintro e wz ⟨rfl, hz, oz'⟩; go_must (have oz : Only w4 wz w.heap.size := ⟨oz'.os, oz'.tape, oz'.output, oz'.size, oz'.block⟩); go_must (have t1 := (World.cell?_of_block (a := ⟨wr.heap.size, 1, none⟩) (oz.block wr.heap.size hlt4 HSepP.out).1).trans r1); go_must (have HBz := Lib.hid ((HBs.out.only oz (Nat.le_refl _) HSepA.out).more oz.size)); go_must (have H5 := Lib.hid ((H4.out.mono hwB).trans (HWt4.out.only oz))); go_must (have HSepQ := Lib.hid (oz.block wr.heap.size hlt4 HSepP.out).2); go_must (have hlt5 : wr.heap.size < wz.heap.size := Nat.lt_of_lt_of_le hlt4 oz.size); go_must (have HT := Lib.hid hz); clear hz oz oz')
          | (go_at_call 80; refine (HBo _).out.mono ?_; rintro e w' ⟨rfl, rfl⟩)
          | (go_at_call 42; have hput := Put_any w.heap.size w.heap.size _ news A4 c4 wz.heap.size _ HT.out (by have := HEL.out; have := HLn.out; simp; omega) HA4.out (Nat.le_refl _) HBz.out; rw [HLn.out] at hput; refine hput.mono ?_; rintro e wy ⟨rfl, hy, oy'⟩; go_must (have oy : Only wz wy w.heap.size := ⟨oy'.os, oy'.tape, oy'.output, oy'.size, oy'.block⟩); go_must (have t1 := (World.cell?_of_block (a := ⟨wr.heap.size, 1, none⟩) (oy.block wr.heap.size hlt5 HSepQ.out).1).trans t1); go_must (have H6 := Lib.hid (H5.out.trans (HT.out.only oy))); go_must (have HT2 := Lib.hid hy); clear hy oy oy' hput))
        all_goals
          go_wp2_with fail
          go_roundw
          case rel => exact ⟨k + 1, by omega, by go_num, HB.out.trans H6.out, by rw [HE.out.2, HEp.out, ← List.append_assoc]; exact HT2.out, HE.out.1⟩
          case measure => simp [intOf]; omega
    · obtain rfl : k = l.length := by omega
      have HE : Hid (goodL l = true) := by
        rw [Hid, goodL_iff]
        have := Hg.out
        rw [List.take_length] at this
        exact this
      rw [List.take_length] at HWt
      have HLn : Hid ((enc l).length ≤ 1099511627776) := by have := enc_le l; rw [Hid]; omega
      have HBy := Lib.hid (Bytes_any w.heap.size w.heap.size (enc l) wr HWt.out HLn.out)
      go_wp2_with fail
      refine HBy.out.mono ?_; rintro e w2 ⟨hret, _⟩
      obtain ⟨A2, c2, rfl, hn2⟩ := ret_new hret
      have HN2 := Lib.hid (hn2.wide HB.out)
      clear hret hn2
      go_wp2_with fail
      go_ret2
      unfold EncPost
      rw [if_pos HE.out]
      exact ⟨A2, c2, rfl, HN2.out⟩
end Go.Proofs.YtaeeeinpelfppaaGreat.nlri

namespace Go.Proofs.YtaeeeinpelfppaaGreat.nlri
open Go.RowKit Go.Proofs.YtaeeeinpelfppaaGreat.kit Go.Proofs.YtaeeeinpelfppaaGreat.mem Go.Proofs.YtaeeeinpelfppaaGreat.octet Go.Proofs.YtaeeeinpelfppaaGreat.pfx
set_option linter.unusedVariables false

end Go.Proofs.YtaeeeinpelfppaaGreat.nlri
