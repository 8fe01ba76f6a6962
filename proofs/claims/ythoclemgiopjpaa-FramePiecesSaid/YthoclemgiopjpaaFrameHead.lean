/- What the reference tells of a head. Condition: 19 bytes. -/
import Derived.Test.YthoclemgiopjpaaFrameRef
import Derived.Test.YthoclemgiopjpaaFrameCut
import Derived.Test.YthoclemgiopjpaaOctRef
namespace Go.Proofs.Ythoclemgiopjpaa.frame
open Go.RowKit Go.Proofs.Ythoclemgiopjpaa.kit Go.Proofs.Ythoclemgiopjpaa.mem Go.Proofs.Ythoclemgiopjpaa.foot Go.Proofs.Ythoclemgiopjpaa.octet
set_option linter.unusedVariables false
set_option linter.unusedSimpArgs false

theorem rg_bs {w : World} {G : Foot} {A : Option Addr} {l : List UInt8} (h : Rg w G 1 A l.length (bv l)) : Bs w w.heap.size A l := h.rd
theorem bs_of {w : World} {B n : Nat} {A : Option Addr} {l : List UInt8} (h : Rd w B 1 A n (bv l)) (hn : l.length = n) : Bs w B A l := by subst hn; exact h
/-- a part of bytes that are read -/
theorem rg_part {w : World} {G : Foot} {g off : Nat} {l : List UInt8} (h : Rg w G 1 (some ⟨g, off, none⟩) l.length (bv l)) (lo hi : Nat) (h1 : lo ≤ hi) (h2 : hi ≤ l.length) :
    Rg w G 1 (some ⟨g, off + lo, none⟩) (hi - lo) (bv ((l.drop lo).take (hi - lo))) := by
  have h3 := Rg.skip h (k := lo) (by omega)
  have h4 := Rg.take h3 (k := hi - lo) (by omega)
  have e : Addr.add ⟨g, off, none⟩ (lo * 1) = ⟨g, off + lo, none⟩ := by rw [Nat.mul_one, Addr.add_lit]
  rw [e] at h4
  rw [bv_take, bv_drop]
  simpa using h4

/-- what the reference tells of a head -/
def HeadP (g : Nat) (b : List UInt8) (w : World) (e : Ending) (w' : World) : Prop :=
  ∃ A c, e = .returned (.agg #[.int .i64 (hbad b).1, .int .i64 (hbad b).2.1, .slice A (hbad b).2.2.length c]) ∧ (A = none → c = 0) ∧ (hbad b).2.2.length ≤ c ∧ c ≤ maxLen ∧ Bs w' w.heap.size A (hbad b).2.2 ∧ (∀ ad, A = some ad → ad.block = g) ∧ Below w.heap.size w w'

theorem head_ret {g : Nat} {b : List UInt8} {w V : World} {t : Nt} {A : Option Addr} {c : Nat} (ht : hbad b = t) (hA : A = none → c = 0) (hc : t.2.2.length ≤ c) (hm : c ≤ maxLen) (hs : Bs V w.heap.size A t.2.2) (hb : Below w.heap.size w V) (hg : ∀ ad, A = some ad → ad.block = g) :
    HeadP g b w (.returned (.agg #[.int .i64 t.1, .int .i64 t.2.1, .slice A t.2.2.length c])) V := by
  subst ht
  exact ⟨A, c, rfl, hA, hc, hm, hs, hg, hb⟩

set_option maxRecDepth 100000 in
set_option maxHeartbeats 1000000 in
theorem Head_any (g off c : Nat) (b : List UInt8) (G : Foot) (w : World) (hb : b.length = 19) (hc : 19 ≤ c) (hm : c ≤ maxLen) (hr : Rg w G 1 (some ⟨g, off, none⟩) b.length (bv b)) :
    Calls Try.prog 45 #[.slice (some ⟨g, off, none⟩) 19 c] w (HeadP g b w) := by
  have HR := Lib.hid hr
  have hg : g < w.heap.size := by
    obtain ⟨ad, e, _, h⟩ := hr.lt (by omega)
    cases e; exact h
  have HK0 : Hid (Bk (w.alloc (.cells #[.int .i64 0, .int .i64 0, .slice none 0 0] 53)) w.heap.size 53 #[.int .i64 0, .int .i64 0, .slice none 0 0]) := Bk.new w _ _
  have hb0 : Below w.heap.size w (w.alloc (.cells #[.int .i64 0, .int .i64 0, .slice none 0 0] 53)) := (Below.refl _ _).alloc (Nat.le_refl _) _
  have HB0 := Lib.hid hb0
  have Hb := Lib.hid hb
  have hcell : ∀ (i : Nat) (v : UInt8), b[i]? = some v → w.cell? ⟨g, off + i, none⟩ = some (.int .u8 (v.toNat : Int)) := fun i v hv => by
    obtain ⟨b', off', e, _, _, h⟩ := hr.2 (by omega)
    cases e
    exact h i _ (by simp [bv, hv])
  have HC := Lib.hid hcell
  clear hr hcell hb0
  have hc' : (19 : Int) ≤ (c : Int) := by omega
  go_enter Try.func45, Try.ntmps45
  go_wp2_with fail
  go_loop [3] (fun i => ∃ k : Nat, k ≤ 16 ∧ i = .int .i64 k ∧ b.take k = List.replicate k 255) (fun i => 16 - (intOf i).toNat)
  case atStart => exact ⟨0, by omega, rfl, rfl⟩
  case round =>
    obtain ⟨k, hk, rfl, htk⟩ := hrel
    have HT := Lib.hid htk
    clear htk
    by_cases hlt : k < 16
    · have hkb : k < b.length := by rw [Hb.out]; omega
      have hv : b[k]? = some b[k] := List.getElem?_eq_getElem hkb
      have hce := HC.out k _ hv
      have HTK := Lib.hid (List.take_succ_eq_append_getElem hkb)
      have hv8 := b[k].toNat_lt
      generalize hx : b[k] = x at *
      by_cases h255 : x.toNat = 255
      · have d : ((x.toNat : Int) != 255) = false := by rw [h255]; rfl
        have HX : Hid (x = 255) := UInt8.toNat_inj.1 h255
        clear hv hx h255 hkb
        go_wp2_with fail
        go_round
        case rel => exact ⟨k + 1, by omega, by go_num, by rw [HTK.out, HT.out, HX.out, List.replicate_succ']⟩
        case measure => simp [intOf]; omega
      · have d : ((x.toNat : Int) != 255) = true := by rw [bne_iff_ne]; omega
        have HX : Hid (hbad b = (1, 1, [])) := by
          have hne : hmark b ≠ marks := fun e => by
            have h1 : (hmark b)[k]? = marks[k]? := by rw [e]
            unfold hmark marks at h1
            rw [List.getElem?_take, if_pos hlt, hv, List.getElem?_replicate, if_pos hlt] at h1
            injection h1 with h1
            rw [h1] at h255
            exact h255 rfl
          rw [Hid]; unfold hbad judgeN; rw [if_pos hne]
        clear hv hx h255 hkb
        go_wp2_with fail
        exact bodyPost_ret (results_cell_row rfl _ _ w.heap.size 53 _ (0, 0) _ rfl (Bk.new w _ _) Try.underlying53 rfl info_notice) rfl (head_ret HX.out (fun _ => rfl) (Nat.le_refl _) (Nat.zero_le _) (Rd.nil _ _ _ _) ((Below.refl _ _).alloc (Nat.le_refl _) _) (fun ad h => by cases h))
    · obtain rfl : k = 16 := by omega
      have HM : Hid (hmark b = marks) := HT.out
      have hl2 : ((b.drop 16).take 2).length = 2 := by simp [Hb.out]
      have hr2 := rg_part HR.out 16 18 (by omega) (by rw [Hb.out]; omega)
      have hr1 := rg_part HR.out 18 19 (by omega) (by rw [Hb.out]; omega)
      have hlt18 : 18 < b.length := by rw [Hb.out]; omega
      have e18 : b[18]? = some b[18] := List.getElem?_eq_getElem hlt18
      have c18 := HC.out 18 _ e18
      have hk8 := b[18].toNat_lt
      have HKd : Hid (hkind b = b[18].toNat ∧ (b.drop 18).take 1 = [octet.byteOf (b[18].toNat : Int)]) := by
        have h1 : (b.drop 18).take 1 = [b[18]] := by rw [List.drop_eq_getElem_cons hlt18]; rfl
        refine ⟨by unfold hkind; rw [h1]; simp [num], ?_⟩
        have := be1_num b[18]
        rw [show num [b[18]] = b[18].toNat from by simp [num]] at this
        rw [h1, this]
      have HN : Hid (∀ (c' : Nat) (w' : World), Below w.heap.size w w' → Calls Try.prog 46 #[.slice (some ⟨g, off + 16, none⟩) 2 c'] w' fun e w'' => e = .returned (.int .u32 (hlen b : Int)) ∧ w' = w'') := fun c' w' hb' => by
        have := Num_any (some ⟨g, off + 16, none⟩) c' w.heap.size ((b.drop 16).take 2) w' (by rw [hl2]; omega) (bs_of (hr2.rd.below hb' (Nat.le_refl _)) hl2)
        rw [hl2] at this
        exact this
      have HB2 : Hid (be2 (hlen b : Int) = (b.drop 16).take 2) := be2_num _ hl2
      have HJ : Hid (hbad b = if hlen b < 19 ∨ 4096 < hlen b then (1, 2, be2 (hlen b : Int)) else if hkind b < 1 ∨ 4 < hkind b then (1, 3, [octet.byteOf (hkind b : Int)]) else if fitsB (hkind b) (hlen b) = false then (1, 2, be2 (hlen b : Int)) else (0, 0, [])) := by
        rw [Hid]; unfold hbad judgeN; rw [if_neg (by rw [HM.out]; simp)]
      have HS2 : Hid (∀ w', Below w.heap.size w w' → Bs w' w.heap.size (some ⟨g, off + 16, none⟩) (be2 (hlen b : Int))) := fun w' hb' => by
        rw [HB2.out]; exact bs_of (hr2.rd.below hb' (Nat.le_refl _)) hl2
      have HS1 : Hid (∀ w', Below w.heap.size w w' → Bs w' w.heap.size (some ⟨g, off + 18, none⟩) [octet.byteOf (hkind b : Int)]) := fun w' hb' => by
        rw [HKd.out.1, ← HKd.out.2]
        exact bs_of (hr1.rd.below hb' (Nat.le_refl _)) (by rw [HKd.out.2]; rfl)
      rw [HKd.out.1] at HJ HS1
      have hn16 := hlen_lt b
      generalize b[18].toNat = kd at *
      generalize hlen b = n at *
      clear hl2 hr2 hr1 e18 HKd HB2 HM HT hlt18
      have hb1 : ∀ (x : Array Value), Below w.heap.size w (w.alloc (.cells x 53)) := fun x => (Below.refl _ _).alloc (Nat.le_refl _) _
      have hb2 : ∀ (x y : Array Value), Below w.heap.size w ((w.alloc (.cells x 53)).alloc (.cells y 53)) := fun x y => (hb1 x).alloc (by simp) _
      have hb3 : ∀ (x y z : Array Value), Below w.heap.size w (((w.alloc (.cells x 53)).alloc (.cells y 53)).alloc (.cells z 3)) := fun x y z => (hb2 x y).alloc (by simp; omega) _
      have HB2 := Lib.hid hb2
      have HB3 := Lib.hid hb3
      have HN2 := Lib.hid (HN.out (c - 16) _ (hb1 #[.int .i64 0, .int .i64 0, .slice none 0 0]))
      have hc16 : (16 : Int) ≤ (c : Int) := by omega
      have hc18 : (18 : Int) ≤ (c : Int) := by omega
      clear hb1 hb2 hb3 HN
      by_cases hn : n < 19 ∨ 4096 < n
      · have HE : Hid (hbad b = (1, 2, be2 (n : Int))) := by rw [Hid, HJ.out, if_pos hn]
        clear HJ
        rcases hn with hn | hn
        all_goals
          go_wp2_with (go_at_call 46; refine HN2.out.mono ?_; rintro e w' ⟨rfl, rfl⟩)
          exact bodyPost_ret (results_cell_row rfl _ _ w.heap.size 53 _ (0, 0) _ rfl ((Bk.new w _ _).alloc _) Try.underlying53 rfl info_notice) rfl (head_ret HE.out (fun h => by cases h) (by simp [be2]; omega) (by unfold maxLen at *; omega) (HS2.out _ (HB2.out _ _)) (HB2.out _ _) (fun ad h => by cases h; rfl))
      · have HJ2 := Lib.hid HJ.out
        rw [if_neg hn] at HJ2
        have n1 : ¬ n < 19 := by omega
        have n2 : ¬ 4096 < n := by omega
        clear HJ hn
        by_cases hk1 : kd < 1 ∨ 4 < kd
        · have HE : Hid (hbad b = (1, 3, [octet.byteOf (kd : Int)])) := by rw [Hid, HJ2.out, if_pos hk1]
          clear HJ2
          rcases hk1 with hk1 | hk1
          all_goals
            go_wp2_with (go_at_call 46; refine HN2.out.mono ?_; rintro e w' ⟨rfl, rfl⟩)
            exact bodyPost_ret (results_cell_row rfl _ _ w.heap.size 53 _ (0, 0) _ rfl ((Bk.new w _ _).alloc _) Try.underlying53 rfl info_notice) rfl (head_ret HE.out (fun h => by cases h) (by simp; omega) (by unfold maxLen at *; omega) (HS1.out _ (HB2.out _ _)) (HB2.out _ _) (fun ad h => by cases h; rfl))
        · have HJ3 := Lib.hid HJ2.out
          rw [if_neg hk1] at HJ3
          have k1 : 1 ≤ kd := by omega
          have k2 : kd ≤ 4 := by omega
          clear HJ2 hk1
          have hg1 : g < w.heap.size + 1 := by omega
          have hg2 : g < w.heap.size + 1 + 1 := by omega
          rcases (by omega : kd = 1 ∨ kd = 2 ∨ kd = 3 ∨ kd = 4) with rfl | rfl | rfl | rfl
          · have c18 : w.cell? ⟨g, off + 18, none⟩ = some (.int .u8 1) := c18
            by_cases hq : n < 29
            · have HE : Hid (hbad b = (1, 2, be2 (n : Int))) := by rw [Hid, HJ3.out, if_pos (by simp [fitsB]; omega)]
              clear HJ3
              go_wp2_with (go_at_call 46; refine HN2.out.mono ?_; rintro e w' ⟨rfl, rfl⟩)
              exact bodyPost_ret (results_cell_row rfl _ _ w.heap.size 53 _ (0, 0) _ rfl (((Bk.new w _ _).alloc _).alloc _) Try.underlying53 rfl info_notice) rfl (head_ret HE.out (fun h => by cases h) (by simp [be2]; omega) (by unfold maxLen at *; omega) (HS2.out _ (HB3.out _ _ _)) (HB3.out _ _ _) (fun ad h => by cases h; rfl))
            · have HE : Hid (hbad b = (0, 0, [])) := by rw [Hid, HJ3.out, if_neg (by simp [fitsB]; omega)]
              clear HJ3
              go_wp2_with (go_at_call 46; refine HN2.out.mono ?_; rintro e w' ⟨rfl, rfl⟩)
              exact bodyPost_ret (results_cell_row rfl _ _ w.heap.size 53 _ (0, 0) _ rfl (((Bk.new w _ _).alloc _).alloc _) Try.underlying53 rfl info_notice) rfl (head_ret HE.out (fun _ => rfl) (Nat.le_refl _) (Nat.zero_le _) (Rd.nil _ _ _ _) (HB3.out _ _ _) (fun ad h => by cases h))
          · have c18 : w.cell? ⟨g, off + 18, none⟩ = some (.int .u8 2) := c18
            by_cases hq : n < 23
            · have HE : Hid (hbad b = (1, 2, be2 (n : Int))) := by rw [Hid, HJ3.out, if_pos (by simp [fitsB]; omega)]
              clear HJ3
              go_wp2_with (go_at_call 46; refine HN2.out.mono ?_; rintro e w' ⟨rfl, rfl⟩)
              exact bodyPost_ret (results_cell_row rfl _ _ w.heap.size 53 _ (0, 0) _ rfl (((Bk.new w _ _).alloc _).alloc _) Try.underlying53 rfl info_notice) rfl (head_ret HE.out (fun h => by cases h) (by simp [be2]; omega) (by unfold maxLen at *; omega) (HS2.out _ (HB3.out _ _ _)) (HB3.out _ _ _) (fun ad h => by cases h; rfl))
            · have HE : Hid (hbad b = (0, 0, [])) := by rw [Hid, HJ3.out, if_neg (by simp [fitsB]; omega)]
              clear HJ3
              go_wp2_with (go_at_call 46; refine HN2.out.mono ?_; rintro e w' ⟨rfl, rfl⟩)
              exact bodyPost_ret (results_cell_row rfl _ _ w.heap.size 53 _ (0, 0) _ rfl (((Bk.new w _ _).alloc _).alloc _) Try.underlying53 rfl info_notice) rfl (head_ret HE.out (fun _ => rfl) (Nat.le_refl _) (Nat.zero_le _) (Rd.nil _ _ _ _) (HB3.out _ _ _) (fun ad h => by cases h))
          · have c18 : w.cell? ⟨g, off + 18, none⟩ = some (.int .u8 3) := c18
            by_cases hq : n < 21
            · have HE : Hid (hbad b = (1, 2, be2 (n : Int))) := by rw [Hid, HJ3.out, if_pos (by simp [fitsB]; omega)]
              clear HJ3
              go_wp2_with (go_at_call 46; refine HN2.out.mono ?_; rintro e w' ⟨rfl, rfl⟩)
              exact bodyPost_ret (results_cell_row rfl _ _ w.heap.size 53 _ (0, 0) _ rfl (((Bk.new w _ _).alloc _).alloc _) Try.underlying53 rfl info_notice) rfl (head_ret HE.out (fun h => by cases h) (by simp [be2]; omega) (by unfold maxLen at *; omega) (HS2.out _ (HB3.out _ _ _)) (HB3.out _ _ _) (fun ad h => by cases h; rfl))
            · have HE : Hid (hbad b = (0, 0, [])) := by rw [Hid, HJ3.out, if_neg (by simp [fitsB]; omega)]
              clear HJ3
              go_wp2_with (go_at_call 46; refine HN2.out.mono ?_; rintro e w' ⟨rfl, rfl⟩)
              exact bodyPost_ret (results_cell_row rfl _ _ w.heap.size 53 _ (0, 0) _ rfl (((Bk.new w _ _).alloc _).alloc _) Try.underlying53 rfl info_notice) rfl (head_ret HE.out (fun _ => rfl) (Nat.le_refl _) (Nat.zero_le _) (Rd.nil _ _ _ _) (HB3.out _ _ _) (fun ad h => by cases h))
          · have c18 : w.cell? ⟨g, off + 18, none⟩ = some (.int .u8 4) := c18
            by_cases hq : 19 < n
            · have HE : Hid (hbad b = (1, 2, be2 (n : Int))) := by rw [Hid, HJ3.out, if_pos (by simp [fitsB]; omega)]
              clear HJ3
              go_wp2_with (go_at_call 46; refine HN2.out.mono ?_; rintro e w' ⟨rfl, rfl⟩)
              exact bodyPost_ret (results_cell_row rfl _ _ w.heap.size 53 _ (0, 0) _ rfl (((Bk.new w _ _).alloc _).alloc _) Try.underlying53 rfl info_notice) rfl (head_ret HE.out (fun h => by cases h) (by simp [be2]; omega) (by unfold maxLen at *; omega) (HS2.out _ (HB3.out _ _ _)) (HB3.out _ _ _) (fun ad h => by cases h; rfl))
            · have HE : Hid (hbad b = (0, 0, [])) := by rw [Hid, HJ3.out, if_neg (by simp [fitsB]; omega)]
              have hq : n = 19 := by omega
              subst hq
              clear HJ3
              go_wp2_with (go_at_call 46; refine HN2.out.mono ?_; rintro e w' ⟨rfl, rfl⟩)
              exact bodyPost_ret (results_cell_row rfl _ _ w.heap.size 53 _ (0, 0) _ rfl (((Bk.new w _ _).alloc _).alloc _) Try.underlying53 rfl info_notice) rfl (head_ret HE.out (fun _ => rfl) (Nat.le_refl _) (Nat.zero_le _) (Rd.nil _ _ _ _) (HB3.out _ _ _) (fun ad h => by cases h))
end Go.Proofs.Ythoclemgiopjpaa.frame
