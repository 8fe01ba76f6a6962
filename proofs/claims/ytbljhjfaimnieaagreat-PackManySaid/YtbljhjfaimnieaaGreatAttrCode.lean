/- What attr.encoded, Encode and Size return. Condition: at most 10^5 pieces and numbers together. -/
import Derived.Test.YtbljhjfaimnieaaGreatAttrValue
namespace Go.Proofs.YtbljhjfaimnieaaGreat.attr
open Go.RowKit Go.Proofs.YtbljhjfaimnieaaGreat.kit Go.Proofs.YtbljhjfaimnieaaGreat.mem Go.Proofs.YtbljhjfaimnieaaGreat.foot Go.Proofs.YtbljhjfaimnieaaGreat.nums Go.Proofs.YtbljhjfaimnieaaGreat.asn Go.Proofs.YtbljhjfaimnieaaGreat.pth Go.Proofs.YtbljhjfaimnieaaGreat.octet
set_option linter.unusedVariables false
set_option linter.unusedSimpArgs false
/-- an attribute's bytes -/
def attB (a : Atr) (k : Nat) : List UInt8 :=
  if 255 < (valB a k).length then [octet.byteOf (flg k + 16), octet.byteOf (k : Int), octet.byteOf (((valB a k).length : Int) / 256), octet.byteOf ((valB a k).length : Int)] ++ valB a k
  else [octet.byteOf (flg k), octet.byteOf (k : Int), octet.byteOf ((valB a k).length : Int)] ++ valB a k
/-- the bytes of those that there are, up to a type -/
def encU (a : Atr) : Nat → List UInt8
  | 0 => []
  | k + 1 => encU a k ++ if bitI a.has (k + 1) = true then attB a (k + 1) else []
def encB (a : Atr) : List UInt8 := encU a 8
theorem attB_len {a : Atr} {k : Nat} (hp : nsz a.path ≤ 100000) (hc : a.comms.length ≤ 100000) : (attB a k).length ≤ 400004 := by
  have := valB_len (k := k) hp hc
  unfold attB
  split <;> simp <;> omega
theorem encU_len {a : Atr} (hp : nsz a.path ≤ 100000) (hc : a.comms.length ≤ 100000) : ∀ k, (encU a k).length ≤ 400004 * k
  | 0 => by simp [encU]
  | k + 1 => by
    have h1 := encU_len hp hc k
    have h2 := attB_len (k := k + 1) hp hc
    unfold encU
    rw [List.length_append]
    split
    · omega
    · simp; omega
theorem encU_step (a : Atr) {k : Nat} (h : 1 ≤ k) : encU a k = encU a (k - 1) ++ if bitI a.has k = true then attB a k else [] := by
  obtain ⟨j, rfl⟩ : ∃ j, k = j + 1 := ⟨k - 1, by omega⟩
  rfl
/-- bytes that lie apart from a writer -/
structure Apart (w : World) (b : Nat) (A : Option Addr) (c : Nat) (l : List UInt8) : Prop where
  nil : A = none → c = 0
  bs : Bs w w.heap.size A l
  sep : ∀ ad, A = some ad → Sep w b ad.block
  lt : ∀ ad, A = some ad → ad.block < w.heap.size
theorem Apart.only {w w' : World} {b c : Nat} {A : Option Addr} {l : List UInt8} (h : Apart w b A c l) (ho : Only w w' b) : Apart w' b A c l :=
  ⟨h.nil, (Rd.only h.bs ho (Nat.le_refl _) h.sep).more ho.size, fun ad e => (ho.block _ (h.lt ad e) (h.sep ad e)).2, fun ad e => Nat.lt_of_lt_of_le (h.lt ad e) ho.size⟩
theorem Apart.of {w w3 : World} {B b c : Nat} {A : Option Addr} {l0 l : List UInt8} (hw : Wtr w B b l0) (hb : Below w.heap.size w w3) (ho : foot.Own w3 5 1 A l.length c (bv l)) (hlo : ∀ k, sf A k → w.heap.size ≤ k) : Apart w3 b A c l :=
  ⟨ho.nil, ho.rg.rd, fun ad e => hw.sep (hlo _ ⟨ad, e, rfl⟩) hb, fun ad e => ho.lt _ ⟨ad, e, rfl⟩⟩
theorem or16 (k : Nat) (h1 : 1 ≤ k) (h8 : k ≤ 8) : bits .or .i64 (flg (k : Int)) 16 = flg (k : Int) + 16 := by
  have h : k = 1 ∨ k = 2 ∨ k = 3 ∨ k = 4 ∨ k = 5 ∨ k = 6 ∨ k = 7 ∨ k = 8 := by omega
  rcases h with rfl | rfl | rfl | rfl | rfl | rfl | rfl | rfl <;> decide +kernel
set_option maxRecDepth 100000 in
set_option maxHeartbeats 4000000 in
theorem encoded_any (a : Atr) (Ap Ac : Option Addr) (cp cc : Nat) (G : Foot) (w : World) (hm : Am w G a Ap cp Ac cc) (hp : nsz a.path ≤ 100000) (hc : a.comms.length ≤ 100000) (h16 : ∀ k, (valB a k).length ≤ 65535) :
    Calls Tryz.prog 93 #[.agg (atc a Ap cp Ac cc).toArray] w (RetB (encB a) w) := by
  have HX := Lib.hid (VX.new w a Ap cp Ac cc)
  have HSz : Hid ((Tryz.prog.info? 26).map (·.size) = some 9) := info_atr
  have HHs : Hid (∀ (k : Nat) (w' : World), k ≤ 8 → Calls Tryz.prog 79 #[.agg (atc a Ap cp Ac cc).toArray, .int .i64 (k : Int)] w' fun e w2 => e = .returned (.bool (bitI a.has k)) ∧ Below w'.heap.size w' w2) := fun k w' hk => has_any a Ap Ac cp cc k hk w'
  have HVa : Hid (∀ (k : Nat) (w' : World), 1 ≤ k → k ≤ 8 → Below w.heap.size w w' → Calls Tryz.prog 119 #[.agg (atc a Ap cp Ac cc).toArray, .int .i64 (k : Int)] w' (RetB (valB a k) w')) := fun k w' h1 h8 hb => value_any a Ap Ac cp cc G k h1 h8 w' (hm.bel hb) hp hc
  have HU8 : Hid (∀ (l : List UInt8) (n : Int) (w' : World), Wtr w' (w.heap.size + 1) (w.heap.size + 1) l → l.length ≤ 10000000 → Calls Tryz.prog 120 #[.pointer (some ⟨w.heap.size + 1, 0, none⟩), .int .i64 n] w' fun e w2 => e = .returned (.pointer (some ⟨w.heap.size + 1, 0, none⟩)) ∧ Wtr w2 (w.heap.size + 1) (w.heap.size + 1) (l ++ [octet.byteOf n]) ∧ Only w' w2 (w.heap.size + 1)) := fun l n w' h1 h2 => U8_any _ _ l n w' h1 (by omega)
  have HLo : Hid (∀ (l v : List UInt8) (A : Option Addr) (c : Nat) (w' : World), Wtr w' (w.heap.size + 1) (w.heap.size + 1) l → l.length ≤ 10000000 → v.length ≤ 65535 → Apart w' (w.heap.size + 1) A c v → Calls Tryz.prog 122 #[.pointer (some ⟨w.heap.size + 1, 0, none⟩), .slice A v.length c] w' fun e w2 => e = .returned (.bool true) ∧ Wtr w2 (w.heap.size + 1) (w.heap.size + 1) (l ++ octet.byteOf ((v.length : Int) / 256) :: octet.byteOf (v.length : Int) :: v) ∧ Only w' w2 (w.heap.size + 1)) := fun l v A c w' h1 h2 h3 h4 => Long_yes _ _ l v A c _ w' h1 (by omega) h3 h4.nil (Nat.le_refl _) h4.bs h4.sep
  have HSi : Hid (∀ (l v : List UInt8) (A : Option Addr) (c : Nat) (w' : World), Wtr w' (w.heap.size + 1) (w.heap.size + 1) l → l.length ≤ 10000000 → v.length ≤ 255 → Apart w' (w.heap.size + 1) A c v → Calls Tryz.prog 123 #[.pointer (some ⟨w.heap.size + 1, 0, none⟩), .slice A v.length c] w' fun e w2 => e = .returned (.bool true) ∧ Wtr w2 (w.heap.size + 1) (w.heap.size + 1) (l ++ octet.byteOf (v.length : Int) :: v) ∧ Only w' w2 (w.heap.size + 1)) := fun l v A c w' h1 h2 h3 h4 => Sized_yes _ _ l v A c _ w' h1 (by omega) h3 h4.nil (Nat.le_refl _) h4.bs h4.sep
  have HBy : Hid (∀ (w' : World), Wtr w' (w.heap.size + 1) (w.heap.size + 1) (encB a) → Below w.heap.size w w' → Calls Tryz.prog 124 #[.pointer (some ⟨w.heap.size + 1, 0, none⟩)] w' fun e w2 => RetB (encB a) w e w2) := fun w' h1 h3 => by
    have := encU_len hp hc 8
    exact (BytesB_any _ _ _ w' h1 (by unfold encB; omega)).mono fun e w2 h => h.up h3
  have HEl : Hid (∀ k, k ≤ 9 → (encU a (k - 1)).length ≤ 4000000) := fun k hk => by
    have h := encU_len hp hc (k - 1)
    have : 400004 * (k - 1) ≤ 400004 * 8 := Nat.mul_le_mul_left _ (by omega)
    omega
  have H16 := Lib.hid h16
  have HF : Hid (∀ e w', RetB (encB a) w e w' → ∃ A n c, e = .returned (.slice A n c)) := fun e w' => by
    rintro ⟨A, c, h, _⟩
    exact ⟨A, _, c, h⟩
  obtain ⟨Q, hQ⟩ : ∃ Q, Q = RetB (encB a) w := ⟨_, rfl⟩
  have HQ : Hid (∀ e w', RetB (encB a) w e w' → Q e w') := fun e w' h => by rw [hQ]; exact h
  rw [← hQ]
  obtain ⟨w1, hw1⟩ : ∃ w1, w1 = (w.alloc (.cells (atc a Ap cp Ac cc).toArray 26)).alloc (.cells #[.slice none 0 0] 127) := ⟨_, rfl⟩
  rw [← hw1] at HX
  have HBk : Hid (∀ w', Below (w.heap.size + 1) w1 w' → Bk w' w.heap.size 26 (atc a Ap cp Ac cc).toArray) := fun w' hb => HX.out.bk.below hb (Nat.lt_succ_self _)
  have HCl : Hid ((atc a Ap cp Ac cc).length = 9) := rfl
  clear hQ hm hp hc h16
  generalize atc a Ap cp Ac cc = cs at *
  go_enter Tryz.func93, Tryz.ntmps93
  go_upto_region 2 with fail
  rw [← hw1]
  clear hw1
  go_wp2_with fail
  go_loopw [4, 5] (fun v4 _ wr => ∃ k : Nat, 1 ≤ k ∧ k ≤ 9 ∧ v4 = .int .i64 k ∧ Wtr wr (w.heap.size + 1) (w.heap.size + 1) (encU a (k - 1)) ∧ Below (w.heap.size + 1) w1 wr) (fun v4 _ _ => 9 - (intOf v4).toNat)
  case atStart => exact ⟨1, by omega, by omega, rfl, HX.out.wr, Below.refl _ _⟩
  case round =>
    obtain ⟨k, h1, h9, rfl, hwr, hb⟩ := hrel
    have HWr := Lib.hid hwr
    have HB := Lib.hid hb
    have HBw := Lib.hid (HX.out.bel.trans (hb.mono (Nat.le_succ _)))
    clear hwr hb
    by_cases h8 : k ≤ 8
    · have d8 : decide ((k : Int) ≤ 8) = true := by rw [decide_eq_true_iff]; omega
      have HHk := Lib.hid (fun w' => HHs.out k w' h8)
      have HSt := Lib.hid (encU_step a h1)
      have hel := HEl.out k h9
      have hv16 := H16.out k
      have HVk := Lib.hid (fun w' hb => HVa.out k w' h1 h8 hb)
      have HFl : Hid (∀ w', Calls Tryz.prog 121 #[.int .i64 (k : Int)] w' fun e w2 => e = .returned (.int .i64 (flg (k : Int))) ∧ w' = w2) := fun w' => flags_any k w'
      have hor := or16 k h1 h8
      have HAt : Hid (attB a k = if 255 < (valB a k).length then [octet.byteOf (flg (k : Int) + 16), octet.byteOf (k : Int), octet.byteOf (((valB a k).length : Int) / 256), octet.byteOf ((valB a k).length : Int)] ++ valB a k else [octet.byteOf (flg (k : Int)), octet.byteOf (k : Int), octet.byteOf ((valB a k).length : Int)] ++ valB a k) := rfl
      generalize flg (k : Int) = f at *
      generalize encU a (k - 1) = L at *
      generalize attB a k = T at *
      generalize valB a k = V at *
      generalize bitI a.has k = bt at *
      have HK0 := Lib.hid (HBk.out wr HB.out)
      rcases bt with _ | _
      · go_wp2_with (first
          | (refine wpList_loadBk rfl 26 (.tmp 1) rfl w.heap.size (by rfl) 26 cs.toArray _ HK0.out Tryz.underlying26 (by rfl) (by rw [List.size_toArray, HCl.out]; exact HSz.out) ?_)
          | (go_at_call 79; refine (HHk.out _).mono ?_; rintro e w2 ⟨rfl, hb2⟩; have HW2 := Lib.hid (HWr.out.below hb2); have HB2 := Lib.hid (HB.out.trans (hb2.mono HWr.out.base)); clear hb2))
        go_roundw
        case rel =>
          have e1 := HSt.out
          rw [if_neg (by simp), List.append_nil] at e1
          exact ⟨k + 1, by omega, by omega, by go_num, by rw [Nat.add_sub_cancel, e1]; exact HW2.out, HB2.out⟩
        case measure => simp [intOf]; omega
      · go_upto_region 7 with (first
          | (refine wpList_loadBk rfl 26 (.tmp 1) rfl w.heap.size (by rfl) 26 cs.toArray _ HK0.out Tryz.underlying26 (by rfl) (by rw [List.size_toArray, HCl.out]; exact HSz.out) ?_)
          | (go_at_call 79; refine (HHk.out _).mono ?_; rintro e w2 ⟨rfl, hb2⟩; have HW2 := Lib.hid (HWr.out.below hb2); have HB2 := Lib.hid (HB.out.trans (hb2.mono HWr.out.base)); have HK0 := Lib.hid (HBk.out w2 HB2.out); have HVx := Lib.hid (HVk.out w2 (HX.out.bel.trans (HB2.out.mono (Nat.le_succ _)))); clear hb2)
          | (go_at_call 119; refine HVx.out.mono ?_; rintro e w3 ⟨A3, c3, rfl, ho3, hlo3, hb3⟩; have HP3 := Lib.hid (Apart.of HW2.out hb3 ho3 hlo3); have HW3 := Lib.hid (HW2.out.below hb3); have HB3 := Lib.hid (HB2.out.trans (hb3.mono HW2.out.base)); clear ho3 hlo3 hb3))
        have hvl : V.length < 10000000 := by omega
        by_cases hlong : 255 < V.length
        · have d1 : decide ((255 : Int) < (V.length : Int)) = true := by rw [decide_eq_true_iff]; omega
          have HAe : Hid (T = L ++ T → False ∨ True) := fun _ => .inr trivial
          have HEn : Hid (L ++ [octet.byteOf (f + 16)] ++ [octet.byteOf (k : Int)] ++ octet.byteOf ((V.length : Int) / 256) :: octet.byteOf (V.length : Int) :: V = encU a k) := by
            rw [Hid, HSt.out, if_pos trivial, HAt.out, if_pos hlong]
            simp
          go_wp2_with fail
          refine (HFl.out _).mono ?_; rintro e w4 ⟨rfl, rfl⟩
          go_wp2_with fail
          refine (HU8.out _ _ _ HW3.out (by omega)).mono ?_; rintro e w4 ⟨rfl, k1, k2⟩
          have HW4 := Lib.hid k1
          have HP4 := Lib.hid (HP3.out.only k2)
          have HB4 := Lib.hid (HB3.out.trans (HW3.out.only k2))
          clear k1 k2
          go_wp2_with fail
          refine (HU8.out _ _ _ HW4.out (by simp; omega)).mono ?_; rintro e w5 ⟨rfl, k1, k2⟩
          have HW5 := Lib.hid k1
          have HP5 := Lib.hid (HP4.out.only k2)
          have HB5 := Lib.hid (HB4.out.trans (HW4.out.only k2))
          clear k1 k2
          go_wp2_with fail
          refine (HLo.out _ V A3 c3 _ HW5.out (by simp; omega) hv16 HP5.out).mono ?_; rintro e w6 ⟨rfl, k1, k2⟩
          have HW6 := Lib.hid k1
          have HB6 := Lib.hid (HB5.out.trans (HW5.out.only k2))
          clear k1 k2
          go_wp2_with fail
          go_roundw
          case rel => exact ⟨k + 1, by omega, by omega, by go_num, by rw [Nat.add_sub_cancel, ← HEn.out]; exact HW6.out, HB6.out⟩
          case measure => simp [intOf]; omega
        · have d1 : decide ((255 : Int) < (V.length : Int)) = false := by rw [decide_eq_false_iff_not]; omega
          have HEn : Hid (L ++ [octet.byteOf f] ++ [octet.byteOf (k : Int)] ++ octet.byteOf (V.length : Int) :: V = encU a k) := by
            rw [Hid, HSt.out, if_pos trivial, HAt.out, if_neg hlong]
            simp
          go_wp2_with fail
          refine (HFl.out _).mono ?_; rintro e w4 ⟨rfl, rfl⟩
          go_wp2_with fail
          refine (HU8.out _ _ _ HW3.out (by omega)).mono ?_; rintro e w4 ⟨rfl, k1, k2⟩
          have HW4 := Lib.hid k1
          have HP4 := Lib.hid (HP3.out.only k2)
          have HB4 := Lib.hid (HB3.out.trans (HW3.out.only k2))
          clear k1 k2
          go_wp2_with fail
          refine (HU8.out _ _ _ HW4.out (by simp; omega)).mono ?_; rintro e w5 ⟨rfl, k1, k2⟩
          have HW5 := Lib.hid k1
          have HP5 := Lib.hid (HP4.out.only k2)
          have HB5 := Lib.hid (HB4.out.trans (HW4.out.only k2))
          clear k1 k2
          go_wp2_with fail
          refine (HSi.out _ V A3 c3 _ HW5.out (by simp; omega) (by omega) HP5.out).mono ?_; rintro e w6 ⟨rfl, k1, k2⟩
          have HW6 := Lib.hid k1
          have HB6 := Lib.hid (HB5.out.trans (HW5.out.only k2))
          clear k1 k2
          go_wp2_with fail
          go_roundw
          case rel => exact ⟨k + 1, by omega, by omega, by go_num, by rw [Nat.add_sub_cancel, ← HEn.out]; exact HW6.out, HB6.out⟩
          case measure => simp [intOf]; omega
    · obtain rfl : k = 9 := by omega
      have HByx := Lib.hid (HBy.out wr HWr.out HBw.out)
      go_wp2_with (go_at_call 124; refine HByx.out.mono ?_; rintro e w9 hp; go_must (obtain ⟨A', n', c', rfl⟩ := HF.out e w9 hp); have HP := Lib.hid (HQ.out _ _ hp); clear hp)
      exact HP.out
theorem pathB_eq : ∀ p : List Sg, (pathB p).length = 2 * p.length + 4 * (allP p).length
  | [] => rfl
  | s :: p => by
    have ih := pathB_eq p
    have h1 := n4s_len s.2
    simp only [pathB, allP, List.flatMap_cons, List.length_append, segB, List.length_cons, List.length_nil] at ih ⊢
    omega
theorem good_16 {a : Atr} (h : GoodA a) (k : Nat) : (valB a k).length ≤ 65535 := by
  have h1 := pathB_eq a.path
  have h2 := n4s_len a.comms
  have h3 := h.ways.2
  have h5 := h.ways.1.2.1
  have h6 := h.few
  have h4 : ∀ n : Int, (be4 n).length = 4 := fun _ => rfl
  unfold valB
  split <;> simp [h4] <;> omega
set_option maxRecDepth 100000 in
set_option maxHeartbeats 2000000 in
theorem Size_yes (a : Atr) (Ap Ac : Option Addr) (cp cc : Nat) (G : Foot) (w : World) (hm : Am w G a Ap cp Ac cc) (hp : nsz a.path ≤ 100000) (hc : a.comms.length ≤ 100000) (hg : GoodA a) :
    Calls Tryz.prog 70 #[.agg (atc a Ap cp Ac cc).toArray] w fun e w' => e = .returned (.int .i64 ((encB a).length : Int)) ∧ Below w.heap.size w w' := by
  have HSz : Hid ((Tryz.prog.info? 26).map (·.size) = some 9) := info_atr
  have hb1 : Below w.heap.size w (w.alloc (.cells (atc a Ap cp Ac cc).toArray 26)) := (Below.refl _ _).alloc (Nat.le_refl _) _
  have HB1 := Lib.hid hb1
  have HG := Lib.hid (good_any a Ap Ac cp cc G (w.alloc (.cells (atc a Ap cp Ac cc).toArray 26)) true (by simp [hg]) (hm.bel hb1) hp (by omega))
  have HE : Hid (∀ w', Below w.heap.size w w' → Calls Tryz.prog 93 #[.agg (atc a Ap cp Ac cc).toArray] w' (RetB (encB a) w')) := fun w' hb => encoded_any a Ap Ac cp cc G w' (hm.bel hb) hp hc (good_16 hg)
  have HK : Hid (∀ w', Below (w.alloc (.cells (atc a Ap cp Ac cc).toArray 26)).heap.size (w.alloc (.cells (atc a Ap cp Ac cc).toArray 26)) w' → Bk w' w.heap.size 26 (atc a Ap cp Ac cc).toArray) := fun w' hb => (Bk.new w _ _).below hb (by simp)
  have HCl : Hid ((atc a Ap cp Ac cc).length = 9) := rfl
  clear hm hp hc hg hb1
  generalize encB a = E at *
  generalize atc a Ap cp Ac cc = cs at *
  have HK0 := Lib.hid (HK.out _ (Below.refl _ _))
  go_enter Tryz.func70, Tryz.ntmps70
  go_wp2_with (first
    | (refine wpList_loadBk rfl 26 (.tmp 1) rfl w.heap.size (by rfl) 26 cs.toArray _ HK0.out Tryz.underlying26 (by rfl) (by rw [List.size_toArray, HCl.out]; exact HSz.out) ?_)
    | (go_at_call 78; refine HG.out.mono ?_; rintro e w2 ⟨rfl, hb2⟩; have HK0 := Lib.hid (HK.out _ hb2); have HB2 := Lib.hid (HB1.out.trans (hb2.mono HB1.out.size)); have HEx := Lib.hid (HE.out w2 HB2.out); clear hb2)
    | (go_at_call 93; refine HEx.out.mono ?_; rintro e w3 ⟨A3, c3, rfl, h1, h2, h3⟩; have H3 := Lib.hid (HB2.out.trans (h3.mono HB2.out.size)); clear h1 h2 h3))
  go_ret
  exact ⟨rfl, H3.out⟩
end Go.Proofs.YtbljhjfaimnieaaGreat.attr
