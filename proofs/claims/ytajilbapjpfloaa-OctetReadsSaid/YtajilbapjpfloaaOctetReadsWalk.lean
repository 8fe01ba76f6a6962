/- The walk of the law OctetReads: the Go text returns true and writes nothing that was there. No condition. -/
import Derived.Test.YtajilbapjpfloaaOctLives
import Derived.Test.YtajilbapjpfloaaOpen
import Derived.Test.YtajilbapjpfloaaSlice
import Derived.Deep.DeepCutAuto
import Derived.IntWalk
import Derived.Deep.QuietTactic
import Derived.Deep.CutBlock
import Derived.BigQuiet
namespace Go.Proofs.Ytajilbapjpfloaa.octetReads
open Go.RowKit Go.Proofs.Ytajilbapjpfloaa.kit Go.Proofs.Ytajilbapjpfloaa.mem Go.Proofs.Ytajilbapjpfloaa.octet
set_option linter.unusedVariables false

theorem bytes_same (A : Option Addr) (c B : Nat) (l : List UInt8) (w : World) (hl : l.length ≤ 200) (hcap : l.length ≤ c) (hA : A = none → c = 0) (hB : B ≤ w.heap.size) (hs : Bs w B A l) :
    Calls Try.prog 17 #[.slice A l.length c, .int .i64 200] w (RetBytes l w) := by
  have h := Bytes_law A c B l 200 w (Or.inl (by omega)) hcap (by unfold maxLen; omega) hA hB hs
  rw [List.take_of_length_le hl] at h
  exact h

/-- what a round starts with and ends with -/
def Inv (W wr : World) (B r : Nat) (A : Option Addr) (c : Nat) (q : List UInt8) (bd : Bool) : Prop :=
  (A = none → c = 0) ∧ q.length ≤ c ∧ c ≤ maxLen ∧ q.length ≤ 200 ∧ Bs wr B A q ∧ Rdr wr r q bd ∧ Below W.heap.size W wr

theorem rget_all (q : List UInt8) (bd : Bool) (n : Int) : rget (rget q bd n) (!rok q bd n) ((rget q bd n).length : Int) = rget q bd n := by
  by_cases h : rok q bd n = true
  · rw [h]
    have : rok (rget q bd n) (!true) ((rget q bd n).length : Int) = true := (rok_iff _ _ _).2 ⟨rfl, by omega, by omega⟩
    unfold rget at this ⊢
    rw [if_pos h] at this ⊢
    rw [if_pos this, Int.toNat_natCast, List.take_length]
  · unfold rget
    rw [if_neg h]
    split <;> rfl

theorem rdr_drew {w : World} {r : Nat} {l : List UInt8} {bad : Bool} (h : Rdr w r l bad) : Rdr w.drew r l bad := h

theorem rok_no (q : List UInt8) (bd : Bool) (n : Int) (h : ¬ (bd = false ∧ 0 ≤ n ∧ n ≤ (q.length : Int))) : rok q bd n = false := by
  cases e : rok q bd n
  · rfl
  · exact absurd ((rok_iff q bd n).1 e) h

/-- both parts of a slice that is cut -/
theorem halves (A : Option Addr) (c : Nat) (q : List UInt8) (bd : Bool) (n : Int) (hA : A = none → c = 0) (hc : q.length ≤ c) (hm : c ≤ maxLen) (h : rok q bd n = true) :
    ∃ A' c', (∀ w, (Instr.slice 26 (.slice A q.length c) none (some (.int .i64 n)) none).run Try.prog w = .ok (.slice A (rget q bd n).length c) w) ∧ (∀ w, (Instr.slice 26 (.slice A q.length c) (some (.int .i64 n)) none none).run Try.prog w = .ok (.slice A' (rleft q bd n).length c') w) ∧
      (A' = none → c' = 0) ∧ (rleft q bd n).length ≤ c' ∧ c' ≤ maxLen ∧ (∀ w B, Bs w B A q → Bs w B A (rget q bd n) ∧ Bs w B A' (rleft q bd n)) := by
  obtain ⟨rfl, h0, h1⟩ := (rok_iff _ _ _).1 h
  obtain ⟨k, rfl⟩ := Int.eq_ofNat_of_zero_le h0
  have hk : k ≤ q.length := by omega
  obtain ⟨A', c', a1, a2, a3, a4, a5⟩ := cut_hi A c q.length k hA hc hm hk
  have e1 : (rget q false k).length = k := by unfold rget; rw [if_pos h]; simp; omega
  have e2 : (rleft q false k).length = q.length - k := by unfold rleft; rw [if_pos h]; simp
  refine ⟨A', c', fun w => by rw [e1]; exact cut_lo A c q.length k hA hc hm hk w, fun w => by rw [e2]; exact a4 w, a1, by rw [e2]; exact a2, a3, fun w B hs => ⟨?_, ?_⟩⟩
  · have := Rd.take hs hk
    rw [Nat.mul_one, ← bv_take] at this
    unfold Bs; rw [e1]; unfold rget; rw [if_pos h, Int.toNat_natCast]; exact this
  · have := a5 w B q rfl hs
    unfold rleft; rw [if_pos h, Int.toNat_natCast]; exact this

/-- how many bytes a call asks for -/
def nk (kk sv : Int) : Int := if kk = 0 then 1 else if kk = 1 then 2 else if kk = 2 then 4 else sv
def nq (kk n : Int) (l : Nat) : Int := if kk = 5 then l else n

set_option maxRecDepth 100000 in
set_option maxHeartbeats 4000000 in
theorem core (A : Option Addr) (c : Nat) (l : List UInt8) (KA : Option Addr) (kc : Nat) (ks : List Int) (SA : Option Addr) (sc : Nat) (ss : List Int) (W : World) (hA : A = none → c = 0) (hcap : l.length ≤ c) (hm : l.length ≤ maxLen) (hs : Bs W W.heap.size A l)
    (hK : Rd W W.heap.size 1 KA ks.length (ks.map fun z => .int .u8 z)) (hkw : ∀ z ∈ ks, 0 ≤ z ∧ z ≤ 255) (hS : Rd W W.heap.size 1 SA ss.length (ss.map fun z => .int .i64 z)) (hkl : ks.length ≤ maxLen) (hsl : ss.length ≤ maxLen) :
    Calls Try.prog 4 #[.slice A l.length c, .slice KA ks.length kc, .slice SA ss.length sc] W fun e w' => e = .returned (.bool true) ∧ Below W.heap.size W w' := by
  obtain ⟨l1, hl1, HB⟩ : ∃ l1 : List UInt8, l1.length ≤ 200 ∧ Calls Try.prog 17 #[.slice A l.length c, .int .i64 200] W (RetBytes l1 W) :=
    ⟨l.take 200, by simp; omega, Bytes_law A c W.heap.size l 200 _ (Or.inr (by omega)) hcap hm hA (Nat.le_refl _) hs⟩
  have HB0 := Lib.hid HB
  have HKs := Lib.hid hK
  have HSs := Lib.hid hS
  have Hkw := Lib.hid hkw
  clear HB hs hA hcap hK hS hkw
  unfold maxLen at hkl hsl
  go_enter Try.func4, Try.ntmps4
  go_wp2_with fail
  refine HB0.out.mono ?_; rintro e w1 ⟨A1, k1, rfl, g2, g3, g4, g5, g6, g7⟩
  have hWB : W.heap.size ≤ w1.heap.size := g6.size
  have HW := Lib.hid g6
  have HB1 := Lib.hid (bytes_same A1 k1 w1.heap.size l1 w1 hl1 g3 g2 (Nat.le_refl _) g5)
  have HA1 := Lib.hid (show (A1 = none → k1 = 0) ∧ l1.length ≤ k1 ∧ k1 ≤ maxLen ∧ l1.length ≤ 200 ∧ Bs w1 w1.heap.size A1 l1 from ⟨g2, g3, g4, hl1, g5⟩)
  clear g2 g3 g4 g5 g6 g7 HB0
  go_wp2_with fail
  refine HB1.out.mono ?_; rintro e w2 ⟨A2, k2, rfl, g2, g3, g4, g5, g6, g7⟩
  have HN := Lib.hid (New_any A2 k2 w2.heap.size l1 w2 (by omega) g2 (Nat.le_refl _) g5)
  have H2 := Lib.hid g6
  clear g2 g3 g4 g5 g6 g7 HB1
  go_wp2_with fail
  refine HN.out.mono ?_; rintro e w3 ⟨⟨r, rfl, hr0, hr⟩, hb3⟩
  have h13 := H2.out.trans (hb3.mono H2.out.size)
  have hBr : w1.heap.size ≤ r := Nat.le_trans H2.out.size hr0
  have HI : Hid (Inv W w3 w1.heap.size r A1 k1 l1 false) := ⟨HA1.out.1, HA1.out.2.1, HA1.out.2.2.1, HA1.out.2.2.2.1, HA1.out.2.2.2.2.below h13 (Nat.le_refl _), hr, HW.out.trans (h13.mono hWB)⟩
  clear HN H2 hb3 h13 hr hr0 HA1
  go_wp2_with fail
  go_loopw [8, 9, 10, 11, 12, 13, 14, 15, 16] (fun left bad i _ _ _ _ _ _ wr => ∃ (j : Nat) (A : Option Addr) (c : Nat) (q : List UInt8) (bd : Bool), i = .int .i64 j ∧ left = .slice A q.length c ∧ bad = .bool bd ∧ j ≤ 60 ∧ Inv W wr w1.heap.size r A c q bd) (fun _ _ i _ _ _ _ _ _ _ => 60 - (intOf i).toNat)
  case atStart => exact ⟨0, A1, k1, l1, false, rfl, rfl, rfl, by omega, HI.out⟩
  case round =>
    obtain ⟨j, A, c, q, bd, rfl, rfl, rfl, hj, hI⟩ := hrel
    have HI := Lib.hid hI
    clear hI
    have HL := Lib.hid (lives_any wr)
    by_cases hin : ¬ (j < ks.length ∧ j < ss.length ∧ j < 60)
    · have hex : ∀ w', Below wr.heap.size wr w' → Below W.heap.size W w' := fun w' h => HI.out.2.2.2.2.2.2.trans (h.mono HI.out.2.2.2.2.2.2.size)
      have Hex := Lib.hid hex
      clear hex
      by_cases c1 : j < ks.length
      · by_cases c2 : j < ss.length
        · have c3 : ¬ j < 60 := fun h => hin ⟨c1, c2, h⟩
          clear hin
          go_wp2_with fail
          refine HL.out.mono ?_; rintro e w' ⟨rfl, hb⟩
          have HF := Lib.hid (Hex.out _ hb)
          clear hb
          go_wp2_with fail
          go_ret
          exact ⟨rfl, HF.out⟩
        · clear hin
          go_wp2_with fail
          refine HL.out.mono ?_; rintro e w' ⟨rfl, hb⟩
          have HF := Lib.hid (Hex.out _ hb)
          clear hb
          go_wp2_with fail
          go_ret
          exact ⟨rfl, HF.out⟩
      · clear hin
        go_wp2_with fail
        refine HL.out.mono ?_; rintro e w' ⟨rfl, hb⟩
        have HF := Lib.hid (Hex.out _ hb)
        clear hb
        go_wp2_with fail
        go_ret
        exact ⟨rfl, HF.out⟩
    · obtain ⟨c1, c2, c3⟩ := Decidable.not_not.1 hin
      clear HL hin
      have hbw := HI.out.2.2.2.2.2.2
      obtain ⟨kb, ko, ku, rfl, hkb, hku, hkc⟩ := Rd.at_ (HKs.out.below hbw (Nat.le_refl _)) c1
      obtain ⟨sb, so, su, rfl, hsb, hsu, hsc⟩ := Rd.at_ (HSs.out.below hbw (Nat.le_refl _)) c2
      rw [List.getElem?_map, List.getElem?_eq_getElem c1] at hku
      rw [List.getElem?_map, List.getElem?_eq_getElem c2] at hsu
      simp only [Option.map_some, Option.some.injEq] at hku hsu
      subst hku hsu
      have hkv := Hkw.out _ (List.getElem_mem c1)
      generalize ks[j] = kv at hkc hkv
      generalize ss[j] = sv at hsc
      have hq := HI.out.2.2.2.1
      have hkc6 : 0 ≤ kv % 6 ∧ kv % 6 ≤ 5 := by omega
      clear hbw
      go_upto_region 8 with fail
      generalize kv % 6 = kk at hkc6 ⊢
      clear hkc hkv
      go_upto_if 49 with fail
      go_cut [11] (fun s11 wx => s11 = .int .i64 (nk kk sv) ∧ wx = wr)
      case first =>
        by_cases h0 : kk = 0
        · obtain rfl : kk = 0 := h0
          go_wp2_with fail
          go_meet
          exact ⟨rfl, rfl⟩
        · by_cases h1 : kk = 1
          · obtain rfl : kk = 1 := h1
            go_wp2_with fail
            go_meet
            exact ⟨rfl, rfl⟩
          · by_cases h2 : kk = 2
            · obtain rfl : kk = 2 := h2
              go_wp2_with fail
              go_meet
              exact ⟨rfl, rfl⟩
            · have hn : nk kk sv = sv := by unfold nk; rw [if_neg h0, if_neg h1, if_neg h2]
              have d0 : 3 ≤ kk := by omega
              have d1 : decide (kk < 3) = false := by simp; omega
              try rw [d1]
              have Hn := Lib.hid hn
              clear h0 h1 h2 hn
              go_wp2_with fail
              go_meet
              exact ⟨by rw [Hn.out], rfl⟩
      case rest =>
      obtain ⟨rfl, hwc⟩ := hcut
      subst hwc
      have Hnk : Hid (kk < 3 → nk kk sv = if kk = 0 then 1 else if kk = 1 then 2 else 4) := by
        intro h; unfold nk; split; rfl; split; rfl; rw [if_pos (by omega)]
      generalize nk kk sv = n1 at *
      go_upto_if 54 with fail
      go_cut [11] (fun s11 wx => s11 = .int .i64 (nq kk n1 q.length) ∧ wx = wc)
      case first =>
        by_cases h0 : kk = 5
        · obtain rfl : kk = 5 := h0
          go_wp2_with fail
          go_meet
          exact ⟨rfl, rfl⟩
        · have hn : nq kk n1 q.length = n1 := by unfold nq; rw [if_neg h0]
          have d1 : (kk == 5) = false := by simpa using h0
          have Hn := Lib.hid hn
          clear h0 hn
          go_wp2_with fail
          go_meet
          exact ⟨by rw [Hn.out], rfl⟩
      case rest =>
      obtain ⟨rfl, hwc⟩ := hcut
      subst hwc
      have Hnq : Hid ((kk = 5 → nq kk n1 q.length = q.length) ∧ (kk < 3 → nq kk n1 q.length = if kk = 0 then 1 else if kk = 1 then 2 else 4)) := by
        refine ⟨fun h => by unfold nq; rw [if_pos h], fun h => ?_⟩
        unfold nq; rw [if_neg (by omega)]; exact Hnk.out h
      clear Hnk
      generalize nq kk n1 q.length = nn at *
      go_upto_region 12 with fail
      go_cut [13] (fun s13 wx => s13 = .bool (!rok q bd nn) ∧ wx = wc)
      case first =>
        cases bd
        · by_cases a1 : nn < 0
          · have d1 : decide (nn < 0) = true := by simpa using a1
            go_wp2_with fail
            go_meet
            exact ⟨by rw [rok_no q false nn (fun h => by have := h.2.1; omega)]; rfl, rfl⟩
          · by_cases a2 : (q.length : Int) < nn
            · have d1 : decide (nn < 0) = false := by simpa using a1
              have d2 : decide ((q.length : Int) < nn) = true := by simpa using a2
              go_wp2_with fail
              go_meet
              exact ⟨by rw [rok_no q false nn (fun h => by have := h.2.2; omega)]; rfl, rfl⟩
            · have d1 : decide (nn < 0) = false := by simpa using a1
              have d2 : decide ((q.length : Int) < nn) = false := by simpa using a2
              go_wp2_with fail
              go_meet
              exact ⟨by rw [(rok_iff q false nn).2 ⟨rfl, by omega, by omega⟩]; rfl, rfl⟩
        · go_wp2_with fail
          go_meet
          exact ⟨by rw [rok_no q true nn (fun h => by cases h.1)]; rfl, rfl⟩
      case rest =>
      obtain ⟨rfl, hwc⟩ := hcut
      obtain ⟨wr, rfl⟩ : ∃ w, w = wc := ⟨_, rfl⟩
      subst hwc
      have hlt := HI.out.2.2.2.2.2.1.lt
      have hB0 : w1.heap.size ≤ wr.heap.size := by omega
      go_upto_if 70 with fail
      go_cut [8, 9, 13, 14] (fun s8 s9 s13 s14 wx => s13 = .bool (!rok q bd nn) ∧ ∃ (LA : Option Addr) (LC : Nat) (WA : Option Addr) (WC : Nat), s8 = .slice LA (rleft q bd nn).length LC ∧ s9 = .bool (!rok q bd nn) ∧ s14 = .slice WA (rget q bd nn).length WC ∧ (LA = none → LC = 0) ∧ (rleft q bd nn).length ≤ LC ∧ LC ≤ maxLen ∧ Bs wx w1.heap.size LA (rleft q bd nn) ∧ Bs wx w1.heap.size WA (rget q bd nn) ∧ Below wr.heap.size wr wx)
      case first =>
        by_cases hok : rok q bd nn = true
        · obtain ⟨A', c', hs1, hs2, ha', hc1', hc2', hbs⟩ := halves A c q bd nn HI.out.1 HI.out.2.1 HI.out.2.2.1 hok
          obtain ⟨rfl, hn0, hn1⟩ := (rok_iff _ _ _).1 hok
          have hal : ∀ m, Below wr.heap.size wr ((wr.alloc (.cells #[] 5)).drewN m) := fun m => ⟨rfl, rfl, rfl, by simp, fun b hb => Below.heap_alloc wr _ b hb⟩
          have hbd : (!rok q false nn) = false := by rw [hok]; rfl
          have HF := Lib.hid (show ∀ m, (A' = none → c' = 0) ∧ (rleft q false nn).length ≤ c' ∧ c' ≤ maxLen ∧ Bs ((wr.alloc (.cells #[] 5)).drewN m) w1.heap.size A' (rleft q false nn) ∧ Bs ((wr.alloc (.cells #[] 5)).drewN m) w1.heap.size A (rget q false nn) ∧ Below wr.heap.size wr ((wr.alloc (.cells #[] 5)).drewN m) from fun m => ⟨ha', hc1', hc2', ((hbs wr w1.heap.size HI.out.2.2.2.2.1).2).below ((hal m).mono hB0) (Nat.le_refl _), ((hbs wr w1.heap.size HI.out.2.2.2.2.1).1).below ((hal m).mono hB0) (Nat.le_refl _), hal m⟩)
          rw [hbd]
          try rw [hok]
          clear hok hbs ha' hc1' hc2' hn0 hn1 hal
          have Hbd := Lib.hid hbd
          clear hbd
          go_wp2_with fail
          go_quiet (fail)
          go_wp2_with fail
          go_meet
          exact ⟨by rw [Hbd.out], A', c', A, c, rfl, by rw [Hbd.out], rfl, HF.out _⟩
        · have hok' : rok q bd nn = false := by simpa using hok
          have hal : Below wr.heap.size wr ((wr.alloc (.cells #[] 5)).alloc (.cells #[] 5)) := ((Below.refl _ _).alloc (Nat.le_refl _) _).alloc (by simp) _
          have eg : rget q bd nn = [] := by unfold rget; rw [if_neg hok]
          have el : rleft q bd nn = [] := by unfold rleft; rw [if_neg hok]
          have hbd : (!rok q bd nn) = true := by rw [hok']; rfl
          have HF : Hid (Value.bool true = .bool (!rok q bd nn) ∧ ∃ (LA : Option Addr) (LC : Nat) (WA : Option Addr) (WC : Nat), Value.slice (some ⟨wr.heap.size + 1, 0, none⟩) 0 0 = .slice LA (rleft q bd nn).length LC ∧ Value.bool true = .bool (!rok q bd nn) ∧ Value.slice (some ⟨wr.heap.size, 0, none⟩) 0 0 = .slice WA (rget q bd nn).length WC ∧ (LA = none → LC = 0) ∧ (rleft q bd nn).length ≤ LC ∧ LC ≤ maxLen ∧ Bs ((wr.alloc (.cells #[] 5)).alloc (.cells #[] 5)) w1.heap.size LA (rleft q bd nn) ∧ Bs ((wr.alloc (.cells #[] 5)).alloc (.cells #[] 5)) w1.heap.size WA (rget q bd nn) ∧ Below wr.heap.size wr ((wr.alloc (.cells #[] 5)).alloc (.cells #[] 5))) := by
            rw [Hid, eg, el, hbd]
            exact ⟨rfl, _, _, _, _, rfl, rfl, rfl, (fun h => by cases h), Nat.le_refl _, Nat.zero_le _, Rd.nil _ _ _ _, Rd.nil _ _ _ _, hal⟩
          rw [hbd]
          try rw [hok']
          clear hok hok' hal eg el hbd
          go_wp2_with fail
          go_meet
          exact HF.out
      case rest =>
      obtain ⟨rfl, LA, LC, WA, WC, rfl, rfl, rfl, x1, x2, x3, x4, x5, x6⟩ := hcut
      have HBW := Lib.hid x5
      have HR := Lib.hid (HI.out.2.2.2.2.2.1.below x6 hlt)
      have HE : Hid (∀ wy, Below w1.heap.size wc wy → Rdr wy r (rleft q bd nn) (!rok q bd nn) → Inv W wy w1.heap.size r LA LC (rleft q bd nn) (!rok q bd nn)) := fun wy h1 h2 => ⟨x1, x2, x3, Nat.le_trans (rleft_len _ _ _) hq, x4.below h1 (Nat.le_refl _), h2, (HI.out.2.2.2.2.2.2.trans (x6.mono HI.out.2.2.2.2.2.2.size)).trans (h1.mono hWB)⟩
      have hsz : w1.heap.size ≤ wc.heap.size := Nat.le_trans hB0 x6.size
      clear x1 x2 x3 x4 x5 x6 HI
      go_upto_block 2 with fail
      have HK := Lib.hid (Below.refl w1.heap.size wc)
      go_cut [15, 16] (fun s15 s16 wx => s15 = .bool true ∧ Below w1.heap.size wc wx ∧ Rdr wx r (rleft q bd nn) (!rok q bd nn))
      case first =>
        obtain h6 | h6 | h6 | h6 | h6 | h6 : kk = 0 ∨ kk = 1 ∨ kk = 2 ∨ kk = 3 ∨ kk = 4 ∨ kk = 5 := by omega
        · obtain rfl : kk = 0 := h6
          obtain rfl : nn = 1 := by have := Hnq.out.2 (by omega); simpa using this
          have HU := Lib.hid (u8_any r q bd _ HR.out)
          have hnl : num (rget q bd 1) < 4294967296 := number_lt q bd 1 (by omega)
          have hwl : (rget q bd 1).length ≤ 4 := Nat.le_trans (rget_le q bd 1) (by omega)
          have hwr : IntKind.i64.wrap (num (rget q bd 1) : Int) = num (rget q bd 1) := IntWalk.i64_in _ (by omega)
          have hwr2 : wrap64 (num (rget q bd 1) : Int) = num (rget q bd 1) := IntWalk.wrap64_in _ ⟨by omega, by omega⟩
          have Hwl := Lib.hid hwl
          clear hnl hwl Hnq
          go_wp2_with fail
          refine HU.out.mono ?_; rintro e w4 ⟨rfl, hr4, hg4⟩
          have HK := Lib.hid (HK.out.trans (below_grown hg4 hsz (fun g' h => by cases h; exact hBr)))
          have HR := Lib.hid hr4
          have HNum := Lib.hid (Num_any WA WC w1.heap.size (rget q bd 1) w4 Hwl.out (HBW.out.below HK.out (Nat.le_refl _)))
          clear hr4 hg4 HU
          go_wp2_with fail
          refine HNum.out.mono ?_; rintro e w' ⟨rfl, rfl⟩
          go_wp2_with fail
          go_meet
          exact ⟨rfl, HK.out, HR.out⟩
        · obtain rfl : kk = 1 := h6
          obtain rfl : nn = 2 := by have := Hnq.out.2 (by omega); simpa using this
          have HU := Lib.hid (u16_any r q bd _ HR.out)
          have hnl : num (rget q bd 2) < 4294967296 := number_lt q bd 2 (by omega)
          have hwl : (rget q bd 2).length ≤ 4 := Nat.le_trans (rget_le q bd 2) (by omega)
          have hwr : IntKind.i64.wrap (num (rget q bd 2) : Int) = num (rget q bd 2) := IntWalk.i64_in _ (by omega)
          have hwr2 : wrap64 (num (rget q bd 2) : Int) = num (rget q bd 2) := IntWalk.wrap64_in _ ⟨by omega, by omega⟩
          have Hwl := Lib.hid hwl
          clear hnl hwl Hnq
          go_wp2_with fail
          refine HU.out.mono ?_; rintro e w4 ⟨rfl, hr4, hg4⟩
          have HK := Lib.hid (HK.out.trans (below_grown hg4 hsz (fun g' h => by cases h; exact hBr)))
          have HR := Lib.hid hr4
          have HNum := Lib.hid (Num_any WA WC w1.heap.size (rget q bd 2) w4 Hwl.out (HBW.out.below HK.out (Nat.le_refl _)))
          clear hr4 hg4 HU
          go_wp2_with fail
          refine HNum.out.mono ?_; rintro e w' ⟨rfl, rfl⟩
          go_wp2_with fail
          go_meet
          exact ⟨rfl, HK.out, HR.out⟩
        · obtain rfl : kk = 2 := h6
          obtain rfl : nn = 4 := by have := Hnq.out.2 (by omega); simpa using this
          have HU := Lib.hid (u32_any r q bd _ HR.out)
          have hnl : num (rget q bd 4) < 4294967296 := number_lt q bd 4 (by omega)
          have hwl : (rget q bd 4).length ≤ 4 := Nat.le_trans (rget_le q bd 4) (by omega)
          have Hwl := Lib.hid hwl
          clear hnl hwl Hnq
          go_wp2_with fail
          refine HU.out.mono ?_; rintro e w4 ⟨rfl, hr4, hg4⟩
          have HK := Lib.hid (HK.out.trans (below_grown hg4 hsz (fun g' h => by cases h; exact hBr)))
          have HR := Lib.hid hr4
          have HNum := Lib.hid (Num_any WA WC w1.heap.size (rget q bd 4) w4 Hwl.out (HBW.out.below HK.out (Nat.le_refl _)))
          clear hr4 hg4 HU
          go_wp2_with fail
          refine HNum.out.mono ?_; rintro e w' ⟨rfl, rfl⟩
          go_wp2_with fail
          go_meet
          exact ⟨rfl, HK.out, HR.out⟩
        · obtain rfl : kk = 3 := h6
          clear Hnq
          have HR := Lib.hid (rdr_drew HR.out)
          have HK := Lib.hid HK.out.drew
          have HU := Lib.hid (Take_any r q bd nn _ (by omega) HR.out)
          have HS : Hid (∀ w, Below w1.heap.size wc w → (convert 26 9 (.slice WA (rget q bd nn).length WC)).run Try.prog w = .ok (.string ⟨(rget q bd nn).toArray⟩) w) := fun w h => run_str (HBW.out.below h (Nat.le_refl _))
          go_wp2_with fail
          have hc0 := HS.out _ HK.out
          go_region_with (first
            | (go_at_call 23; refine (HU.out).mono ?_; rintro e w4 ⟨A4, c4, rfl, d2, d3, d4, d5, hr4, hg4⟩; have HK := Lib.hid (HK.out.trans (below_grown hg4 hsz (fun g' h => by cases h; exact hBr))); have HR := Lib.hid hr4; have hc1 := HS.out _ HK.out; have hstr := run_str (c := c4) d5; clear d2 d3 d4 d5 hr4 hg4))
          all_goals (
            go_wp2_with fail
            go_meet
            exact ⟨rfl, HK.out, HR.out⟩)
        · obtain rfl : kk = 4 := by omega
          clear Hnq
          have HU := Lib.hid (Part_any r q bd nn _ (by omega) HR.out)
          have HS : Hid (∀ w, Below w1.heap.size wc w → (convert 26 9 (.slice WA (rget q bd nn).length WC)).run Try.prog w = .ok (.string ⟨(rget q bd nn).toArray⟩) w) := fun w h => run_str (HBW.out.below h (Nat.le_refl _))
          have Hwl := Lib.hid (Nat.le_trans (rget_len q bd nn) hq)
          have HGA := Lib.hid (rget_all q bd nn)
          have hsz0 : r < wc.heap.size := HR.out.lt
          go_wp2_with fail
          refine HU.out.mono ?_; rintro e w4 ⟨⟨p, rfl, hp0, hp⟩, hr4, hg4⟩
          have HK := Lib.hid ((HK.out.trans (below_grown hg4 hsz (fun g' h => by cases h; exact hBr))).drew)
          have HR := Lib.hid (rdr_drew hr4)
          have HP := Lib.hid (rdr_drew hp)
          have hrp : r < p := Nat.lt_of_lt_of_le hsz0 hp0
          have hsz4 : w1.heap.size ≤ w4.drew.heap.size := Nat.le_trans hsz hg4.size
          have hre := Rest_any p (rget q bd nn) (!rok q bd nn) w4.drew (by have := Hwl.out; omega) HP.out
          rw [HGA.out] at hre
          have HRest := Lib.hid hre
          clear hre hp hp0 hr4 hg4 HU hsz0
          go_wp2_with fail
          have hc0 := HS.out _ HK.out
          go_region_with (first
            | (go_at_call 25; refine (Bad_any p (rget q bd nn) (!rok q bd nn) _ (by exact HP.out)).mono ?_; rintro e w' ⟨rfl, rfl⟩)
            | (go_at_call 26; refine (Left_any p (rget q bd nn) (!rok q bd nn) _ (by exact HP.out)).mono ?_; rintro e w' ⟨rfl, rfl⟩)
            | (go_at_call 27; refine (HRest.out).mono ?_; rintro e w5 ⟨A4, c4, rfl, d2, d3, d4, d5, hp5, hg5⟩; have HK := Lib.hid (HK.out.trans (below_grown hg5 hsz4 (fun g' h => by cases h; omega))); have HR := Lib.hid (HR.out.grown hg5 hrp); have hc1 := HS.out _ HK.out; have hstr := run_str (c := c4) d5; clear d2 d3 d4 d5 hp5 hg5))
          all_goals (
            go_wp2_with fail
            go_meet
            exact ⟨rfl, HK.out, HR.out⟩)
        · obtain rfl : kk = 5 := h6
          obtain rfl : nn = q.length := Hnq.out.1 rfl
          clear Hnq
          have HR := Lib.hid (rdr_drew HR.out)
          have HK := Lib.hid HK.out.drew
          have HU := Lib.hid (Rest_any r q bd _ (by omega) HR.out)
          have HS : Hid (∀ w, Below w1.heap.size wc w → (convert 26 9 (.slice WA (rget q bd q.length).length WC)).run Try.prog w = .ok (.string ⟨(rget q bd q.length).toArray⟩) w) := fun w h => run_str (HBW.out.below h (Nat.le_refl _))
          go_wp2_with fail
          have hc0 := HS.out _ HK.out
          go_region_with (first
            | (go_at_call 27; refine (HU.out).mono ?_; rintro e w4 ⟨A4, c4, rfl, d2, d3, d4, d5, hr4, hg4⟩; have HK := Lib.hid (HK.out.trans (below_grown hg4 hsz (fun g' h => by cases h; exact hBr))); have HR := Lib.hid hr4; have hc1 := HS.out _ HK.out; have hstr := run_str (c := c4) d5; clear d2 d3 d4 d5 hr4 hg4))
          all_goals (
            go_wp2_with fail
            go_meet
            exact ⟨rfl, HK.out, HR.out⟩)
      case rest =>
      clear HK
      obtain ⟨wv, rfl⟩ : ∃ w, w = wc := ⟨_, rfl⟩
      obtain ⟨rfl, hk5, hr5⟩ := hcut
      have HK := Lib.hid hk5
      have HR := Lib.hid hr5
      clear hk5 hr5
      go_wp2_with fail
      refine (Left_any r (rleft q bd nn) _ _ HR.out).mono ?_; rintro e w' ⟨rfl, rfl⟩
      go_wp2_with fail
      refine (Bad_any r (rleft q bd nn) _ _ HR.out).mono ?_; rintro e w' ⟨rfl, rfl⟩
      go_wp2_with fail
      go_roundw
      case rel => exact ⟨j + 1, LA, LC, (rleft q bd nn), (!rok q bd nn), by go_num, rfl, rfl, by omega, HE.out _ HK.out HR.out⟩
      case measure => simp [intOf]; omega

set_option maxRecDepth 100000 in
theorem walk {H : Type} {enc : TypeId × Value → H} {W : World} {base : Nat} {v0 v1 v2 : Value} {d0 d1 d2 : DataW H} {p0 p1 p2 : List MemPlace}
    (hv0 : Value.okWide Try.prog W .any base 26 v0) (h0 : DataW.Trod enc Try.prog W 0 (fun _ => true) true 26 v0 d0 p0)
    (hv1 : Value.okWide Try.prog W .any base 26 v1) (h1 : DataW.Trod enc Try.prog W 0 (fun _ => true) true 26 v1 d1 p1)
    (hv2 : Value.okWide Try.prog W .any base 27 v2) (h2 : DataW.Trod enc Try.prog W 0 (fun _ => true) true 27 v2 d2 p2) :
    Calls Try.prog 4 #[v0, v1, v2] W fun e w' => e = .returned (.bool true) ∧ Below W.heap.size W w' := by
  obtain ⟨A, c, l, rfl, hA, hcap, hm, hs⟩ := open_bytes Try.underlying26 Try.underlying5 (by kernel_rfl) hv0 h0
  obtain ⟨KA, kc, ks, rfl, _, hkc, hkm, hK, hkw⟩ := open_row Try.underlying26 Try.underlying5 (by kernel_rfl) hv1 h1
  obtain ⟨SA, sc, ss, rfl, _, hsc, hsm, hS, _⟩ := open_row Try.underlying27 Try.underlying3 (by kernel_rfl) hv2 h2
  exact core A c l KA kc ks SA sc ss W hA hcap (by omega) hs hK (fun z hz => wf_u8 (hkw z hz)) hS (by omega) (by omega)

end Go.Proofs.Ytajilbapjpfloaa.octetReads
