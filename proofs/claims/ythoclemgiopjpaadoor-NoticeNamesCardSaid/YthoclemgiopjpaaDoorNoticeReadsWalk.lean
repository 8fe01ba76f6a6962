/- The walk of the law NoticeReads: the Go text returns true and writes nothing that was there. No condition. -/
import Derived.Test.YthoclemgiopjpaaDoorNoticeLives
import Derived.Test.YthoclemgiopjpaaDoorOpen
import Derived.Test.YthoclemgiopjpaaDoorSlice
import Derived.Deep.DeepCutAuto
import Derived.IntWalk
import Derived.Deep.QuietTactic
import Derived.Deep.CutBlock
import Derived.BigQuiet
namespace Go.Proofs.YthoclemgiopjpaaDoor.noticeReads
open Go.RowKit Go.Proofs.YthoclemgiopjpaaDoor.kit Go.Proofs.YthoclemgiopjpaaDoor.mem Go.Proofs.YthoclemgiopjpaaDoor.foot Go.Proofs.YthoclemgiopjpaaDoor.octet Go.Proofs.YthoclemgiopjpaaDoor.told Go.Proofs.YthoclemgiopjpaaDoor.notice
set_option linter.unusedVariables false

theorem Decode_two (A : Option Addr) (k B : Nat) (a b : UInt8) (t : List UInt8) (w : World) (hl : t.length ≤ 4075) (hA : A = none → k = 0) (hB : B ≤ w.heap.size) (hs : Bs w B A (a :: b :: t)) :
    Calls Tryd.prog 12 #[.slice A (t.length + 1 + 1) k] w fun e w' => ∃ A' k', e = .returned (decV (decide (1 ≤ (a.toNat : Int))) a.toNat b.toNat A' t.length k') ∧ (A' = none → k' = 0) ∧ t.length ≤ k' ∧ k' ≤ maxLen ∧ (1 ≤ a.toNat → Bs w' w'.heap.size A' t) ∧ Below w.heap.size w w' := by
  have hb := b.toNat_lt
  have ha := a.toNat_lt
  have r1 : ∀ (c : UInt8) (u : List UInt8), rok (c :: u) false 1 = true := fun c u => (rok_iff _ _ _).2 ⟨rfl, by omega, by simp; omega⟩
  have r2 : rok t false t.length = true := (rok_iff _ _ _).2 ⟨rfl, by omega, by simp⟩
  have H := Decode_walk A k B (a :: b :: t) (b :: t) t [] t false false false a.toNat b.toNat w (by simp; omega) hA hB hs
    (by simp [rget, r1, num]) (by simp [rleft, r1]) (by simp [r1]) (by simp [rget, r1, num]) (by simp [rleft, r1]) (by simp [r1]) (by simp [rget, r2])
  refine H.mono ?_
  rintro e w' ⟨A', k', rfl, h1, h2, h3, h4, h5⟩
  have hg : goodB a.toNat b.toNat t.length = decide (1 ≤ (a.toNat : Int)) := by
    unfold goodB
    rw [Bool.eq_iff_iff]
    simp
    omega
  rw [hg] at h4 ⊢
  exact ⟨A', k', rfl, h1, h2, h3, fun h => h4 (by simp; omega), h5⟩

theorem Decode_less (A : Option Addr) (k B : Nat) (l : List UInt8) (w : World) (hl : l.length < 2) (hA : A = none → k = 0) (hB : B ≤ w.heap.size) (hs : Bs w B A l) :
    Calls Tryd.prog 12 #[.slice A l.length k] w fun e w' => e = .returned (.tuple #[.agg #[.int .i64 0, .int .i64 0, .slice none 0 0], .bool false]) ∧ Below w.heap.size w w' := by
  match l, hl with
  | [], _ =>
    refine (Decode_walk A k B [] [] [] [] [] true true true 0 0 w (by simp) hA hB hs (by decide) (by decide) (by decide) (by decide) (by decide) (by decide) (by decide)).mono ?_
    rintro e w' ⟨A', k', rfl, _, _, _, _, h5⟩
    exact ⟨rfl, h5⟩
  | [a], _ =>
    have r1 : rok [a] false 1 = true := (rok_iff _ _ _).2 ⟨rfl, by omega, by simp⟩
    refine (Decode_walk A k B [a] [] [] [] [] false true true a.toNat 0 w (by simp) hA hB hs (by simp [rget, r1, num]) (by simp [rleft, r1]) (by simp [r1]) (by decide) (by decide) (by decide) (by decide)).mono ?_
    rintro e w' ⟨A', k', rfl, _, _, _, _, h5⟩
    exact ⟨rfl, h5⟩

set_option maxRecDepth 100000 in
theorem core (A : Option Addr) (c : Nat) (l : List UInt8) (W : World) (hA : A = none → c = 0) (hcap : l.length ≤ c) (hm : l.length ≤ maxLen) (hs : Bs W W.heap.size A l) :
    Calls Tryd.prog 4 #[.slice A l.length c] W fun e w' => e = .returned (.bool true) ∧ Below W.heap.size W w' := by
  have HC := Lib.hid (Bytes_law A c W.heap.size l 300 W (Or.inr (by omega)) hcap (by omega) hA (Nat.le_refl _) hs)
  clear hs hA hcap hm
  go_enter Tryd.func4, Tryd.ntmps4
  go_wp2_with fail
  refine HC.out.mono ?_; rintro e w1 ⟨A1, c1, rfl, g2, g3, g4, g5, g6, g7⟩
  have hq : (l.take 300).length ≤ 300 := by simp; omega
  generalize l.take 300 = q at *
  have HS1 : Hid (Bs w1 w1.heap.size A1 q ∧ (A1 = none → c1 = 0) ∧ q.length ≤ c1 ∧ c1 ≤ maxLen) := ⟨g5, g2, g3, g4⟩
  have HB1 := Lib.hid g6
  clear g2 g3 g4 g5 g6 g7 HC
  go_wp2_with fail
  refine (Bytes_law A1 c1 w1.heap.size q 300 w1 (Or.inr (by omega)) HS1.out.2.2.1 (Nat.le_trans HS1.out.2.2.1 HS1.out.2.2.2) HS1.out.2.1 (Nat.le_refl _) HS1.out.1).mono ?_; rintro e w2 ⟨A2, c2, rfl, g2, g3, g4, g5, g6, g7⟩
  rw [List.take_of_length_le hq] at g3 g5
  rw [List.take_of_length_le hq]
  have HS2 : Hid (Bs w2 w2.heap.size A2 q ∧ (A2 = none → c2 = 0) ∧ q.length ≤ c2 ∧ c2 ≤ maxLen) := ⟨g5, g2, g3, g4⟩
  have HQ2 : Hid (Bs w2 w1.heap.size A1 q ∧ w1.heap.size ≤ w2.heap.size) := ⟨HS1.out.1.below g6 (Nat.le_refl _), g6.size⟩
  have HB2 := Lib.hid (HB1.out.trans (g6.mono HB1.out.size))
  clear g2 g3 g4 g5 g6 g7 HB1
  by_cases hn : q.length < 2
  · go_wp2_with fail
    refine (Decode_less A2 c2 w2.heap.size q w2 hn HS2.out.2.1 (Nat.le_refl _) HS2.out.1).mono ?_; rintro e w3 ⟨rfl, hb3⟩
    have HB3 := Lib.hid (HB2.out.trans (hb3.mono HB2.out.size))
    clear hb3
    go_wp2_with fail
    refine (Told_yes 0 0 [] none none 0 0 (w3.heap.size + 1) (w3.heap.size + 1) _ (by simp) (by simp) (Rd.nil _ _ _ _) (Rd.nil _ _ _ _)).mono ?_; rintro e w4 ⟨rfl, hb4⟩
    have HB4 := Lib.hid ((HB3.out.alloc HB3.out.size _).trans (hb4.mono (Nat.le_trans HB3.out.size (by simp))))
    clear hb4
    go_wp2_with fail
    refine (lives_any w4).mono ?_; rintro e w5 ⟨rfl, hb5⟩
    have HB5 := Lib.hid (HB4.out.trans (hb5.mono HB4.out.size))
    clear hb5
    go_wp2_with fail
    go_ret
    exact ⟨rfl, HB5.out⟩
  · obtain ⟨a, b, t, rfl⟩ : ∃ a b t, q = a :: b :: t := by
      match q, hn with
      | [], h => exact absurd (by simp) h
      | [_], h => exact absurd (by simp) h
      | a :: b :: t, _ => exact ⟨a, b, t, rfl⟩
    have hb := b.toNat_lt
    have ha := a.toNat_lt
    have ht : t.length ≤ 298 := by simp at hq; omega
    have hs2 := HQ2.out.1
    obtain ⟨bb, oo, rfl, hbb, hc0⟩ := hs2.at_ (k := 0) (by simp)
    obtain ⟨bb', oo', e, hbb', hc1⟩ := hs2.at_ (k := 1) (by simp)
    simp only [Option.some.injEq, Addr.mk.injEq, and_true] at e
    obtain ⟨rfl, rfl⟩ := e
    simp only [List.getElem_cons_zero, List.getElem_cons_succ, Nat.add_zero] at hc0 hc1
    clear hbb'
    have HD := Lib.hid (Decode_two A2 c2 w2.heap.size a b t w2 (by omega) HS2.out.2.1 (Nat.le_refl _) HS2.out.1)
    have h2n : 2 ≤ (a :: b :: t).length := by simp
    have hlen : (a :: b :: t).length = t.length + 1 + 1 := rfl
    have hlt2 : decide ((t.length : Int) + 1 + 1 < 2) = false := by simp; omega
    by_cases h0 : a.toNat = 0
    · have HD := HD.out
      have hd1 : decide (1 ≤ (a.toNat : Int)) = false := by simp; omega
      rw [hd1] at HD
      have hz : ((a.toNat : Int) == 0) = true := by simp [h0]
      have HD := Lib.hid HD
      clear hd1
      go_wp2_with fail
      refine HD.out.mono ?_; rintro e w3 ⟨A3, c3, rfl, g2, g3, g4, g5, g6⟩
      have hc0 := (g6.cell (p := ⟨bb, oo, none⟩) (Nat.lt_of_lt_of_le hbb HQ2.out.2)).trans hc0
      have HB3 := Lib.hid (HB2.out.trans (g6.mono HB2.out.size))
      have hbb3 : bb < w3.heap.size := Nat.lt_of_lt_of_le hbb (Nat.le_trans HQ2.out.2 g6.size)
      clear g2 g3 g4 g5 g6 HD
      unfold decV
      go_wp2_with fail
      refine (Told_yes 0 0 [] none none 0 0 (w3.heap.size + 1) (w3.heap.size + 1) _ (by simp) (by simp) (Rd.nil _ _ _ _) (Rd.nil _ _ _ _)).mono ?_; rintro e w4 ⟨rfl, hb4⟩
      have HB4 := Lib.hid ((HB3.out.alloc HB3.out.size _).trans (hb4.mono (Nat.le_trans HB3.out.size (by simp))))
      clear hb4
      go_wp2_with fail
      refine (lives_any w4).mono ?_; rintro e w5 ⟨rfl, hb5⟩
      have HB5 := Lib.hid (HB4.out.trans (hb5.mono HB4.out.size))
      clear hb5
      go_wp2_with fail
      go_ret
      exact ⟨rfl, HB5.out⟩
    · have HD := HD.out
      have hd1 : decide (1 ≤ (a.toNat : Int)) = true := by simp; omega
      rw [hd1] at HD
      have HD := Lib.hid HD
      go_wp2_with fail
      refine HD.out.mono ?_; rintro e w3 ⟨A3, c3, rfl, g2, g3, g4, g5, g6⟩
      have hc0 := (g6.cell (p := ⟨bb, oo, none⟩) (Nat.lt_of_lt_of_le hbb HQ2.out.2)).trans hc0
      have hc1 := (g6.cell (p := ⟨bb, oo + 1, none⟩) (Nat.lt_of_lt_of_le hbb HQ2.out.2)).trans hc1
      have HS3 := Lib.hid (g5 (by omega))
      have HQ3 : Hid (Bs w3 w1.heap.size (some ⟨bb, oo, none⟩) (a :: b :: t) ∧ w1.heap.size ≤ w3.heap.size) := ⟨HQ2.out.1.below g6 HQ2.out.2, Nat.le_trans HQ2.out.2 g6.size⟩
      have HB3 := Lib.hid (HB2.out.trans (g6.mono HB2.out.size))
      have hbb3 : bb < w3.heap.size := Nat.lt_of_lt_of_le hbb HQ3.out.2
      have hz : ((a.toNat : Int) == 0) = false := by simp; omega
      obtain ⟨A4, c4, x1, x2, x3, x4, x5⟩ := cut_hi (some ⟨bb, oo, none⟩) c1 (t.length + 1 + 1) 2 HS1.out.2.1 HS1.out.2.2.1 HS1.out.2.2.2 (by omega)
      have e2 : t.length + 1 + 1 - 2 = t.length := by omega
      rw [e2] at x4
      have x4 : ∀ w, (Instr.slice 22 (.slice (some ⟨bb, oo, none⟩) (t.length + 1 + 1) c1) (some (.int .i64 2)) none none).run Tryd.prog w = .ok (.slice A4 t.length c4) w := x4
      have wa : IntKind.i64.wrap (a.toNat : Int) = a.toNat := by unfold IntKind.wrap; simp [IntKind.bits, IntKind.signed]; omega
      have wb : IntKind.i64.wrap (b.toNat : Int) = b.toNat := by unfold IntKind.wrap; simp [IntKind.bits, IntKind.signed]; omega
      have i0 : (0 : Int) < (t.length : Int) + 1 + 1 := by omega
      have i1 : (1 : Int) < (t.length : Int) + 1 + 1 := by omega
      have hs4 := x5 w3 w1.heap.size (a :: b :: t) rfl HQ3.out.1
      have HS4 := Lib.hid hs4
      clear g2 g3 g4 g5 g6 HD x1 x2 x3 x5 e2 hs4 hd1
      have hcc : ∀ (v : Value) i, w3.cell? ⟨bb, i, none⟩ = some v → (w3.alloc (.cells #[.int .i64 (a.toNat : Int), .int .i64 (b.toNat : Int), .slice A3 t.length c3] 24)).drew.cell? ⟨bb, i, none⟩ = some v := fun v i h => (((Below.refl w3.heap.size w3).alloc (Nat.le_refl _) _).drew.cell (p := ⟨bb, i, none⟩) hbb3).trans h
      have k0 := hcc _ _ hc0
      have k1 := hcc _ _ hc1
      have HNw : Hid (Bk (w3.alloc (.cells #[.int .i64 (a.toNat : Int), .int .i64 (b.toNat : Int), .slice A3 t.length c3] 24)).drew w3.heap.size 24 #[.int .i64 (a.toNat : Int), .int .i64 (b.toNat : Int), .slice A3 t.length c3]) := Bk.new _ _ _
      have nc := fun i => HNw.out.cell i
      have nl := HNw.out.lt
      have HT := Lib.hid (Told_yes (a.toNat : Int) (b.toNat : Int) t A3 A4 c3 c4 w3.heap.size w1.heap.size (w3.alloc (.cells #[.int .i64 (a.toNat : Int), .int .i64 (b.toNat : Int), .slice A3 t.length c3] 24)).drew (by simp) (Nat.le_trans HQ3.out.2 (by simp)) (HS3.out.below (((Below.refl _ _).alloc (Nat.le_refl _) _).drew) (Nat.le_refl _)) (HS4.out.below (((Below.refl _ _).alloc (Nat.le_refl _) _).drew) HQ3.out.2))
      have hK : ∀ w', Below (w3.heap.size + 1) (w3.alloc (.cells #[.int .i64 (a.toNat : Int), .int .i64 (b.toNat : Int), .slice A3 t.length c3] 24)).drew w' → w'.cell? ⟨w3.heap.size, 0, none⟩ = some (.int .i64 a.toNat) ∧ w'.cell? ⟨w3.heap.size, 1, none⟩ = some (.int .i64 b.toNat) ∧ w'.cell? ⟨w3.heap.size, 2, none⟩ = some (.slice A3 t.length c3) ∧ w'.cell? ⟨bb, oo, none⟩ = some (.int .u8 a.toNat) ∧ w'.cell? ⟨bb, oo + 1, none⟩ = some (.int .u8 b.toNat) := fun w' h => ⟨(h.cell (p := ⟨w3.heap.size, 0, none⟩) (by simp)).trans (nc 0), (h.cell (p := ⟨w3.heap.size, 1, none⟩) (by simp)).trans (nc 1), (h.cell (p := ⟨w3.heap.size, 2, none⟩) (by simp)).trans (nc 2), (h.cell (p := ⟨bb, oo, none⟩) (by simp; omega)).trans k0, (h.cell (p := ⟨bb, oo + 1, none⟩) (by simp; omega)).trans k1⟩
      have HM : Hid (∀ w', Below (w3.alloc (.cells #[.int .i64 (a.toNat : Int), .int .i64 (b.toNat : Int), .slice A3 t.length c3] 24)).drew.heap.size (w3.alloc (.cells #[.int .i64 (a.toNat : Int), .int .i64 (b.toNat : Int), .slice A3 t.length c3] 24)).drew w' → Below (w3.heap.size + 1) (w3.alloc (.cells #[.int .i64 (a.toNat : Int), .int .i64 (b.toNat : Int), .slice A3 t.length c3] 24)).drew w' ∧ Below W.heap.size W w') := fun w' h => ⟨h.mono (by simp), (HB3.out.alloc HB3.out.size _).drew.trans (h.mono (Nat.le_trans HB3.out.size (by simp)))⟩
      have HK := Lib.hid hK
      have hkk := hK _ (Below.refl _ _)
      have HB4 : Hid (Below W.heap.size W (w3.alloc (.cells #[.int .i64 (a.toNat : Int), .int .i64 (b.toNat : Int), .slice A3 t.length c3] 24)).drew) := (HB3.out.alloc HB3.out.size _).drew
      clear hK hcc
      unfold decV
      go_wp2_with fail
      go_region_held3 (fun w' => w'.cell? ⟨w3.heap.size, 0, none⟩ = some (.int .i64 a.toNat) ∧ w'.cell? ⟨w3.heap.size, 1, none⟩ = some (.int .i64 b.toNat) ∧ w'.cell? ⟨w3.heap.size, 2, none⟩ = some (.slice A3 t.length c3) ∧ w'.cell? ⟨bb, oo, none⟩ = some (.int .u8 a.toNat) ∧ w'.cell? ⟨bb, oo + 1, none⟩ = some (.int .u8 b.toNat)) (exact hkk) (first
        | (go_at_call 8; refine HT.out.mono ?_; rintro e w4 ⟨rfl, hb4⟩; go_must (have HK5 := Lib.hid (HM.out _ hb4).1); go_must (have hkk := HK.out _ HK5.out); go_must (have HZ5 : Hid (w3.heap.size + 1 ≤ w4.heap.size) := Nat.le_trans (by simp) HK5.out.size); go_must (have HB5 := Lib.hid (HM.out _ hb4).2); clear hb4)
        | (go_at_call 10; refine (lives_any w4).mono ?_; rintro e w5 ⟨rfl, hb5⟩; go_must (have hkk := HK.out _ (HK5.out.trans (hb5.mono HZ5.out))); go_must (have HB6 := Lib.hid (HB5.out.trans (hb5.mono HB5.out.size))); clear hb5))
      all_goals
        go_wp2_with fail
        go_ret
        exact ⟨rfl, HB6.out⟩

theorem walk {H : Type} {enc : TypeId × Value → H} {W : World} {base : Nat} {v0 : Value} {d0 : DataW H} {p0 : List MemPlace}
    (hv0 : Value.okWide Tryd.prog W .any base 22 v0) (h0 : DataW.Trod enc Tryd.prog W 0 (fun _ => true) true 22 v0 d0 p0) :
    Calls Tryd.prog 4 #[v0] W fun e w' => e = .returned (.bool true) ∧ Below W.heap.size W w' := by
  obtain ⟨A, c, l, rfl, hA, hcap, hm, hs⟩ := open_bytes Tryd.underlying22 Tryd.underlying5 (by kernel_rfl) hv0 h0
  exact core A c l W hA hcap (by unfold maxLen at *; omega) hs
end Go.Proofs.YthoclemgiopjpaaDoor.noticeReads
