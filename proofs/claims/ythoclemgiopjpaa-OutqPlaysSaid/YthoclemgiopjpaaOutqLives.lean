/- What a queue's Next and Clear do; what confluencelaw24.lives returns. Condition: at most 2^40 bytes in all. -/
import Derived.Test.YthoclemgiopjpaaOutqTake
import Derived.Test.YthoclemgiopjpaaOctRef
import Derived.Test.YthoclemgiopjpaaStr
import Derived.Lib.SlBytesConst
namespace Go.Proofs.Ythoclemgiopjpaa.outq
open Go.RowKit Go.Proofs.Ythoclemgiopjpaa.kit Go.Proofs.Ythoclemgiopjpaa.mem Go.Proofs.Ythoclemgiopjpaa.foot Go.Proofs.Ythoclemgiopjpaa.octet
set_option linter.unusedVariables false

theorem Next_none {F : Foot} {q sent : Nat} {most : Int} (w : World) (h : Qu w F q [] most sent) :
    Calls Try.prog 18 #[.pointer (some ⟨q, 0, none⟩)] w fun e w' => e = .returned (.tuple #[.slice none 0 0, .bool false]) ∧ w = w' := by
  obtain ⟨A, c, vs, G, hk, _⟩ := h
  have k1 := hk.cell 1
  simp at k1
  clear hk
  go_enter Try.func18, Try.ntmps18
  go_wp2_with fail
  go_ret2
  exact ⟨rfl, rfl⟩

/-- what Next hands back, if there is any -/
def Nexted (b : List UInt8) (r : List (List UInt8)) (F : Foot) (q : Nat) (most : Int) (sent : Nat) (w : World) (e : Ending) (w' : World) : Prop :=
  ∃ A c, e = .returned (.tuple #[.slice A b.length c, .bool true]) ∧ Own w' 5 1 A b.length c (bv b) ∧ (∀ k, sf A k → w.heap.size ≤ k ∧ ¬ F k) ∧ Qu w' F q r most (sent + b.length) ∧ Chg F w w'

theorem Next_some {F : Foot} {q sent : Nat} {b : List UInt8} {r : List (List UInt8)} {most : Int} (w : World) (hm : sent + (b :: r).flatten.length ≤ 1099511627776) (h : Qu w F q (b :: r) most sent) :
    Calls Try.prog 18 #[.pointer (some ⟨q, 0, none⟩)] w (Nexted b r F q most sent w) := by
  have hb0 : 0 < b.length := List.length_pos_iff.2 (h.ne b (by simp))
  have hlt := h.lt
  have e1 : b.take (b :: r).flatten.length = b := List.take_of_length_le (by simp)
  have e2 : cutQ b r (b :: r).flatten.length = r := by unfold cutQ; rw [if_neg (by simp)]
  have hc := cut_any (b :: r).flatten.length w (by simp; omega) hm h
  have hc2 : Calls Try.prog 37 #[.pointer (some ⟨q, 0, none⟩), .int .i64 ((b :: r).flatten.length : Int)] w fun e w' => ∃ A c, e = .returned (.slice A b.length c) ∧ Nexted b r F q most sent w (.returned (.tuple #[.slice A b.length c, .bool true])) w' := by
    refine hc.mono ?_
    rintro e w' ⟨A, c, rfl, _, h3, h4, h5⟩
    rw [e1] at h3 h4
    rw [e2] at h4
    have ho := Own.of_row h3
    exact ⟨A, c, by rw [e1], A, c, rfl, ho.1, fun k hk => ⟨ho.2 k hk, fun e => by have := hlt k e; have := ho.2 k hk; omega⟩, h4, h5⟩
  have HC := Lib.hid hc2
  obtain ⟨A, c, vs, G, hk, _⟩ := h
  have hpos : 0 < (b :: r).flatten.length := by simp; omega
  have k1 := hk.cell 1
  clear hc hc2 e1 e2 hk hlt
  generalize (b :: r).flatten.length = m at *
  simp at k1
  have d1 : ((m : Int) == 0) = false := by rw [beq_eq_false_iff_ne]; omega
  go_enter Try.func18, Try.ntmps18
  go_wp2_with fail
  refine HC.out.mono ?_
  rintro e w' ⟨A2, c2, rfl, hx⟩
  have HX := Lib.hid hx
  clear hx
  go_wp2_with fail
  go_ret2
  exact HX.out

theorem Clear_any {F : Foot} {q sent : Nat} {l : List (List UInt8)} {most : Int} (w : World) (h : Qu w F q l most sent) :
    Calls Try.prog 19 #[.pointer (some ⟨q, 0, none⟩)] w fun e w' => e = .returned (.int .i64 (l.flatten.length : Int)) ∧ Qu w' F q [] most sent ∧ Chg F w w' := by
  obtain ⟨A, c, vs, G, hk, ho, hb, hne, hF, hA, hG, hlt⟩ := h
  have hC : Chg F w ((w.setCell ⟨q, 0, none⟩ (.slice none 0 0)).setCell ⟨q, 1, none⟩ (.int .i64 0)) := ((Chg.refl F w).put (.inl hF) _).put (.inl hF) _
  have hQ : Qu ((w.setCell ⟨q, 0, none⟩ (.slice none 0 0)).setCell ⟨q, 1, none⟩ (.int .i64 0)) F q [] most sent :=
    ⟨none, 0, [], fun _ => False, (hk.put 0 (.slice none 0 0)).put 1 (.int .i64 0), Own.none_ _ _ _, trivial, (fun _ h => by cases h), hF, fun k hk => absurd hk (sf_none k), fun _ h => h.elim, fun k hk => Nat.lt_of_lt_of_le (hlt k hk) hC.size⟩
  have HC := Lib.hid hC
  have HQ := Lib.hid hQ
  generalize l.flatten.length = m at *
  have k0 := hk.cell 0
  have k1 := hk.cell 1
  have kf := fun i => hk.free i
  simp at k0 k1
  clear hC hQ hk ho hb hne hF hA hG hlt
  go_enter Try.func19, Try.ntmps19
  go_wp2_with fail
  go_ret
  exact ⟨rfl, HQ.out, HC.out⟩

theorem Push_any {F : Foot} {q sent : Nat} {l : List (List UInt8)} {b : List UInt8} {most : Int} {A0 : Option Addr} {c0 B : Nat} (w : World) (hm : 0 ≤ most ∧ most ≤ 16777216) (hl : (l.flatten.length : Int) ≤ most) (hb : b.length ≤ 1099511627776) (hA0 : A0 = none → c0 = 0) (hB : B ≤ w.heap.size) (hs : Bs w B A0 b) (h : Qu w F q l most sent) :
    Calls Try.prog 12 #[.pointer (some ⟨q, 0, none⟩), .slice A0 b.length c0] w (Pushed l b F q most sent w) := by
  rcases pushE_cases l most b with ⟨_, h1, h2⟩ | h1
  · exact Push_yes w hm h1 h2 hA0 hB hs h
  · exact Push_no w hm (by omega) hb h1 h
theorem pushQ_le {l : List (List UInt8)} {b : List UInt8} {most : Int} (hl : (l.flatten.length : Int) ≤ most) : ((pushQ l most b).flatten.length : Int) ≤ most := by
  rcases pushE_cases l most b with ⟨h0, h1, h2⟩ | h1
  · unfold pushQ; rw [if_pos h0]; simp; simp at h2; omega
  · unfold pushQ; rw [if_neg h1]; exact hl
theorem pushQ_grow (l : List (List UInt8)) (b : List UInt8) (most : Int) : (pushQ l most b).flatten.length ≤ l.flatten.length + b.length := by
  unfold pushQ; split
  · simp
  · omega

set_option maxRecDepth 100000 in
set_option maxHeartbeats 1000000 in
theorem lives_any (w : World) : Calls Try.prog 16 #[] w fun e w' => e = .returned (.bool true) ∧ Below w.heap.size w w' := by
  have HN := Lib.hid (New_yes 9 w (by omega) (by omega))
  have kc := fun (w : World) (C : Array Value) (n c : Nat) => Lib.run_convert_bytes_const (P := Try.prog) w 23 5 C n c Try.underlying23 Try.underlying5
  go_enter Try.func16, Try.ntmps16
  go_wp2_with fail
  refine HN.out.mono ?_; rintro e w1 ⟨q, F, rfl, hq, hF, hb⟩
  have HB := Lib.hid hb
  have HQ1 := Lib.hid (hq.bel ((Below.refl _ _).alloc (Nat.le_refl _) (.cells #[.int .u8 97, .int .u8 98] 5 (2, 3))))
  have HF := Lib.hid hF
  clear hq hF hb HN
  have hbs : Bs (w1.alloc (.cells #[.int .u8 97, .int .u8 98] 5 (2, 3))) (w1.alloc (.cells #[.int .u8 97, .int .u8 98] 5 (2, 3))).heap.size (some ⟨w1.heap.size, 0, none⟩) [97, 98] := (Rg.new w1 5 1 2 #[.int .u8 97, .int .u8 98] rfl (2, 3)).rd
  have HP := Lib.hid (Push_any (b := [97, 98]) (c0 := 2) _ (by omega) (by simp) (by simp) (by intro h; cases h) (Nat.le_refl _) hbs HQ1.out)
  clear hbs
  go_wp2_with fail
  refine HP.out.mono ?_; rintro e w2 ⟨F2, rfl, hq, hc, hf⟩
  have HB2 := Lib.hid ((HB.out.alloc HB.out.size (.cells #[.int .u8 97, .int .u8 98] 5 (2, 3))).trans (hc.below HF.out (by have := HB.out.size; simp; omega)))
  have HF2 := Lib.hid (hf.low HF.out (by have := HB.out.size; simp; omega))
  have hpe : pushE [] 9 [97, 98] = 0 := by decide
  have hpq : pushQ [] 9 [97, 98] = [[97, 98]] := by decide
  rw [hpe]
  rw [hpq] at hq
  have HQ2 := Lib.hid (hq.bel ((Below.refl _ _).alloc (Nat.le_refl _) (.cells #[.int .u8 99, .int .u8 100] 5 (2, 3))))
  clear hq hc hf hpe hpq HP HB HF HQ1
  have hbs : Bs (w2.alloc (.cells #[.int .u8 99, .int .u8 100] 5 (2, 3))) (w2.alloc (.cells #[.int .u8 99, .int .u8 100] 5 (2, 3))).heap.size (some ⟨w2.heap.size, 0, none⟩) [99, 100] := (Rg.new w2 5 1 2 #[.int .u8 99, .int .u8 100] rfl (2, 3)).rd
  have HP := Lib.hid (Push_any (b := [99, 100]) (c0 := 2) _ (by omega) (by simp) (by simp) (by intro h; cases h) (Nat.le_refl _) hbs HQ2.out)
  clear hbs
  go_wp2_with fail
  refine HP.out.mono ?_; rintro e w3 ⟨F3, rfl, hq, hc, hf⟩
  have HB3 := Lib.hid ((HB2.out.alloc HB2.out.size (.cells #[.int .u8 99, .int .u8 100] 5 (2, 3))).trans (hc.below HF2.out (by have := HB2.out.size; simp; omega)))
  have HF3 := Lib.hid (hf.low HF2.out (by have := HB2.out.size; simp; omega))
  have hpe : pushE [[97, 98]] 9 [99, 100] = 0 := by decide
  have hpq : pushQ [[97, 98]] 9 [99, 100] = [[97, 98], [99, 100]] := by decide
  rw [hpe]
  rw [hpq] at hq
  have HT := Lib.hid (Take_any 3 w3 (by omega) (by simp) hq)
  clear hq hc hf hpe hpq HP HB2 HF2 HQ2
  go_wp2_with fail
  refine HT.out.mono ?_; rintro e w4 ⟨A, c, rfl, ho, hl, hq, hc⟩
  have ht2 : (takeQ [[97, 98], [99, 100]] 3).2 = [97, 98, 99] := by decide
  have ht1 : (takeQ [[97, 98], [99, 100]] 3).1 = [[100]] := by decide
  have e3 : (3 : Int).toNat = 3 := rfl
  rw [e3, ht1, ht2] at hq
  rw [e3, ht2] at ho ⊢
  have HB4 := Lib.hid (HB3.out.trans (hc.below HF3.out HB3.out.size))
  have hstr : (convert 23 9 (.slice A 3 c)).run Try.prog w4 = .ok (.string ⟨#[97, 98, 99]⟩) w4 := by have := run_str (l := [97, 98, 99]) (c := c) ho.rg.rd; exact this
  have HL := Lib.hid (Len_any w4 hq)
  have HW := Lib.hid (Waits_any w4 hq)
  clear hq hc ho hl ht1 ht2 HT
  go_wp2_with (first | (go_at_call 22; refine HL.out.mono ?_; rintro e w' ⟨rfl, rfl⟩) | (go_at_call 14; refine HW.out.mono ?_; rintro e w' ⟨rfl, rfl⟩))
  go_ret
  exact ⟨by simp, HB4.out⟩
end Go.Proofs.Ythoclemgiopjpaa.outq
