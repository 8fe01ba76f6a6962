/- What fsm's start, up, tick return and leave. Conditions as each lemma states. -/
import Derived.Test.YtbhhkjkjihenoaaFsmFall
import Derived.IntWalk
namespace Go.Proofs.Ytbhhkjkjihenoaa.fsm
open Go.RowKit Go.Proofs.Ytbhhkjkjihenoaa.kit Go.Proofs.Ytbhhkjkjihenoaa.mem Go.Proofs.Ytbhhkjkjihenoaa.foot
set_option linter.unusedVariables false
set_option linter.unusedSimpArgs false

theorem KeepOf_any (n : Int) (hn : 3 ≤ n ∧ n ≤ 9223372036854775807) (w : World) : Calls Try.prog 173 #[.int .i64 n] w fun e w' => e = .returned (.int .i64 (n / 3)) ∧ w = w' := by
  have h : ¬ n < 3 := by omega
  go_enter Try.func173, Try.ntmps173
  go_wp2_with fail
  go_ret
  exact ⟨by simp, rfl⟩

theorem HoldOf_any (a b : Int) (w : World) : Calls Try.prog 193 #[.int .i64 a, .int .i64 b] w fun e w' => e = .returned (.int .i64 (max (min a b) 0)) ∧ w = w' := by
  go_enter Try.func193, Try.ntmps193
  go_wp2_with fail
  all_goals go_ret
  all_goals exact ⟨ret_int (by omega), rfl⟩

theorem start_any {F : Foot} {m : Nat} {s : Sd} {f : Fs} {o : Ot} {xs : List Value} (w : World) (hp : s.pas = false) (h : Mc w F m s f o xs) :
    Calls Try.prog 139 #[.pointer (some ⟨m, 0, none⟩)] w fun e w' => e = .returned (.tuple #[]) ∧ Mc w' F m s ⟨1, 0, 0, 0, s.retry, 0, 0, 0, false⟩ { o with con := true } xs ∧ Chg F w w' := by
  have HC := Lib.hid (connect_any w h)
  obtain ⟨A, n, c, hb, _⟩ := h.ex
  have qa := fun i => hb.cell i
  have ql := hb.lt
  simp only [mcV] at qa
  clear h hb
  obtain ⟨s0, s1, s2, s3, s4, s5⟩ := s
  dsimp only at hp
  subst hp
  dsimp only at qa
  go_enter Try.func139, Try.ntmps139
  go_wp2_with fail
  refine HC.out.mono ?_
  rintro e w1 ⟨rfl, h1⟩
  have H1 := Lib.hid h1
  clear h1
  go_wp2_with fail
  refine bodyPost_end (results_none rfl _ _ _) rfl ?_
  exact ⟨rfl, H1.out⟩

set_option maxRecDepth 100000 in
theorem up_any {F : Foot} {m : Nat} {s : Sd} {f : Fs} {o : Ot} {xs : List Value} (w : World) (hn : xs.length ≤ 18981) (h : Mc w F m s f o xs) :
    Calls Try.prog 141 #[.pointer (some ⟨m, 0, none⟩)] w fun e w' => e = .returned (.tuple #[]) ∧ ∃ F', Mc w' F' m s ⟨3, 0, 240, 0, 0, 0, 0, 0, false⟩ o (xs ++ openV s.num s.hold s.own true) ∧ Chg F w w' ∧ Fresh w F F' := by
  have HH := Lib.hid (hello_any s)
  have HS := Lib.hid (fun (w1 : World) (hb0 : Below w.heap.size w w1) => send_any (.int .i64 1) (.int .u32 s.num) (.int .i64 s.hold) (.int .u32 s.own) (.bool true) (.slice none 0 0) (.int .i64 0) (.int .i64 0) (.slice none 0 0) (.int .u32 0) (.int .u32 0) (.int .u32 0) (.int .u32 0) (.int .u32 0) (.slice none 0 0) (.slice none 0 0) (.int .i64 0) (.int .i64 0) (.slice none 0 0) w1 (fun u hu => List.all_eq_true.1 (by rfl) u hu) hn (h.bel hb0))
  have HF2 := Lib.hid (fun (w1 : World) (F1 : Foot) (hb0 : Below w.heap.size w w1) (hf : Fresh w1 F F1) => (show Fresh w F F1 from fun k hk => (hf k hk).imp id fun e => Nat.le_trans hb0.size e))
  obtain ⟨A, n, c, hb, _⟩ := h.ex
  have qa := fun i => hb.cell i
  have ql := hb.lt
  simp only [mcV] at qa
  clear h hb
  unfold sdV openV at HH
  obtain ⟨s0, s1, s2, s3, s4, s5⟩ := s
  dsimp only at qa HH HS ⊢
  go_enter Try.func141, Try.ntmps141
  go_wp2_with fail
  refine (HH.out _).mono ?_
  rintro e w1 ⟨rfl, hb1⟩
  have HB1 := Lib.hid hb1
  clear hb1
  go_wp2_with fail
  refine (HS.out _ HB1.out).mono ?_
  rintro e w3 ⟨rfl, F1, hm3, hc3, hf3⟩
  have HC3 := Lib.hid ((Chg.of_below HB1.out F).trans hc3 fun _ _ e => e)
  have HF3 := Lib.hid (HF2.out _ F1 HB1.out hf3)
  obtain ⟨A1, n1', c1, hb3, _⟩ := hm3.ex
  have HM3 := Lib.hid hm3
  have HB3 := Lib.hid hb3
  have qa3 := fun i => hb3.cell i
  have qf3 := fun i => hb3.free i
  have ql3 := hb3.lt
  simp only [mcV] at qa3
  clear hm3 hc3 hf3 hb3 qa ql HS HF2 HH
  go_wp2_with fail
  refine bodyPost_end (results_none rfl _ _ _) rfl ?_
  obtain ⟨g1, g2⟩ := bk_stores [.int .i64 3, .int .i64 0, .int .i64 240, .int .i64 0, .int .i64 0, .int .u32 0, .int .i64 0, .int .u32 0, .bool false] 6 HB3.out
  obtain ⟨k1, k2⟩ := HM3.out.turn (f' := ⟨3, 0, 240, 0, 0, 0, 0, 0, false⟩) (o' := o) HB3.out (by have h := g1; simpa [putL, mcV] using h) g2
  exact ⟨rfl, F1, k1, HC3.out.step HF3.out k2, HF3.out⟩
end Go.Proofs.Ytbhhkjkjihenoaa.fsm
