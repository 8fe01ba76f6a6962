/- What fsm's keep, fall, hello, up, start return and leave. Conditions as each lemma states. -/
import Derived.Test.YtbhhkjkjihenoaaFsmSend
import Derived.Lib.LazyBuf
namespace Go.Proofs.Ytbhhkjkjihenoaa.fsm
open Go.RowKit Go.Proofs.Ytbhhkjkjihenoaa.kit Go.Proofs.Ytbhhkjkjihenoaa.mem Go.Proofs.Ytbhhkjkjihenoaa.foot
set_option linter.unusedVariables false
set_option linter.unusedSimpArgs false

theorem Clone_nil (w : World) : Calls Try.prog 177 #[.slice none 0 0] w fun e w' => e = .returned (.slice none 0 0) ∧ Below w.heap.size w w' := by
  have hq := fun (w : World) (a : Option Addr) (n c : Nat) => Lib.run_eql_slice_nil (P := Try.prog) w 62 5 a n c 0 0 Try.underlying62
  go_enter Try.func177, Try.ntmps177
  go_wp2
  go_ret
  exact ⟨rfl, Below.refl _ _⟩

/-- a message that one lives -/
def keepV : List Value := [.int .i64 4, .int .u32 0, .int .i64 0, .int .u32 0, .bool false, .slice none 0 0, .int .i64 0, .int .i64 0, .slice none 0 0, .int .u32 0, .int .u32 0, .int .u32 0, .int .u32 0, .int .u32 0, .slice none 0 0, .slice none 0 0, .int .i64 0, .int .i64 0, .slice none 0 0]
def noteV (code sub : Int) : List Value := [.int .i64 3, .int .u32 0, .int .i64 0, .int .u32 0, .bool false, .slice none 0 0, .int .i64 0, .int .i64 0, .slice none 0 0, .int .u32 0, .int .u32 0, .int .u32 0, .int .u32 0, .int .u32 0, .slice none 0 0, .slice none 0 0, .int .i64 code, .int .i64 sub, .slice none 0 0]
def openV (o0 o1 o2 : Int) (o3 : Bool) : List Value := [.int .i64 1, .int .u32 o0, .int .i64 o1, .int .u32 o2, .bool o3, .slice none 0 0, .int .i64 0, .int .i64 0, .slice none 0 0, .int .u32 0, .int .u32 0, .int .u32 0, .int .u32 0, .int .u32 0, .slice none 0 0, .slice none 0 0, .int .i64 0, .int .i64 0, .slice none 0 0]

def keepZ : List Value := [.int .i64 0, .int .u32 0, .int .i64 0, .int .u32 0, .bool false, .slice none 0 0, .int .i64 0, .int .i64 0, .slice none 0 0, .int .u32 0, .int .u32 0, .int .u32 0, .int .u32 0, .int .u32 0, .slice none 0 0, .slice none 0 0, .int .i64 0, .int .i64 0, .slice none 0 0]
theorem info_m19 : (Try.prog.info? 66).map (·.size) = some 19 := by kernel_rfl

theorem keep_any {F : Foot} {m : Nat} {s : Sd} {f : Fs} {o : Ot} {xs : List Value} (w : World) (hn : xs.length ≤ 18981) (h : Mc w F m s f o xs) :
    Calls Try.prog 172 #[.pointer (some ⟨m, 0, none⟩)] w fun e w' => e = .returned (.tuple #[]) ∧ ∃ F', Mc w' F' m s f o (xs ++ keepV) ∧ Chg F w w' ∧ Fresh w F F' := by
  have HS := Lib.hid (send_any (.int .i64 4) (.int .u32 0) (.int .i64 0) (.int .u32 0) (.bool false) (.slice none 0 0) (.int .i64 0) (.int .i64 0) (.slice none 0 0) (.int .u32 0) (.int .u32 0) (.int .u32 0) (.int .u32 0) (.int .u32 0) (.slice none 0 0) (.slice none 0 0) (.int .i64 0) (.int .i64 0) (.slice none 0 0) w (fun u hu => List.all_eq_true.1 (by rfl) u hu) hn h)
  clear h
  go_enter Try.func172, Try.ntmps172
  go_wp2_with fail
  refine HS.out.mono ?_
  rintro e w1 ⟨rfl, h1⟩
  have H1 := Lib.hid h1
  clear h1
  go_wp2_with fail
  refine bodyPost_end (results_none rfl _ _ _) rfl ?_
  exact ⟨rfl, H1.out⟩

theorem hello_any (s : Sd) (w : World) : Calls Try.prog 170 #[.agg (sdV s).toArray] w fun e w' => e = .returned (.agg (openV s.num s.hold s.own true).toArray) ∧ Below w.heap.size w w' := by
  obtain ⟨num, own, peer, hold, retry, pas⟩ := s
  unfold sdV openV
  dsimp only
  have HB : Hid (Below w.heap.size w ((w.alloc (.cells #[.int .u32 num, .int .u32 own, .int .u32 peer, .int .i64 hold, .int .i64 retry, .bool pas] 53)).alloc (.cells #[.int .i64 0, .int .u32 0, .int .i64 0, .int .u32 0, .bool false, .slice none 0 0, .int .i64 0, .int .i64 0, .slice none 0 0, .int .u32 0, .int .u32 0, .int .u32 0, .int .u32 0, .int .u32 0, .slice none 0 0, .slice none 0 0, .int .i64 0, .int .i64 0, .slice none 0 0] 66))) := ((Below.refl _ _).alloc (Nat.le_refl _) _).alloc (by simp) _
  have hz : Bk ((w.alloc (.cells #[.int .u32 num, .int .u32 own, .int .u32 peer, .int .i64 hold, .int .i64 retry, .bool pas] 53)).alloc (.cells #[.int .i64 0, .int .u32 0, .int .i64 0, .int .u32 0, .bool false, .slice none 0 0, .int .i64 0, .int .i64 0, .slice none 0 0, .int .u32 0, .int .u32 0, .int .u32 0, .int .u32 0, .int .u32 0, .slice none 0 0, .slice none 0 0, .int .i64 0, .int .i64 0, .slice none 0 0] 66)) (w.heap.size + 1) 66 #[.int .i64 0, .int .u32 0, .int .i64 0, .int .u32 0, .bool false, .slice none 0 0, .int .i64 0, .int .i64 0, .slice none 0 0, .int .u32 0, .int .u32 0, .int .u32 0, .int .u32 0, .int .u32 0, .slice none 0 0, .slice none 0 0, .int .i64 0, .int .i64 0, .slice none 0 0] := by
    have h := Bk.new (w.alloc (.cells #[.int .u32 num, .int .u32 own, .int .u32 peer, .int .i64 hold, .int .i64 retry, .bool pas] 53)) 66 #[.int .i64 0, .int .u32 0, .int .i64 0, .int .u32 0, .bool false, .slice none 0 0, .int .i64 0, .int .i64 0, .slice none 0 0, .int .u32 0, .int .u32 0, .int .u32 0, .int .u32 0, .int .u32 0, .slice none 0 0, .slice none 0 0, .int .i64 0, .int .i64 0, .slice none 0 0]
    simpa using h
  have HZ := Lib.hid hz
  clear hz
  have HS : Hid ((Try.prog.info? 66).map (·.size) = some 19) := info_m19
  go_enter Try.func170, Try.ntmps170
  go_wp2_with (refine wpList_storeBk rfl 66 (.tmp 2) (.tmp 10) rfl (w.heap.size + 1) (by rfl) #[.int .i64 1, .int .u32 num, .int .i64 hold, .int .u32 own, .bool true, .slice none 0 0, .int .i64 0, .int .i64 0, .slice none 0 0, .int .u32 0, .int .u32 0, .int .u32 0, .int .u32 0, .int .u32 0, .slice none 0 0, .slice none 0 0, .int .i64 0, .int .i64 0, .slice none 0 0] (by rfl) 66 #[.int .i64 0, .int .u32 0, .int .i64 0, .int .u32 0, .bool false, .slice none 0 0, .int .i64 0, .int .i64 0, .slice none 0 0, .int .u32 0, .int .u32 0, .int .u32 0, .int .u32 0, .int .u32 0, .slice none 0 0, .slice none 0 0, .int .i64 0, .int .i64 0, .slice none 0 0] HZ.out HS.out rfl (by rfl) ?_; intro w3 h3 h4 h5; have H3 := Lib.hid h3; have H4 := Lib.hid h4; clear h3 h4 h5)
  refine bodyPost_ret (results_cell_row rfl _ _ (w.heap.size + 1) 66 #[.int .i64 1, .int .u32 num, .int .i64 hold, .int .u32 own, .bool true, .slice none 0 0, .int .i64 0, .int .i64 0, .slice none 0 0, .int .u32 0, .int .u32 0, .int .u32 0, .int .u32 0, .int .u32 0, .slice none 0 0, .slice none 0 0, .int .i64 0, .int .i64 0, .slice none 0 0] (0, 0) _ rfl H3.out Try.underlying66 rfl HS.out) rfl ?_
  exact ⟨rfl, HB.out.trans (H4.out.below (fun k e => by rw [e]; omega) (by simp; omega))⟩

def fellX (f : Fs) (code sub : Int) : List Value := if lk f = true then (if code = 0 then [] else noteV code sub) else []

set_option maxRecDepth 100000 in
/-- what stands behind the notice -/
theorem fall_end {F : Foot} {m : Nat} {s : Sd} {f : Fs} {o : Ot} {xs : List Value} {w w1 : World} (h : Mc w F m s f o xs) {A : Option Addr} {n c : Nat} (hb : Bk w m 172 (mcV s f A n c o))
    (hb0 : Below w.heap.size w w1) : ∀ w', w' = stores ((w1.setCell ⟨m, 17, none⟩ (.bool (lk f || (f.st == 1)))).setCell ⟨m, 19, none⟩ (.bool (f.st == 5))) m 6 (fsV (f0 s.retry)) → Mc w' F m s (f0 s.retry) { o with cls := lk f || (f.st == 1), lost := f.st == 5 } xs ∧ Chg F w w' := by
  rintro w' rfl
  have hb1 : Bk w1 m 172 (mcV s f A n c o) := hb.below hb0 hb.lt
  have h1 : Mc w1 F m s f o xs := h.bel (hb0.mono (Nat.le_refl _))
  obtain ⟨g1, g2⟩ := bk_stores [.bool (lk f || (f.st == 1))] 17 hb1
  obtain ⟨g3, g4⟩ := bk_stores [.bool (f.st == 5)] 19 g1
  obtain ⟨g5, g6⟩ := bk_stores (fsV (f0 s.retry)) 6 g3
  obtain ⟨k1, k2⟩ := h1.turn (f' := f0 s.retry) (o' := { o with cls := lk f || (f.st == 1), lost := f.st == 5 }) hb1 (by have h := g5; simpa [putL, mcV, fsV, f0] using h) ((g2.trans g4 fun _ _ e => e).trans g6 fun _ _ e => e)
  exact ⟨k1, (Chg.of_below hb0 F).trans k2 fun _ _ e => e⟩

set_option maxRecDepth 100000 in
theorem fall_none {F : Foot} {m : Nat} {s : Sd} {f : Fs} {o : Ot} {xs : List Value} (code sub : Int) (w : World) (h : Mc w F m s f o xs) (hl : lk f = false) :
    Calls Try.prog 146 #[.pointer (some ⟨m, 0, none⟩), .agg #[.int .i64 code, .int .i64 sub, .slice none 0 0]] w fun e w' => e = .returned (.tuple #[]) ∧ Mc w' F m s (f0 s.retry) { o with cls := lk f || (f.st == 1), lost := f.st == 5 } xs ∧ Chg F w w' := by
  obtain ⟨A, n, c, hb, _⟩ := h.ex
  have HE := Lib.hid (fun (w1 : World) (hb0 : Below w.heap.size w w1) => fall_end h hb hb0)
  have HM := Lib.hid (fun (w1 : World) (hb0 : Below w.heap.size w w1) => hb.below hb0 hb.lt)
  have HL := Lib.hid (fun w => linked_any f w)
  have HB0 : Hid (Below w.heap.size w (w.alloc (.cells #[.int .i64 code, .int .i64 sub, .slice none 0 0] 64))) := (Below.refl _ _).alloc (Nat.le_refl _) _
  have qa := fun i => hb.cell i
  have qf := fun i => hb.free i
  have ql := hb.lt
  simp only [mcV] at qa
  clear h hb
  obtain ⟨s0, s1, s2, s3, s4, s5⟩ := s
  obtain ⟨f0, f1, f2, f3, f4, p0, p1, p2, p3⟩ := f
  obtain ⟨o1, o2, o3, o4⟩ := o
  dsimp only at qa HE HM HL ⊢
  rw [hl] at HE HL ⊢
  clear hl
  unfold fsV at HL
  dsimp only at HL
  go_enter Try.func146, Try.ntmps146
  go_wp2_with fail
  refine (HL.out _).mono ?_
  rintro e w1 ⟨rfl, hb1⟩
  have HB1 := Lib.hid (HB0.out.trans (hb1.mono (by simp)))
  have hm1 := HM.out _ HB1.out
  have qa1 := fun i => hm1.cell i
  have qf1 := fun i => hm1.free i
  have ql1 := hm1.lt
  simp only [mcV] at qa1
  clear hb1 hm1 HB0 qa qf ql
  go_wp2_with fail
  refine (HL.out _).mono ?_
  rintro e w2 ⟨rfl, hb2⟩
  have HB2 := Lib.hid (HB1.out.trans (hb2.mono HB1.out.size))
  have hm2 := HM.out _ HB2.out
  have qa2 := fun i => hm2.cell i
  have qf2 := fun i => hm2.free i
  have ql2 := hm2.lt
  simp only [mcV] at qa2
  clear hb2 hm2 HB1 qa1 qf1 ql1
  go_wp2_with fail
  refine bodyPost_end (results_none rfl _ _ _) rfl ?_
  exact ⟨rfl, HE.out w2 HB2.out _ rfl⟩
set_option maxRecDepth 100000 in
theorem fall_zero {F : Foot} {m : Nat} {s : Sd} {f : Fs} {o : Ot} {xs : List Value} (sub : Int) (w : World) (h : Mc w F m s f o xs) (hl : lk f = true) :
    Calls Try.prog 146 #[.pointer (some ⟨m, 0, none⟩), .agg #[.int .i64 0, .int .i64 sub, .slice none 0 0]] w fun e w' => e = .returned (.tuple #[]) ∧ Mc w' F m s (f0 s.retry) { o with cls := lk f || (f.st == 1), lost := f.st == 5 } xs ∧ Chg F w w' := by
  obtain ⟨A, n, c, hb, _⟩ := h.ex
  have HE := Lib.hid (fun (w1 : World) (hb0 : Below w.heap.size w w1) => fall_end h hb hb0)
  have HM := Lib.hid (fun (w1 : World) (hb0 : Below w.heap.size w w1) => hb.below hb0 hb.lt)
  have HL := Lib.hid (fun w => linked_any f w)
  have HBn : Hid (Bk (w.alloc (.cells #[.int .i64 0, .int .i64 sub, .slice none 0 0] 64)) w.heap.size 64 #[.int .i64 0, .int .i64 sub, .slice none 0 0]) := Bk.new w _ _
  have HB0 : Hid (Below w.heap.size w (w.alloc (.cells #[.int .i64 0, .int .i64 sub, .slice none 0 0] 64))) := (Below.refl _ _).alloc (Nat.le_refl _) _
  have qa := fun i => hb.cell i
  have qf := fun i => hb.free i
  have ql := hb.lt
  simp only [mcV] at qa
  clear h hb
  obtain ⟨s0, s1, s2, s3, s4, s5⟩ := s
  obtain ⟨f0, f1, f2, f3, f4, p0, p1, p2, p3⟩ := f
  obtain ⟨o1, o2, o3, o4⟩ := o
  dsimp only at qa HE HM HL ⊢
  rw [hl] at HE HL ⊢
  clear hl
  unfold fsV at HL
  dsimp only at HL
  go_enter Try.func146, Try.ntmps146
  go_wp2_with fail
  refine (HL.out _).mono ?_
  rintro e w1 ⟨rfl, hb1⟩
  have HB1 := Lib.hid (HB0.out.trans (hb1.mono (by simp)))
  have hm1 := HM.out _ HB1.out
  have hbn1 := HBn.out.below hb1 (by simp)
  have n0 := fun i => hbn1.cell i
  have n1 := hbn1.lt
  have qa1 := fun i => hm1.cell i
  have qf1 := fun i => hm1.free i
  have ql1 := hm1.lt
  simp only [mcV] at qa1
  clear hb1 hm1 HB0 qa qf ql HBn hbn1
  go_wp2_with fail
  refine (HL.out _).mono ?_
  rintro e w2 ⟨rfl, hb2⟩
  have HB2 := Lib.hid (HB1.out.trans (hb2.mono HB1.out.size))
  have hm2 := HM.out _ HB2.out
  have qa2 := fun i => hm2.cell i
  have qf2 := fun i => hm2.free i
  have ql2 := hm2.lt
  simp only [mcV] at qa2
  clear hb2 hm2 HB1 qa1 qf1 ql1 n0 n1
  go_wp2_with fail
  refine bodyPost_end (results_none rfl _ _ _) rfl ?_
  exact ⟨rfl, HE.out w2 HB2.out _ rfl⟩

set_option maxRecDepth 100000 in
theorem fall_sent {F : Foot} {m : Nat} {s : Sd} {f : Fs} {o : Ot} {xs : List Value} (code sub : Int) (w : World) (hn : xs.length ≤ 18981) (h : Mc w F m s f o xs) (hl : lk f = true) (hc0 : (code == 0) = false) :
    Calls Try.prog 146 #[.pointer (some ⟨m, 0, none⟩), .agg #[.int .i64 code, .int .i64 sub, .slice none 0 0]] w fun e w' => e = .returned (.tuple #[]) ∧ ∃ F', Mc w' F' m s (f0 s.retry) { o with cls := lk f || (f.st == 1), lost := f.st == 5 } (xs ++ noteV code sub) ∧ Chg F w w' ∧ Fresh w F F' := by
  obtain ⟨A, n, c, hb, _⟩ := h.ex
  have HS := Lib.hid (fun (w1 : World) (hb0 : Below w.heap.size w w1) => send_any (.int .i64 3) (.int .u32 0) (.int .i64 0) (.int .u32 0) (.bool false) (.slice none 0 0) (.int .i64 0) (.int .i64 0) (.slice none 0 0) (.int .u32 0) (.int .u32 0) (.int .u32 0) (.int .u32 0) (.int .u32 0) (.slice none 0 0) (.slice none 0 0) (.int .i64 code) (.int .i64 sub) (.slice none 0 0) w1 (fun u hu => List.all_eq_true.1 (by rfl) u hu) hn (h.bel hb0))
  have HF := Lib.hid (fun (w1 w2 : World) (F1 : Foot) (hb0 : Below w.heap.size w w1) (hc : Chg F w1 w2) (hf : Fresh w1 F F1) => (show Chg F w w2 from (Chg.of_below hb0 F).trans hc fun _ _ e => e))
  have HF2 := Lib.hid (fun (w1 : World) (F1 : Foot) (hb0 : Below w.heap.size w w1) (hf : Fresh w1 F F1) => (show Fresh w F F1 from fun k hk => (hf k hk).imp id fun e => Nat.le_trans hb0.size e))
  have HM := Lib.hid (fun (w1 : World) (hb0 : Below w.heap.size w w1) => hb.below hb0 hb.lt)
  have HL := Lib.hid (fun w => linked_any f w)
  have HB0 : Hid (Below w.heap.size w (w.alloc (.cells #[.int .i64 code, .int .i64 sub, .slice none 0 0] 64))) := (Below.refl _ _).alloc (Nat.le_refl _) _
  have HBn : Hid (Bk (w.alloc (.cells #[.int .i64 code, .int .i64 sub, .slice none 0 0] 64)) w.heap.size 64 #[.int .i64 code, .int .i64 sub, .slice none 0 0]) := Bk.new w _ _
  have qa := fun i => hb.cell i
  have qf := fun i => hb.free i
  have ql := hb.lt
  simp only [mcV] at qa
  clear h hb
  obtain ⟨s0, s1, s2, s3, s4, s5⟩ := s
  obtain ⟨f0, f1, f2, f3, f4, p0, p1, p2, p3⟩ := f
  obtain ⟨o1, o2, o3, o4⟩ := o
  dsimp only at qa HM HL HS HF ⊢
  rw [hl] at HL ⊢
  have hHL := Lib.hid hl
  clear hl
  unfold fsV at HL
  dsimp only at HL
  go_enter Try.func146, Try.ntmps146
  go_wp2_with fail
  refine (HL.out _).mono ?_
  rintro e w1 ⟨rfl, hb1⟩
  have HB1 := Lib.hid (HB0.out.trans (hb1.mono (by simp)))
  have hbn1 := HBn.out.below hb1 (by simp)
  have n0 := fun i => hbn1.cell i
  have n1 := hbn1.lt
  have nf := fun i => hbn1.free i
  have HBn1 := Lib.hid hbn1
  clear hb1 HB0 qa qf ql hbn1 HBn
  go_wp2_with fail
  refine (Clone_nil _).mono ?_
  rintro e w2 ⟨rfl, hb2⟩
  have HB2 := Lib.hid (HB1.out.trans (hb2.mono HB1.out.size))
  have hbn2 := HBn1.out.below hb2 HBn1.out.lt
  have n0 := fun i => hbn2.cell i
  have n1 := hbn2.lt
  have nf := fun i => hbn2.free i
  have HB3 := Lib.hid (HB2.out.setCell (p := ⟨w.heap.size, 2, none⟩) (Nat.le_refl _) (.slice none 0 0))
  clear hb2 HB1 hbn2 HBn1
  go_wp2_with fail
  refine (HS.out _ HB3.out).mono ?_
  rintro e w3 ⟨rfl, F1, hm3, hc3, hf3⟩
  have HC3 := Lib.hid (HF.out _ _ F1 HB3.out hc3 hf3)
  have HF3 := Lib.hid (HF2.out _ F1 HB3.out hf3)
  obtain ⟨A1, n1', c1, hb3, _⟩ := hm3.ex
  have HE := Lib.hid (fun (w4 : World) (hb0 : Below w3.heap.size w3 w4) => fall_end hm3 hb3 hb0)
  have HM3 := Lib.hid (fun (w4 : World) (hb0 : Below w3.heap.size w3 w4) => hb3.below hb0 hb3.lt)
  have qa3 := fun i => hb3.cell i
  have qf3 := fun i => hb3.free i
  have ql3 := hb3.lt
  simp only [mcV] at qa3
  dsimp only at HE
  rw [hHL.out] at HE
  clear hm3 hc3 hf3 hb3 n0 n1 nf HB2 HB3 HM HS HF HF2 hHL
  go_wp2_with fail
  refine (HL.out _).mono ?_
  rintro e w5 ⟨rfl, hb5⟩
  have HB5 := Lib.hid hb5
  have hm5 := HM3.out _ hb5
  have qa5 := fun i => hm5.cell i
  have qf5 := fun i => hm5.free i
  have ql5 := hm5.lt
  simp only [mcV] at qa5
  clear hb5 hm5 qa3 qf3 ql3
  go_wp2_with fail
  refine bodyPost_end (results_none rfl _ _ _) rfl ?_
  obtain ⟨g1, g2⟩ := HE.out w5 HB5.out _ rfl
  exact ⟨rfl, F1, g1, HC3.out.step HF3.out g2, HF3.out⟩

theorem fall_any {F : Foot} {m : Nat} {s : Sd} {f : Fs} {o : Ot} {xs : List Value} (code sub : Int) (w : World) (hn : xs.length ≤ 18981) (h : Mc w F m s f o xs) :
    Calls Try.prog 146 #[.pointer (some ⟨m, 0, none⟩), .agg #[.int .i64 code, .int .i64 sub, .slice none 0 0]] w fun e w' => e = .returned (.tuple #[]) ∧ ∃ F', Mc w' F' m s (f0 s.retry) { o with cls := lk f || (f.st == 1), lost := f.st == 5 } (xs ++ fellX f code sub) ∧ Chg F w w' ∧ Fresh w F F' := by
  unfold fellX
  rcases hl : lk f with _ | _
  · rw [if_neg (by simp), List.append_nil]
    refine (fall_none code sub w h hl).mono ?_
    rintro e w' ⟨h1, h2, h3⟩
    rw [hl] at h2
    exact ⟨h1, F, h2, h3, Fresh.refl _ _⟩
  · rw [if_pos rfl]
    by_cases h0 : code = 0
    · subst h0
      rw [if_pos rfl, List.append_nil]
      refine (fall_zero sub w h hl).mono ?_
      rintro e w' ⟨h1, h2, h3⟩
      rw [hl] at h2
      exact ⟨h1, F, h2, h3, Fresh.refl _ _⟩
    · rw [if_neg h0]
      have := fall_sent code sub w hn h hl (by rw [beq_eq_false_iff_ne]; exact h0)
      rw [hl] at this
      exact this
end Go.Proofs.Ytbhhkjkjihenoaa.fsm
