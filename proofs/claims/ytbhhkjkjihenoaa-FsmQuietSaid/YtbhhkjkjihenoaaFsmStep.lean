/- What fsm's message and step (of a machine) return and leave: a start, a link, an Open that may come, a message that one lives, a tick. Conditions as each lemma states. -/
import Derived.Test.YtbhhkjkjihenoaaFsmOpened
namespace Go.Proofs.Ytbhhkjkjihenoaa.fsm
open Go.RowKit Go.Proofs.Ytbhhkjkjihenoaa.kit Go.Proofs.Ytbhhkjkjihenoaa.mem Go.Proofs.Ytbhhkjkjihenoaa.foot
set_option linter.unusedVariables false
set_option linter.unusedSimpArgs false

set_option maxRecDepth 100000 in
theorem message_open {F : Foot} {m : Nat} {s : Sd} {f : Fs} {o : Ot} {xs : List Value} (o1 o2 : Int) (w : World) (hn : xs.length ≤ 18900) (h : Mc w F m s f o xs) (hst : f.st = 3) (ho : (o2 == s.own) = false) (h3 : 3 ≤ max (min s.hold o1) 0) (h4 : max (min s.hold o1) 0 ≤ 1000000) :
    Calls Try.prog 145 #[.pointer (some ⟨m, 0, none⟩), .agg (openV s.peer o1 o2 true).toArray] w fun e w' => e = .returned (.tuple #[]) ∧ ∃ F', Mc w' F' m s (openF (max (min s.hold o1) 0) s.peer o1 o2) o (xs ++ keepV) ∧ Chg F w w' ∧ Fresh w F F' := by
  have HO := Lib.hid (fun (w1 : World) (hb1 : Below w.heap.size w w1) => opened_any o1 o2 w1 hn (h.bel hb1) hst ho h3 h4)
  have HB0 : Hid (Below w.heap.size w (w.alloc (.cells (openV s.peer o1 o2 true).toArray 66))) := (Below.refl _ _).alloc (Nat.le_refl _) _
  obtain ⟨A, n, c, hb, _⟩ := h.ex
  have qa := fun i => hb.cell i
  have ql := hb.lt
  simp only [mcV] at qa
  obtain ⟨f0, f1, f2, f3, f4, p0, p1, p2, p3⟩ := f
  dsimp only at hst
  subst hst
  dsimp only at qa
  clear h hb ho h3 h4 hn
  unfold openV at HB0 ⊢
  go_enter Try.func145, Try.ntmps145
  go_wp2_with fail
  refine (HO.out _ HB0.out).mono ?_
  rintro e w1 ⟨rfl, F1, h1, h2, h3⟩
  have H1 := Lib.hid (And.intro h1 (And.intro h2 h3))
  clear h1 h2 h3
  go_wp2_with fail
  first | (refine bodyPost_end (results_none rfl _ _ _) rfl ?_) | (refine bodyPost_ret (results_none rfl _ _ _) rfl ?_)
  obtain ⟨h1, h2, h3⟩ := H1.out
  exact ⟨rfl, F1, h1, (Chg.of_below HB0.out F).trans h2 fun _ _ e => e, fun k hk => (h3 k hk).imp id fun e => Nat.le_trans HB0.out.size e⟩

set_option maxRecDepth 100000 in
theorem message_keep {F : Foot} {m : Nat} {s : Sd} {f : Fs} {o : Ot} {xs : List Value} (w : World) (h : Mc w F m s f o xs) (hst : (f.st == 3) = false) :
    Calls Try.prog 145 #[.pointer (some ⟨m, 0, none⟩), .agg keepV.toArray] w fun e w' => e = .returned (.tuple #[]) ∧ Mc w' F m s { f with st := if f.st = 4 then 5 else f.st, hl := f.hold } { o with up := if f.st = 4 then true else o.up } xs ∧ Chg F w w' := by
  obtain ⟨f', hf'⟩ : ∃ f' : Fs, f' = { f with st := if f.st = 4 then 5 else f.st, hl := f.hold } := ⟨_, rfl⟩
  obtain ⟨o', ho'⟩ : ∃ o' : Ot, o' = { o with up := if f.st = 4 then true else o.up } := ⟨_, rfl⟩
  have HO := Lib.hid (fun (w1 : World) (hb1 : Below w.heap.size w w1) => lives_any w1 (h.bel hb1))
  rw [← hf', ← ho'] at HO ⊢
  clear hf' ho'
  have HB0 : Hid (Below w.heap.size w (w.alloc (.cells keepV.toArray 66))) := (Below.refl _ _).alloc (Nat.le_refl _) _
  obtain ⟨A, n, c, hb, _⟩ := h.ex
  have qa := fun i => hb.cell i
  have ql := hb.lt
  simp only [mcV] at qa
  clear h hb
  unfold keepV at HB0 ⊢
  go_enter Try.func145, Try.ntmps145
  go_wp2_with fail
  refine (HO.out _ HB0.out).mono ?_
  rintro e w1 ⟨rfl, h1, h2⟩
  have H1 := Lib.hid (And.intro h1 h2)
  clear h1 h2
  go_wp2_with fail
  first | (refine bodyPost_end (results_none rfl _ _ _) rfl ?_) | (refine bodyPost_ret (results_none rfl _ _ _) rfl ?_)
  obtain ⟨h1, h2⟩ := H1.out
  exact ⟨rfl, h1, (Chg.of_below HB0.out F).trans h2 fun _ _ e => e⟩

/-- an event: its kind, its message; no notice -/
def evV (k : Int) (x : List Value) : List Value := .int .i64 k :: (x ++ [.int .i64 0, .int .i64 0, .slice none 0 0])
/-- what a step of a machine leaves -/
def MStep (s : Sd) (f : Fs) (e : List Value) (f' : Fs) (o' : Ot) (x : List Value) : Prop :=
  ∀ (F : Foot) (m : Nat) (w : World), Mc w F m s f ⟨false, false, false, false⟩ [] → Calls Try.prog 114 #[.pointer (some ⟨m, 0, none⟩), .agg e.toArray] w fun r w' => r = .returned (.tuple #[]) ∧ ∃ F', Mc w' F' m s f' o' x ∧ Chg F w w' ∧ Fresh w F F'

set_option maxRecDepth 100000 in
theorem step_start (s : Sd) (f : Fs) (hst : f.st = 0) (hp : s.pas = false) : MStep s f (evV 1 keepZ) ⟨1, 0, 0, 0, s.retry, 0, 0, 0, false⟩ ⟨true, false, false, false⟩ [] := by
  intro F m w h
  have HO := Lib.hid (fun (w1 : World) (hb1 : Below w.heap.size w w1) => start_any w1 hp (h.bel hb1))
  have HB0 : Hid (Below w.heap.size w (w.alloc (.cells (evV 1 keepZ).toArray 68))) := (Below.refl _ _).alloc (Nat.le_refl _) _
  obtain ⟨A, n, c, hb, _⟩ := h.ex
  have qa := fun i => hb.cell i
  have ql := hb.lt
  simp only [mcV] at qa
  obtain ⟨f0, f1, f2, f3, f4, p0, p1, p2, p3⟩ := f
  dsimp only at hst
  subst hst
  dsimp only at qa
  clear h hb hp
  unfold evV keepZ at HB0 ⊢
  simp only [List.cons_append, List.nil_append] at HB0 ⊢
  go_enter Try.func114, Try.ntmps114
  go_wp2_with fail
  refine (HO.out _ HB0.out).mono ?_
  rintro e w1 ⟨rfl, h1, h2⟩
  have H1 := Lib.hid (And.intro h1 h2)
  clear h1 h2
  go_wp2_with fail
  first | (refine bodyPost_end (results_none rfl _ _ _) rfl ?_) | (refine bodyPost_ret (results_none rfl _ _ _) rfl ?_)
  obtain ⟨h1, h2⟩ := H1.out
  exact ⟨rfl, F, h1, (Chg.of_below HB0.out F).trans h2 fun _ _ e => e, Fresh.refl _ _⟩

set_option maxRecDepth 100000 in
theorem step_up (s : Sd) (f : Fs) (hst : f.st = 1) : MStep s f (evV 3 keepZ) ⟨3, 0, 240, 0, 0, 0, 0, 0, false⟩ ⟨false, false, false, false⟩ (openV s.num s.hold s.own true) := by
  intro F m w h
  have HO := Lib.hid (fun (w1 : World) (hb1 : Below w.heap.size w w1) => up_any w1 (by simp) (h.bel hb1))
  have HB0 : Hid (Below w.heap.size w (w.alloc (.cells (evV 3 keepZ).toArray 68))) := (Below.refl _ _).alloc (Nat.le_refl _) _
  obtain ⟨A, n, c, hb, _⟩ := h.ex
  have qa := fun i => hb.cell i
  have ql := hb.lt
  simp only [mcV] at qa
  obtain ⟨f0, f1, f2, f3, f4, p0, p1, p2, p3⟩ := f
  dsimp only at hst
  subst hst
  dsimp only at qa
  clear h hb
  unfold evV keepZ at HB0 ⊢
  simp only [List.cons_append, List.nil_append] at HB0 HO ⊢
  go_enter Try.func114, Try.ntmps114
  go_wp2_with fail
  refine (HO.out _ HB0.out).mono ?_
  rintro e w1 ⟨rfl, F1, h1, h2, h3⟩
  have H1 := Lib.hid (And.intro h1 (And.intro h2 h3))
  clear h1 h2 h3
  go_wp2_with fail
  first | (refine bodyPost_end (results_none rfl _ _ _) rfl ?_) | (refine bodyPost_ret (results_none rfl _ _ _) rfl ?_)
  obtain ⟨h1, h2, h3⟩ := H1.out
  exact ⟨rfl, F1, h1, (Chg.of_below HB0.out F).trans h2 fun _ _ e => e, fun k hk => (h3 k hk).imp id fun e => Nat.le_trans HB0.out.size e⟩

set_option maxRecDepth 100000 in
theorem step_tick (s : Sd) (hold hl kl p0 p1 p2 : Int) (p3 : Bool) (h1 : 1 ≤ hl) (h2 : 1 ≤ kl) (h3 : 3 ≤ hold) (h4 : hl ≤ 1000000) (h5 : kl ≤ 1000000) (h6 : hold ≤ 1000000) :
    MStep s ⟨5, hold, hl, kl, 0, p0, p1, p2, p3⟩ (evV 5 keepZ) (tickF s ⟨5, hold, hl, kl, 0, p0, p1, p2, p3⟩) (tickO ⟨5, hold, hl, kl, 0, p0, p1, p2, p3⟩ ⟨false, false, false, false⟩) (tickX ⟨5, hold, hl, kl, 0, p0, p1, p2, p3⟩) := by
  intro F m w h
  have HO := Lib.hid (fun (w1 : World) (hb1 : Below w.heap.size w w1) => tick_any w1 (by simp) (h.bel hb1) h1 h2 h3 h4 h5 h6)
  have HB0 : Hid (Below w.heap.size w (w.alloc (.cells (evV 5 keepZ).toArray 68))) := (Below.refl _ _).alloc (Nat.le_refl _) _
  obtain ⟨A, n, c, hb, _⟩ := h.ex
  have qa := fun i => hb.cell i
  have ql := hb.lt
  simp only [mcV] at qa
  clear h hb h1 h2 h3 h4 h5 h6
  unfold evV keepZ at HB0 ⊢
  simp only [List.cons_append, List.nil_append] at HB0 HO ⊢
  generalize tickF s ⟨5, hold, hl, kl, 0, p0, p1, p2, p3⟩ = f' at HO ⊢
  generalize tickO ⟨5, hold, hl, kl, 0, p0, p1, p2, p3⟩ ⟨false, false, false, false⟩ = o' at HO ⊢
  generalize tickX ⟨5, hold, hl, kl, 0, p0, p1, p2, p3⟩ = x' at HO ⊢
  go_enter Try.func114, Try.ntmps114
  go_wp2_with fail
  refine (HO.out _ HB0.out).mono ?_
  rintro e w1 ⟨rfl, F1, h1, h2, h3⟩
  have H1 := Lib.hid (And.intro h1 (And.intro h2 h3))
  clear h1 h2 h3
  go_wp2_with fail
  first | (refine bodyPost_end (results_none rfl _ _ _) rfl ?_) | (refine bodyPost_ret (results_none rfl _ _ _) rfl ?_)
  obtain ⟨h1, h2, h3⟩ := H1.out
  exact ⟨rfl, F1, h1, (Chg.of_below HB0.out F).trans h2 fun _ _ e => e, fun k hk => (h3 k hk).imp id fun e => Nat.le_trans HB0.out.size e⟩

theorem info_ev : (Try.prog.info? 68).map (·.size) = some 23 := by kernel_rfl

set_option maxRecDepth 100000 in
/-- a message for one that is linked -/
theorem step_msg (s : Sd) (f f' : Fs) (o' : Ot) (x0 x1 x2 x3 x4 x5 x6 x7 x8 x9 x10 x11 x12 x13 x14 x15 x16 x17 x18 : Value) (X : List Value) (hl : lk f = true)
    (hM : ∀ (F : Foot) (m : Nat) (w : World), Mc w F m s f ⟨false, false, false, false⟩ [] → Calls Try.prog 145 #[.pointer (some ⟨m, 0, none⟩), .agg #[x0, x1, x2, x3, x4, x5, x6, x7, x8, x9, x10, x11, x12, x13, x14, x15, x16, x17, x18]] w fun r w' => r = .returned (.tuple #[]) ∧ ∃ F', Mc w' F' m s f' o' X ∧ Chg F w w' ∧ Fresh w F F') :
    MStep s f (evV 6 [x0, x1, x2, x3, x4, x5, x6, x7, x8, x9, x10, x11, x12, x13, x14, x15, x16, x17, x18]) f' o' X := by
  intro F m w h
  have HO := Lib.hid (fun (w1 : World) (hb1 : Below w.heap.size w w1) => hM F m w1 (h.bel hb1))
  have HM := Lib.hid (fun (w1 : World) (hb1 : Below w.heap.size w w1) => h.bel hb1)
  have HL := Lib.hid (fun w => linked_any f w)
  have hB0 : Below w.heap.size w (w.alloc (.cells (evV 6 [x0, x1, x2, x3, x4, x5, x6, x7, x8, x9, x10, x11, x12, x13, x14, x15, x16, x17, x18]).toArray 68)) := (Below.refl _ _).alloc (Nat.le_refl _) _
  have HB0 := Lib.hid hB0
  have HR : Hid (∀ w1, Below (w.alloc (.cells (evV 6 [x0, x1, x2, x3, x4, x5, x6, x7, x8, x9, x10, x11, x12, x13, x14, x15, x16, x17, x18]).toArray 68)).heap.size (w.alloc (.cells (evV 6 [x0, x1, x2, x3, x4, x5, x6, x7, x8, x9, x10, x11, x12, x13, x14, x15, x16, x17, x18]).toArray 68)) w1 → w1.rangeAt w.heap.size 1 [x0, x1, x2, x3, x4, x5, x6, x7, x8, x9, x10, x11, x12, x13, x14, x15, x16, x17, x18]) := fun w1 hb1 => by
    have hk := (Bk.new w 68 (evV 6 [x0, x1, x2, x3, x4, x5, x6, x7, x8, x9, x10, x11, x12, x13, x14, x15, x16, x17, x18]).toArray).below hb1 (by simp)
    intro j v hj
    rw [hk.cell (1 + j)]
    have hlt : j < 19 := by have := (List.getElem?_eq_some_iff.1 hj).1; simpa using this
    simp only [evV, List.getElem?_toArray]
    rw [Nat.add_comm 1 j, List.getElem?_cons_succ, List.getElem?_append_left (by simpa using hlt)]
    exact hj
  have HS : Hid ((Try.prog.info? 66).map (·.size) = some 19) := info_m19
  rw [hl] at HL
  obtain ⟨A, n, c, hb, _⟩ := h.ex
  have qa := fun i => hb.cell i
  have ql := hb.lt
  simp only [mcV] at qa
  clear h hb hM hl hB0
  unfold evV at HB0 HR ⊢
  simp only [List.cons_append, List.nil_append] at HB0 HR ⊢
  obtain ⟨s0, s1, s2, s3, s4, s5⟩ := s
  obtain ⟨f0, f1, f2, f3, f4, p0, p1, p2, p3⟩ := f
  dsimp only at qa
  unfold fsV at HL
  dsimp only at HL
  go_enter Try.func114, Try.ntmps114
  go_wp2_with fail
  refine (HL.out _).mono ?_
  rintro e w1 ⟨rfl, hb1⟩
  have HR1 := Lib.hid (HR.out w1 hb1)
  have HB1 := Lib.hid (HB0.out.trans (hb1.mono (by simp)))
  clear hb1 HR qa ql HL HM
  go_wp2_with (refine wpList_load_mid rfl 66 (.tmp 64) rfl w.heap.size 1 (by rfl) [x0, x1, x2, x3, x4, x5, x6, x7, x8, x9, x10, x11, x12, x13, x14, x15, x16, x17, x18] _ HR1.out Try.underlying66 (by rfl) HS.out ?_)
  refine (HO.out _ HB1.out).mono ?_
  rintro e w3 ⟨rfl, F1, h1, h2, h3⟩
  have H1 := Lib.hid (And.intro h1 (And.intro h2 h3))
  clear h1 h2 h3
  go_wp2_with fail
  first | (refine bodyPost_end (results_none rfl _ _ _) rfl ?_) | (refine bodyPost_ret (results_none rfl _ _ _) rfl ?_)
  obtain ⟨h1, h2, h3⟩ := H1.out
  exact ⟨rfl, F1, h1, (Chg.of_below HB1.out F).trans h2 fun _ _ e => e, fun k hk => (h3 k hk).imp id fun e => Nat.le_trans HB1.out.size e⟩

theorem step_open (s : Sd) (f : Fs) (o1 o2 : Int) (hst : f.st = 3) (ho : (o2 == s.own) = false) (h3 : 3 ≤ max (min s.hold o1) 0) (h4 : max (min s.hold o1) 0 ≤ 1000000) :
    MStep s f (evV 6 (openV s.peer o1 o2 true)) (openF (max (min s.hold o1) 0) s.peer o1 o2) ⟨false, false, false, false⟩ keepV := by
  unfold openV
  refine step_msg s f _ _ _ _ _ _ _ _ _ _ _ _ _ _ _ _ _ _ _ _ _ _ (by simp [lk, hst]) fun F m w h => ?_
  exact message_open o1 o2 w (by simp) h hst ho h3 h4

theorem step_keep (s : Sd) (f : Fs) (hst : f.st = 4 ∨ f.st = 5) :
    MStep s f (evV 6 keepV) { f with st := 5, hl := f.hold } ⟨false, false, decide (f.st = 4), false⟩ [] := by
  unfold keepV
  refine step_msg s f _ _ _ _ _ _ _ _ _ _ _ _ _ _ _ _ _ _ _ _ _ _ (by rcases hst with h | h <;> simp [lk, h]) fun F m w h => ?_
  refine (message_keep w h (by rcases hst with h | h <;> simp [h])).mono ?_
  rintro e w' ⟨rfl, h1, h2⟩
  refine ⟨rfl, F, ?_, h2, Fresh.refl _ _⟩
  rcases hst with g | g
  · simp only [g, if_true, decide_true] at h1 ⊢
    exact h1
  · simp [g] at h1 ⊢
    exact h1
end Go.Proofs.Ytbhhkjkjihenoaa.fsm
