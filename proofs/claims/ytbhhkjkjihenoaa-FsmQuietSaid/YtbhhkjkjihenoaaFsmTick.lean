/- What fsm's tick returns and leaves in an established session. Conditions as each lemma states. -/
import Derived.Test.YtbhhkjkjihenoaaFsmUp
namespace Go.Proofs.Ytbhhkjkjihenoaa.fsm
open Go.RowKit Go.Proofs.Ytbhhkjkjihenoaa.kit Go.Proofs.Ytbhhkjkjihenoaa.mem Go.Proofs.Ytbhhkjkjihenoaa.foot
set_option linter.unusedVariables false
set_option linter.unusedSimpArgs false

theorem runs_pos (m off : Nat) (l : Int) (w : World) (hl : 1 ≤ l) (hu : l ≤ 9223372036854775807) (hc : w.cell? ⟨m, off, none⟩ = some (.int .i64 l)) (hf : w.frozen? ⟨m, off, none⟩ = false) (hm : m < w.heap.size) :
    Calls Try.prog 171 #[.pointer (some ⟨m, off, none⟩)] w fun e w' => e = .returned (.bool (runB l)) ∧ w' = w.setCell ⟨m, off, none⟩ (.int .i64 (l - 1)) := by
  refine (runs_any m off l w (by omega) hu hc hf hm).mono ?_
  rintro e w' ⟨rfl, h⟩
  rw [if_neg (by omega)] at h
  refine ⟨rfl, ?_⟩
  rw [h]
  unfold runV
  rw [if_neg (by omega)]
theorem runs_zero (m off : Nat) (w : World) (hc : w.cell? ⟨m, off, none⟩ = some (.int .i64 0)) (hf : w.frozen? ⟨m, off, none⟩ = false) (hm : m < w.heap.size) :
    Calls Try.prog 171 #[.pointer (some ⟨m, off, none⟩)] w fun e w' => e = .returned (.bool false) ∧ w' = w := by
  refine (runs_any m off 0 w (by omega) (by omega) hc hf hm).mono ?_
  rintro e w' ⟨rfl, h⟩
  exact ⟨rfl, by simpa using h⟩

/-- the state behind a tick in an established session; what is done; what is sent -/
def tickF (s : Sd) (f : Fs) : Fs := if f.hl = 1 then f0 s.retry else { f with hl := f.hl - 1, kl := if f.kl = 1 then f.hold / 3 else f.kl - 1 }
def tickO (f : Fs) (o : Ot) : Ot := if f.hl = 1 then { o with cls := true, lost := true } else o
def tickX (f : Fs) : List Value := if f.hl = 1 then noteV 4 0 else if f.kl = 1 then keepV else []

set_option maxRecDepth 100000 in
theorem tick_fall {F : Foot} {m : Nat} {s : Sd} {hold hl kl p0 p1 p2 : Int} {p3 : Bool} {o : Ot} {xs : List Value} (w : World) (hn : xs.length ≤ 18900) (h : Mc w F m s ⟨5, hold, hl, kl, 0, p0, p1, p2, p3⟩ o xs) (h1 : 1 ≤ hl) (h2 : 1 ≤ kl) (h3 : 3 ≤ hold) (h4 : hl ≤ 1000000) (h5 : kl ≤ 1000000) (h6 : hold ≤ 1000000) (h7 : hl = 1) :
    Calls Try.prog 143 #[.pointer (some ⟨m, 0, none⟩)] w fun e w' => e = .returned (.tuple #[]) ∧ ∃ F', Mc w' F' m s (f0 s.retry) { o with cls := true, lost := true } (xs ++ noteV 4 0) ∧ Chg F w w' ∧ Fresh w F F' := by
  obtain ⟨A, n, c, hb, _⟩ := h.ex
  have HR1 := Lib.hid (runs_pos m 8 hl w.drew h1 (by omega) (hb.cell 8) (hb.free 8) hb.lt)
  obtain ⟨w1, hw1⟩ : ∃ w1, w1 = w.drew.setCell ⟨m, 8, none⟩ (.int .i64 (hl - 1)) := ⟨_, rfl⟩
  rw [← hw1] at HR1
  have hbd : Bk w.drew m 172 (mcV s ⟨5, hold, hl, kl, 0, p0, p1, p2, p3⟩ A n c o) := hb
  have hb1 : Bk w1 m 172 (mcV s ⟨5, hold, hl - 1, kl, 0, p0, p1, p2, p3⟩ A n c o) := by rw [hw1]; have h := hbd.put 8 (.int .i64 (hl - 1)); simpa [mcV] using h
  have hc1 : Chg (fun k => k = m) w w1 := by rw [hw1]; exact ((Chg.refl (fun k => k = m) w).drew).put (p := ⟨m, 8, none⟩) (.inl rfl) _
  have HR2 := Lib.hid (runs_pos m 9 kl w1 h2 (by omega) (hb1.cell 9) (hb1.free 9) hb1.lt)
  obtain ⟨w2, hw2⟩ : ∃ w2, w2 = w1.setCell ⟨m, 9, none⟩ (.int .i64 (kl - 1)) := ⟨_, rfl⟩
  rw [← hw2] at HR2
  have hb2 : Bk w2 m 172 (mcV s ⟨5, hold, hl - 1, kl - 1, 0, p0, p1, p2, p3⟩ A n c o) := by rw [hw2]; have h := hb1.put 9 (.int .i64 (kl - 1)); simpa [mcV] using h
  have hc2 : Chg (fun k => k = m) w w2 := by rw [hw2]; exact hc1.put (p := ⟨m, 9, none⟩) (.inl rfl) _
  have HR3 := Lib.hid (runs_zero m 10 w2 (hb2.cell 10) (hb2.free 10) hb2.lt)
  obtain ⟨hm2, hC2⟩ := h.turn (f' := ⟨5, hold, hl - 1, kl - 1, 0, p0, p1, p2, p3⟩) (o' := o) hb hb2 hc2
  clear hw1 hw2 hbd hb1 hc1 hc2 h hb
  have qa := fun i => hb2.cell i
  have qf := fun i => hb2.free i
  have ql := hb2.lt
  simp only [mcV] at qa
  have HM2 := Lib.hid hm2
  have HC2 := Lib.hid hC2
  have HB2 := Lib.hid hb2
  obtain ⟨s0, s1, s2, s3, s4, s5⟩ := s
  dsimp only at qa
  have HFl := Lib.hid (fall_any 4 0 w2 (by omega) hm2)
  have hrb : runB hl = true := by simp [runB, h7]
  rw [hrb] at HR1
  clear hrb h7
  clear hm2 hC2 hb2
  go_enter Try.func143, Try.ntmps143
  go_wp2_with fail
  refine wp_region_any (by kernel_rfl) ?_
  try (change wpAny _ _ _ _ _ _ _ (World.drew _))
  refine wpAny_take (i := 0) (v := ?_) rfl (by kernel_rfl) (by kernel_rfl) (by kernel_rfl) (fun _ _ _ h => h) (Or.inl ⟨by rfl, ?_⟩) ?_
  rotate_left
  · (intro w; go_simp <;> with_reducible rfl)
  refine wpAny_take (i := 1) (v := ?_) rfl (by kernel_rfl) (by kernel_rfl) (by kernel_rfl) (fun _ _ _ h => h) (Or.inl ⟨by rfl, ?_⟩) ?_
  rotate_left
  · (intro w; go_simp <;> with_reducible rfl)
  refine wpAny_take (i := 2) (v := ?_) rfl (by kernel_rfl) (by kernel_rfl) (by kernel_rfl) (fun _ _ _ h => h) (Or.inl ⟨by rfl, ?_⟩) ?_
  rotate_left
  · (intro w; go_simp <;> with_reducible rfl)
  refine wpAny_take (i := 3) (v := ?_) rfl (by kernel_rfl) (by kernel_rfl) (by kernel_rfl) (fun _ _ _ h => h) (Or.inl ⟨by rfl, ?_⟩) ?_
  rotate_left
  · (intro w; go_simp <;> with_reducible rfl)
  refine wpAny_take (i := 5) (v := ?_) rfl (by kernel_rfl) (by kernel_rfl) (by kernel_rfl) (fun _ _ _ h => h) (Or.inl ⟨by rfl, ?_⟩) ?_
  rotate_left
  · (intro w; go_simp <;> with_reducible rfl)
  refine wpAny_take (i := 6) (v := ?_) rfl (by kernel_rfl) (by kernel_rfl) (by kernel_rfl) (fun _ _ _ h => h) (Or.inl ⟨by rfl, ?_⟩) ?_
  rotate_left
  · (intro w; go_simp <;> with_reducible rfl)
  refine wpAny_take (i := 7) (v := ?_) rfl (by kernel_rfl) (by kernel_rfl) (by kernel_rfl) (fun _ _ _ h => h) (Or.inl ⟨by rfl, ?_⟩) ?_
  rotate_left
  · (intro w; go_simp <;> with_reducible rfl)
  refine wpAny_take (i := 8) (v := ?_) rfl (by kernel_rfl) (by kernel_rfl) (by kernel_rfl) (fun _ _ _ h => h) (Or.inl ⟨by rfl, ?_⟩) ?_
  rotate_left
  · (intro w; go_simp <;> with_reducible rfl)
  refine wpAny_take (i := 10) (v := ?_) rfl (by kernel_rfl) (by kernel_rfl) (by kernel_rfl) (fun _ _ _ h => h) (Or.inl ⟨by rfl, ?_⟩) ?_
  rotate_left
  · (intro w; go_simp <;> with_reducible rfl)
  refine wpAny_take (i := 11) (v := ?_) rfl (by kernel_rfl) (by kernel_rfl) (by kernel_rfl) (fun _ _ _ h => h) (Or.inl ⟨by rfl, ?_⟩) ?_
  rotate_left
  · (intro w; go_simp <;> with_reducible rfl)
  refine wpAny_take (i := 12) (v := ?_) rfl (by kernel_rfl) (by kernel_rfl) (by kernel_rfl) (fun _ _ _ h => h) (Or.inl ⟨by rfl, ?_⟩) ?_
  rotate_left
  · (intro w; go_simp <;> with_reducible rfl)
  refine wpAny_take (i := 13) (v := ?_) rfl (by kernel_rfl) (by kernel_rfl) (by kernel_rfl) (fun _ _ _ h => h) (Or.inl ⟨by rfl, ?_⟩) ?_
  rotate_left
  · (intro w; go_simp <;> with_reducible rfl)
  refine wpAny_ready (rs := [4]) (by kernel_rfl) (by simp) ?_
  refine AllReady.cons (o := _) rfl (fun K hK => ?_) AllReady.nil
  go_simp
  refine HR1.out.mono ?_
  rintro e wa ⟨rfl, rfl⟩
  try go_simp
  refine hK _ _ ?_
  clear hK K
  refine wpAny_ready (rs := [9]) (by kernel_rfl) (by simp) ?_
  refine AllReady.cons (o := _) rfl (fun K hK => ?_) AllReady.nil
  go_simp
  refine HR2.out.mono ?_
  rintro e wa ⟨rfl, rfl⟩
  try go_simp
  refine hK _ _ ?_
  clear hK K
  refine wpAny_ready (rs := [14]) (by kernel_rfl) (by simp) ?_
  refine AllReady.cons (o := _) rfl (fun K hK => ?_) AllReady.nil
  go_simp
  refine HR3.out.mono ?_
  rintro e wa ⟨rfl, hwa⟩
  subst hwa
  try go_simp
  refine hK _ _ ?_
  clear hK K
  refine wpAny_take (i := 15) (v := ?_) rfl (by kernel_rfl) (by kernel_rfl) (by kernel_rfl) (fun _ _ _ h => h) (Or.inl ⟨by rfl, ?_⟩) ?_
  rotate_left
  · (intro w; go_simp <;> with_reducible rfl)
  refine wpAny_take (i := 16) (v := ?_) rfl (by kernel_rfl) (by kernel_rfl) (by kernel_rfl) (fun _ _ _ h => h) (Or.inl ⟨by rfl, ?_⟩) ?_
  rotate_left
  · (intro w; go_simp <;> with_reducible rfl)
  refine wpAny_take (i := 17) (v := ?_) rfl (by kernel_rfl) (by kernel_rfl) (by kernel_rfl) (fun _ _ _ h => h) (Or.inl ⟨by rfl, ?_⟩) ?_
  rotate_left
  · (intro w; go_simp <;> with_reducible rfl)
  refine wpAny_done (by kernel_rfl) ?_ _
  
  go_wp2_with fail
  refine HFl.out.mono ?_
  rintro e w3 ⟨rfl, F1, g1, g2, g3⟩
  have HG := Lib.hid (And.intro g1 (And.intro g2 g3))
  clear g1 g2 g3
  go_wp2_with fail
  first | (refine bodyPost_end (results_none rfl _ _ _) rfl ?_) | (refine bodyPost_ret (results_none rfl _ _ _) rfl ?_)
  obtain ⟨g1, g2, g3⟩ := HG.out
  exact ⟨rfl, F1, g1, HC2.out.trans g2 fun _ _ e => e, fun k hk => (g3 k hk).imp id fun e => Nat.le_trans HC2.out.size e⟩

set_option maxRecDepth 100000 in
theorem tick_keep {F : Foot} {m : Nat} {s : Sd} {hold hl kl p0 p1 p2 : Int} {p3 : Bool} {o : Ot} {xs : List Value} (w : World) (hn : xs.length ≤ 18900) (h : Mc w F m s ⟨5, hold, hl, kl, 0, p0, p1, p2, p3⟩ o xs) (h1 : 1 ≤ hl) (h2 : 1 ≤ kl) (h3 : 3 ≤ hold) (h4 : hl ≤ 1000000) (h5 : kl ≤ 1000000) (h6 : hold ≤ 1000000) (h7 : 2 ≤ hl) (h8 : kl = 1) :
    Calls Try.prog 143 #[.pointer (some ⟨m, 0, none⟩)] w fun e w' => e = .returned (.tuple #[]) ∧ ∃ F', Mc w' F' m s ⟨5, hold, hl - 1, hold / 3, 0, p0, p1, p2, p3⟩ o (xs ++ keepV) ∧ Chg F w w' ∧ Fresh w F F' := by
  obtain ⟨A, n, c, hb, _⟩ := h.ex
  have HR1 := Lib.hid (runs_pos m 8 hl w.drew h1 (by omega) (hb.cell 8) (hb.free 8) hb.lt)
  obtain ⟨w1, hw1⟩ : ∃ w1, w1 = w.drew.setCell ⟨m, 8, none⟩ (.int .i64 (hl - 1)) := ⟨_, rfl⟩
  rw [← hw1] at HR1
  have hbd : Bk w.drew m 172 (mcV s ⟨5, hold, hl, kl, 0, p0, p1, p2, p3⟩ A n c o) := hb
  have hb1 : Bk w1 m 172 (mcV s ⟨5, hold, hl - 1, kl, 0, p0, p1, p2, p3⟩ A n c o) := by rw [hw1]; have h := hbd.put 8 (.int .i64 (hl - 1)); simpa [mcV] using h
  have hc1 : Chg (fun k => k = m) w w1 := by rw [hw1]; exact ((Chg.refl (fun k => k = m) w).drew).put (p := ⟨m, 8, none⟩) (.inl rfl) _
  have HR2 := Lib.hid (runs_pos m 9 kl w1 h2 (by omega) (hb1.cell 9) (hb1.free 9) hb1.lt)
  obtain ⟨w2, hw2⟩ : ∃ w2, w2 = w1.setCell ⟨m, 9, none⟩ (.int .i64 (kl - 1)) := ⟨_, rfl⟩
  rw [← hw2] at HR2
  have hb2 : Bk w2 m 172 (mcV s ⟨5, hold, hl - 1, kl - 1, 0, p0, p1, p2, p3⟩ A n c o) := by rw [hw2]; have h := hb1.put 9 (.int .i64 (kl - 1)); simpa [mcV] using h
  have hc2 : Chg (fun k => k = m) w w2 := by rw [hw2]; exact hc1.put (p := ⟨m, 9, none⟩) (.inl rfl) _
  have HR3 := Lib.hid (runs_zero m 10 w2 (hb2.cell 10) (hb2.free 10) hb2.lt)
  obtain ⟨hm2, hC2⟩ := h.turn (f' := ⟨5, hold, hl - 1, kl - 1, 0, p0, p1, p2, p3⟩) (o' := o) hb hb2 hc2
  clear hw1 hw2 hbd hb1 hc1 hc2 h hb
  have qa := fun i => hb2.cell i
  have qf := fun i => hb2.free i
  have ql := hb2.lt
  simp only [mcV] at qa
  have HM2 := Lib.hid hm2
  have HC2 := Lib.hid hC2
  have HB2 := Lib.hid hb2
  obtain ⟨s0, s1, s2, s3, s4, s5⟩ := s
  dsimp only at qa
  have HKp := Lib.hid (keep_any w2 (by omega) hm2)
  have hrb : runB hl = false := by simp [runB]; omega
  have hrk : runB kl = true := by simp [runB, h8]
  rw [hrb] at HR1
  rw [hrk] at HR2
  have HKo := Lib.hid (fun w => KeepOf_any hold ⟨h3, by omega⟩ w)
  clear hrb hrk h7 h8
  clear hm2 hC2 hb2
  go_enter Try.func143, Try.ntmps143
  go_wp2_with fail
  refine wp_region_any (by kernel_rfl) ?_
  try (change wpAny _ _ _ _ _ _ _ (World.drew _))
  refine wpAny_take (i := 0) (v := ?_) rfl (by kernel_rfl) (by kernel_rfl) (by kernel_rfl) (fun _ _ _ h => h) (Or.inl ⟨by rfl, ?_⟩) ?_
  rotate_left
  · (intro w; go_simp <;> with_reducible rfl)
  refine wpAny_take (i := 1) (v := ?_) rfl (by kernel_rfl) (by kernel_rfl) (by kernel_rfl) (fun _ _ _ h => h) (Or.inl ⟨by rfl, ?_⟩) ?_
  rotate_left
  · (intro w; go_simp <;> with_reducible rfl)
  refine wpAny_take (i := 2) (v := ?_) rfl (by kernel_rfl) (by kernel_rfl) (by kernel_rfl) (fun _ _ _ h => h) (Or.inl ⟨by rfl, ?_⟩) ?_
  rotate_left
  · (intro w; go_simp <;> with_reducible rfl)
  refine wpAny_take (i := 3) (v := ?_) rfl (by kernel_rfl) (by kernel_rfl) (by kernel_rfl) (fun _ _ _ h => h) (Or.inl ⟨by rfl, ?_⟩) ?_
  rotate_left
  · (intro w; go_simp <;> with_reducible rfl)
  refine wpAny_take (i := 5) (v := ?_) rfl (by kernel_rfl) (by kernel_rfl) (by kernel_rfl) (fun _ _ _ h => h) (Or.inl ⟨by rfl, ?_⟩) ?_
  rotate_left
  · (intro w; go_simp <;> with_reducible rfl)
  refine wpAny_take (i := 6) (v := ?_) rfl (by kernel_rfl) (by kernel_rfl) (by kernel_rfl) (fun _ _ _ h => h) (Or.inl ⟨by rfl, ?_⟩) ?_
  rotate_left
  · (intro w; go_simp <;> with_reducible rfl)
  refine wpAny_take (i := 7) (v := ?_) rfl (by kernel_rfl) (by kernel_rfl) (by kernel_rfl) (fun _ _ _ h => h) (Or.inl ⟨by rfl, ?_⟩) ?_
  rotate_left
  · (intro w; go_simp <;> with_reducible rfl)
  refine wpAny_take (i := 8) (v := ?_) rfl (by kernel_rfl) (by kernel_rfl) (by kernel_rfl) (fun _ _ _ h => h) (Or.inl ⟨by rfl, ?_⟩) ?_
  rotate_left
  · (intro w; go_simp <;> with_reducible rfl)
  refine wpAny_take (i := 10) (v := ?_) rfl (by kernel_rfl) (by kernel_rfl) (by kernel_rfl) (fun _ _ _ h => h) (Or.inl ⟨by rfl, ?_⟩) ?_
  rotate_left
  · (intro w; go_simp <;> with_reducible rfl)
  refine wpAny_take (i := 11) (v := ?_) rfl (by kernel_rfl) (by kernel_rfl) (by kernel_rfl) (fun _ _ _ h => h) (Or.inl ⟨by rfl, ?_⟩) ?_
  rotate_left
  · (intro w; go_simp <;> with_reducible rfl)
  refine wpAny_take (i := 12) (v := ?_) rfl (by kernel_rfl) (by kernel_rfl) (by kernel_rfl) (fun _ _ _ h => h) (Or.inl ⟨by rfl, ?_⟩) ?_
  rotate_left
  · (intro w; go_simp <;> with_reducible rfl)
  refine wpAny_take (i := 13) (v := ?_) rfl (by kernel_rfl) (by kernel_rfl) (by kernel_rfl) (fun _ _ _ h => h) (Or.inl ⟨by rfl, ?_⟩) ?_
  rotate_left
  · (intro w; go_simp <;> with_reducible rfl)
  refine wpAny_ready (rs := [4]) (by kernel_rfl) (by simp) ?_
  refine AllReady.cons (o := _) rfl (fun K hK => ?_) AllReady.nil
  go_simp
  refine HR1.out.mono ?_
  rintro e wa ⟨rfl, rfl⟩
  try go_simp
  refine hK _ _ ?_
  clear hK K
  refine wpAny_ready (rs := [9]) (by kernel_rfl) (by simp) ?_
  refine AllReady.cons (o := _) rfl (fun K hK => ?_) AllReady.nil
  go_simp
  refine HR2.out.mono ?_
  rintro e wa ⟨rfl, rfl⟩
  try go_simp
  refine hK _ _ ?_
  clear hK K
  refine wpAny_ready (rs := [14]) (by kernel_rfl) (by simp) ?_
  refine AllReady.cons (o := _) rfl (fun K hK => ?_) AllReady.nil
  go_simp
  refine HR3.out.mono ?_
  rintro e wa ⟨rfl, hwa⟩
  subst hwa
  try go_simp
  refine hK _ _ ?_
  clear hK K
  refine wpAny_take (i := 15) (v := ?_) rfl (by kernel_rfl) (by kernel_rfl) (by kernel_rfl) (fun _ _ _ h => h) (Or.inl ⟨by rfl, ?_⟩) ?_
  rotate_left
  · (intro w; go_simp <;> with_reducible rfl)
  refine wpAny_take (i := 16) (v := ?_) rfl (by kernel_rfl) (by kernel_rfl) (by kernel_rfl) (fun _ _ _ h => h) (Or.inl ⟨by rfl, ?_⟩) ?_
  rotate_left
  · (intro w; go_simp <;> with_reducible rfl)
  refine wpAny_take (i := 17) (v := ?_) rfl (by kernel_rfl) (by kernel_rfl) (by kernel_rfl) (fun _ _ _ h => h) (Or.inl ⟨by rfl, ?_⟩) ?_
  rotate_left
  · (intro w; go_simp <;> with_reducible rfl)
  refine wpAny_done (by kernel_rfl) ?_ _
  
  go_wp2_with fail
  refine HKp.out.mono ?_
  rintro e w3 ⟨rfl, F1, g1, g2, g3⟩
  obtain ⟨A1, n1', c1, hb3, _⟩ := g1.ex
  have HG := Lib.hid (And.intro g1 (And.intro g2 g3))
  have HB3 := Lib.hid hb3
  have qa3 := fun i => hb3.cell i
  have qf3 := fun i => hb3.free i
  have ql3 := hb3.lt
  simp only [mcV] at qa3
  clear g1 g2 g3 hb3 qa qf ql
  go_wp2_with fail
  refine (HKo.out _).mono ?_
  rintro e w4 ⟨rfl, hw4⟩
  subst hw4
  go_wp2_with fail
  first | (refine bodyPost_end (results_none rfl _ _ _) rfl ?_) | (refine bodyPost_ret (results_none rfl _ _ _) rfl ?_)
  obtain ⟨g1, g2, g3⟩ := HG.out
  obtain ⟨j1, j2⟩ := bk_stores [.int .i64 (hold / 3)] 9 HB3.out
  obtain ⟨k1, k2⟩ := g1.turn (f' := ⟨5, hold, hl - 1, hold / 3, 0, p0, p1, p2, p3⟩) (o' := o) HB3.out (by have h := j1; simpa [putL, mcV] using h) j2
  have hf : Fresh w F F1 := fun k hk => (g3 k hk).imp id fun e => Nat.le_trans HC2.out.size e
  exact ⟨rfl, F1, k1, (HC2.out.trans g2 fun _ _ e => e).step hf k2, hf⟩

set_option maxRecDepth 100000 in
theorem tick_none {F : Foot} {m : Nat} {s : Sd} {hold hl kl p0 p1 p2 : Int} {p3 : Bool} {o : Ot} {xs : List Value} (w : World) (hn : xs.length ≤ 18900) (h : Mc w F m s ⟨5, hold, hl, kl, 0, p0, p1, p2, p3⟩ o xs) (h1 : 1 ≤ hl) (h2 : 1 ≤ kl) (h3 : 3 ≤ hold) (h4 : hl ≤ 1000000) (h5 : kl ≤ 1000000) (h6 : hold ≤ 1000000) (h7 : 2 ≤ hl) (h8 : 2 ≤ kl) :
    Calls Try.prog 143 #[.pointer (some ⟨m, 0, none⟩)] w fun e w' => e = .returned (.tuple #[]) ∧ ∃ F', Mc w' F' m s ⟨5, hold, hl - 1, kl - 1, 0, p0, p1, p2, p3⟩ o (xs) ∧ Chg F w w' ∧ Fresh w F F' := by
  obtain ⟨A, n, c, hb, _⟩ := h.ex
  have HR1 := Lib.hid (runs_pos m 8 hl w.drew h1 (by omega) (hb.cell 8) (hb.free 8) hb.lt)
  obtain ⟨w1, hw1⟩ : ∃ w1, w1 = w.drew.setCell ⟨m, 8, none⟩ (.int .i64 (hl - 1)) := ⟨_, rfl⟩
  rw [← hw1] at HR1
  have hbd : Bk w.drew m 172 (mcV s ⟨5, hold, hl, kl, 0, p0, p1, p2, p3⟩ A n c o) := hb
  have hb1 : Bk w1 m 172 (mcV s ⟨5, hold, hl - 1, kl, 0, p0, p1, p2, p3⟩ A n c o) := by rw [hw1]; have h := hbd.put 8 (.int .i64 (hl - 1)); simpa [mcV] using h
  have hc1 : Chg (fun k => k = m) w w1 := by rw [hw1]; exact ((Chg.refl (fun k => k = m) w).drew).put (p := ⟨m, 8, none⟩) (.inl rfl) _
  have HR2 := Lib.hid (runs_pos m 9 kl w1 h2 (by omega) (hb1.cell 9) (hb1.free 9) hb1.lt)
  obtain ⟨w2, hw2⟩ : ∃ w2, w2 = w1.setCell ⟨m, 9, none⟩ (.int .i64 (kl - 1)) := ⟨_, rfl⟩
  rw [← hw2] at HR2
  have hb2 : Bk w2 m 172 (mcV s ⟨5, hold, hl - 1, kl - 1, 0, p0, p1, p2, p3⟩ A n c o) := by rw [hw2]; have h := hb1.put 9 (.int .i64 (kl - 1)); simpa [mcV] using h
  have hc2 : Chg (fun k => k = m) w w2 := by rw [hw2]; exact hc1.put (p := ⟨m, 9, none⟩) (.inl rfl) _
  have HR3 := Lib.hid (runs_zero m 10 w2 (hb2.cell 10) (hb2.free 10) hb2.lt)
  obtain ⟨hm2, hC2⟩ := h.turn (f' := ⟨5, hold, hl - 1, kl - 1, 0, p0, p1, p2, p3⟩) (o' := o) hb hb2 hc2
  clear hw1 hw2 hbd hb1 hc1 hc2 h hb
  have qa := fun i => hb2.cell i
  have qf := fun i => hb2.free i
  have ql := hb2.lt
  simp only [mcV] at qa
  have HM2 := Lib.hid hm2
  have HC2 := Lib.hid hC2
  have HB2 := Lib.hid hb2
  obtain ⟨s0, s1, s2, s3, s4, s5⟩ := s
  dsimp only at qa
  have hrb : runB hl = false := by simp [runB]; omega
  have hrk : runB kl = false := by simp [runB]; omega
  rw [hrb] at HR1
  rw [hrk] at HR2
  clear hrb hrk h7 h8
  clear hm2 hC2 hb2
  go_enter Try.func143, Try.ntmps143
  go_wp2_with fail
  refine wp_region_any (by kernel_rfl) ?_
  try (change wpAny _ _ _ _ _ _ _ (World.drew _))
  refine wpAny_take (i := 0) (v := ?_) rfl (by kernel_rfl) (by kernel_rfl) (by kernel_rfl) (fun _ _ _ h => h) (Or.inl ⟨by rfl, ?_⟩) ?_
  rotate_left
  · (intro w; go_simp <;> with_reducible rfl)
  refine wpAny_take (i := 1) (v := ?_) rfl (by kernel_rfl) (by kernel_rfl) (by kernel_rfl) (fun _ _ _ h => h) (Or.inl ⟨by rfl, ?_⟩) ?_
  rotate_left
  · (intro w; go_simp <;> with_reducible rfl)
  refine wpAny_take (i := 2) (v := ?_) rfl (by kernel_rfl) (by kernel_rfl) (by kernel_rfl) (fun _ _ _ h => h) (Or.inl ⟨by rfl, ?_⟩) ?_
  rotate_left
  · (intro w; go_simp <;> with_reducible rfl)
  refine wpAny_take (i := 3) (v := ?_) rfl (by kernel_rfl) (by kernel_rfl) (by kernel_rfl) (fun _ _ _ h => h) (Or.inl ⟨by rfl, ?_⟩) ?_
  rotate_left
  · (intro w; go_simp <;> with_reducible rfl)
  refine wpAny_take (i := 5) (v := ?_) rfl (by kernel_rfl) (by kernel_rfl) (by kernel_rfl) (fun _ _ _ h => h) (Or.inl ⟨by rfl, ?_⟩) ?_
  rotate_left
  · (intro w; go_simp <;> with_reducible rfl)
  refine wpAny_take (i := 6) (v := ?_) rfl (by kernel_rfl) (by kernel_rfl) (by kernel_rfl) (fun _ _ _ h => h) (Or.inl ⟨by rfl, ?_⟩) ?_
  rotate_left
  · (intro w; go_simp <;> with_reducible rfl)
  refine wpAny_take (i := 7) (v := ?_) rfl (by kernel_rfl) (by kernel_rfl) (by kernel_rfl) (fun _ _ _ h => h) (Or.inl ⟨by rfl, ?_⟩) ?_
  rotate_left
  · (intro w; go_simp <;> with_reducible rfl)
  refine wpAny_take (i := 8) (v := ?_) rfl (by kernel_rfl) (by kernel_rfl) (by kernel_rfl) (fun _ _ _ h => h) (Or.inl ⟨by rfl, ?_⟩) ?_
  rotate_left
  · (intro w; go_simp <;> with_reducible rfl)
  refine wpAny_take (i := 10) (v := ?_) rfl (by kernel_rfl) (by kernel_rfl) (by kernel_rfl) (fun _ _ _ h => h) (Or.inl ⟨by rfl, ?_⟩) ?_
  rotate_left
  · (intro w; go_simp <;> with_reducible rfl)
  refine wpAny_take (i := 11) (v := ?_) rfl (by kernel_rfl) (by kernel_rfl) (by kernel_rfl) (fun _ _ _ h => h) (Or.inl ⟨by rfl, ?_⟩) ?_
  rotate_left
  · (intro w; go_simp <;> with_reducible rfl)
  refine wpAny_take (i := 12) (v := ?_) rfl (by kernel_rfl) (by kernel_rfl) (by kernel_rfl) (fun _ _ _ h => h) (Or.inl ⟨by rfl, ?_⟩) ?_
  rotate_left
  · (intro w; go_simp <;> with_reducible rfl)
  refine wpAny_take (i := 13) (v := ?_) rfl (by kernel_rfl) (by kernel_rfl) (by kernel_rfl) (fun _ _ _ h => h) (Or.inl ⟨by rfl, ?_⟩) ?_
  rotate_left
  · (intro w; go_simp <;> with_reducible rfl)
  refine wpAny_ready (rs := [4]) (by kernel_rfl) (by simp) ?_
  refine AllReady.cons (o := _) rfl (fun K hK => ?_) AllReady.nil
  go_simp
  refine HR1.out.mono ?_
  rintro e wa ⟨rfl, rfl⟩
  try go_simp
  refine hK _ _ ?_
  clear hK K
  refine wpAny_ready (rs := [9]) (by kernel_rfl) (by simp) ?_
  refine AllReady.cons (o := _) rfl (fun K hK => ?_) AllReady.nil
  go_simp
  refine HR2.out.mono ?_
  rintro e wa ⟨rfl, rfl⟩
  try go_simp
  refine hK _ _ ?_
  clear hK K
  refine wpAny_ready (rs := [14]) (by kernel_rfl) (by simp) ?_
  refine AllReady.cons (o := _) rfl (fun K hK => ?_) AllReady.nil
  go_simp
  refine HR3.out.mono ?_
  rintro e wa ⟨rfl, hwa⟩
  subst hwa
  try go_simp
  refine hK _ _ ?_
  clear hK K
  refine wpAny_take (i := 15) (v := ?_) rfl (by kernel_rfl) (by kernel_rfl) (by kernel_rfl) (fun _ _ _ h => h) (Or.inl ⟨by rfl, ?_⟩) ?_
  rotate_left
  · (intro w; go_simp <;> with_reducible rfl)
  refine wpAny_take (i := 16) (v := ?_) rfl (by kernel_rfl) (by kernel_rfl) (by kernel_rfl) (fun _ _ _ h => h) (Or.inl ⟨by rfl, ?_⟩) ?_
  rotate_left
  · (intro w; go_simp <;> with_reducible rfl)
  refine wpAny_take (i := 17) (v := ?_) rfl (by kernel_rfl) (by kernel_rfl) (by kernel_rfl) (fun _ _ _ h => h) (Or.inl ⟨by rfl, ?_⟩) ?_
  rotate_left
  · (intro w; go_simp <;> with_reducible rfl)
  refine wpAny_done (by kernel_rfl) ?_ _
  
  go_wp2_with fail
  refine bodyPost_ret (results_none rfl _ _ _) rfl ?_
  exact ⟨rfl, F, HM2.out, HC2.out, Fresh.refl _ _⟩

theorem tick_any {F : Foot} {m : Nat} {s : Sd} {hold hl kl p0 p1 p2 : Int} {p3 : Bool} {o : Ot} {xs : List Value} (w : World) (hn : xs.length ≤ 18900) (h : Mc w F m s ⟨5, hold, hl, kl, 0, p0, p1, p2, p3⟩ o xs) (h1 : 1 ≤ hl) (h2 : 1 ≤ kl) (h3 : 3 ≤ hold) (h4 : hl ≤ 1000000) (h5 : kl ≤ 1000000) (h6 : hold ≤ 1000000) :
    Calls Try.prog 143 #[.pointer (some ⟨m, 0, none⟩)] w fun e w' => e = .returned (.tuple #[]) ∧ ∃ F', Mc w' F' m s (tickF s ⟨5, hold, hl, kl, 0, p0, p1, p2, p3⟩) (tickO ⟨5, hold, hl, kl, 0, p0, p1, p2, p3⟩ o) (xs ++ tickX ⟨5, hold, hl, kl, 0, p0, p1, p2, p3⟩) ∧ Chg F w w' ∧ Fresh w F F' := by
  unfold tickF tickO tickX
  by_cases h7 : hl = 1
  · simp only [if_pos h7]
    exact tick_fall w hn h h1 h2 h3 h4 h5 h6 h7
  · simp only [if_neg h7]
    by_cases h8 : kl = 1
    · simp only [if_pos h8]
      exact tick_keep w hn h h1 h2 h3 h4 h5 h6 (by omega) h8
    · simp only [if_neg h8, List.append_nil]
      exact tick_none w hn h h1 h2 h3 h4 h5 h6 (by omega) (by omega)
end Go.Proofs.Ytbhhkjkjihenoaa.fsm
