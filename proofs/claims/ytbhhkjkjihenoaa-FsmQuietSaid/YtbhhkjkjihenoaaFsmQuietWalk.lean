/- That a session in which the neighbor is not heard falls, and one that hears it lives (the law FsmQuiet). No condition. -/
import Derived.Test.YtbhhkjkjihenoaaFsmLives
namespace Go.Proofs.Ytbhhkjkjihenoaa.fsmQuiet
open Go.RowKit Go.Proofs.Ytbhhkjkjihenoaa.kit Go.Proofs.Ytbhhkjkjihenoaa.mem Go.Proofs.Ytbhhkjkjihenoaa.foot Go.Proofs.Ytbhhkjkjihenoaa.fsm
set_option linter.unusedVariables false
set_option linter.unusedSimpArgs false

/-- the law's memory -/
structure QM (W : World) (sh oh : Int) (g9 g10 g13 : Nat) (f g : Fs) (wr : World) : Prop where
  bs : Bk wr W.heap.size 53 #[.int .u32 1, .int .u32 1, .int .u32 2, .int .i64 sh, .int .i64 5, .bool false]
  b9 : Bk wr g9 68 #[.int .i64 6, .int .i64 4, .int .u32 0, .int .i64 0, .int .u32 0, .bool false, .slice none 0 0, .int .i64 0, .int .i64 0, .slice none 0 0, .int .u32 0, .int .u32 0, .int .u32 0, .int .u32 0, .int .u32 0, .slice none 0 0, .slice none 0 0, .int .i64 0, .int .i64 0, .slice none 0 0, .int .i64 0, .int .i64 0, .slice none 0 0]
  b10 : Bk wr g10 70 (fsV f).toArray
  b13 : Bk wr g13 70 (fsV g).toArray
  ne : W.heap.size + 1 < g9 ∧ g9 < g10 ∧ g10 < g13
  bel : Below W.heap.size W wr
section
variable {W wr w8 : World} {sh oh : Int} {g9 g10 g13 gk : Nat} {f f' g g' : Fs} {V : List Value}
theorem QM.belw (h : QM W sh oh g9 g10 g13 f g wr) (hb : Below wr.heap.size wr w8) : QM W sh oh g9 g10 g13 f g w8 :=
  ⟨h.bs.below hb h.bs.lt, h.b9.below hb h.b9.lt, h.b10.below hb h.b10.lt, h.b13.below hb h.b13.lt, h.ne, h.bel.trans (hb.mono h.bel.size)⟩
theorem QM.tick (h : QM W sh oh g9 g10 g13 f g wr) (hb : Below wr.heap.size wr w8) (hg : wr.heap.size ≤ gk) : QM W sh oh g9 g10 g13 f' g (stores (stores w8 g10 0 (fsV f')) gk 0 V) := by
  have h3 := h.belw hb
  have c1 := stores_chg (g := g10) (fsV f') 0 w8
  have c2 := stores_chg (g := gk) V 0 (stores w8 g10 0 (fsV f'))
  have l1 := h.bs.lt
  have l2 := h.b9.lt
  have l3 := h.b10.lt
  have l4 := h.b13.lt
  obtain ⟨n1, n2, n3⟩ := h.ne
  have hbel1 := h3.bel.trans (c1.below (fun k e => by have e : k = g10 := e; omega) h3.bel.size)
  exact ⟨(h3.bs.chg c1 (by show ¬ _; omega)).chg c2 (by show ¬ _; omega), (h3.b9.chg c1 (by show ¬ _; omega)).chg c2 (by show ¬ _; omega), (stores_all (fsV f') h3.b10 rfl).chg c2 (by show ¬ _; omega), (h3.b13.chg c1 (by show ¬ _; omega)).chg c2 (by show ¬ _; omega), h.ne, hbel1.trans (c2.below (fun k e => by have e : k = gk := e; omega) hbel1.size)⟩
theorem QM.run (h : QM W sh oh g9 g10 g13 f g wr) (hb : Below wr.heap.size wr w8) : QM W sh oh g9 g10 g13 f g' (stores w8 g13 0 (fsV g')) := by
  have h3 := h.belw hb
  have c1 := stores_chg (g := g13) (fsV g') 0 w8
  have l1 := h.bs.lt
  have l2 := h.b9.lt
  have l3 := h.b10.lt
  have l4 := h.b13.lt
  obtain ⟨n1, n2, n3⟩ := h.ne
  exact ⟨h3.bs.chg c1 (by show ¬ _; omega), h3.b9.chg c1 (by show ¬ _; omega), h3.b10.chg c1 (by show ¬ _; omega), stores_all (fsV g') h3.b13 rfl, h.ne, h3.bel.trans (c1.below (fun k e => by have e : k = g13 := e; omega) h3.bel.size)⟩
end

/-- a tick and a message that one lives -/
theorem pair_runs (sh oh h kl : Int) (h3 : 3 ≤ h) (h6 : h ≤ 258) (k1 : 1 ≤ kl) (k2 : kl ≤ 1000000) : Runs (sideOf sh) (estF h oh h kl) [evV 5 keepZ, evV 6 keepV] (estF h oh h (if kl = 1 then h / 3 else kl - 1)) [⟨false, false, false, false⟩, ⟨false, false, false, false⟩] := by
  have h1 := step_tick (sideOf sh) h h kl 2 oh 2 true (by omega) k1 h3 (by omega) k2 (by omega)
  have hne : ¬ h = 1 := by omega
  unfold tickF tickO tickX at h1
  simp only [if_neg hne] at h1
  refine .cons h1 rfl (one_evV _ _ one_keepZ) (.cons (step_keep (sideOf sh) _ (.inr rfl)) rfl (one_evV _ _ one_keepV) ?_)
  exact .nil _
theorem pairRun (sh oh h kl : Int) (h3 : 3 ≤ h) (h6 : h ≤ 258) (k1 : 1 ≤ kl) (k2 : kl ≤ 1000000) (w2 : World) : Calls Try.prog 33 #[.agg (sdV (sideOf sh)).toArray, .agg (fsV (estF h oh h kl)).toArray, .slice (some ⟨w2.heap.size, 0, none⟩) 2 2] (w2.alloc (.cells ([evV 5 keepZ, evV 6 keepV].flatten).toArray 68)) fun r w' => ∃ A' c', r = .returned (.tuple #[.agg (fsV (estF h oh h (if kl = 1 then h / 3 else kl - 1))).toArray, .slice A' 2 c']) ∧ Below w2.heap.size w2 w' :=
  (Run_any (pair_runs sh oh h kl h3 h6 k1 k2) (show (2 : Nat) ≤ 10 by decide) (w2.alloc (.cells ([evV 5 keepZ, evV 6 keepV].flatten).toArray 68)) (some ⟨w2.heap.size, 0, none⟩) 2 (Rg.new w2 68 23 2 ([evV 5 keepZ, evV 6 keepV].flatten).toArray (by rfl))).mono (by
    rintro r w' ⟨A', c', xs, rfl, _, _, _, hb⟩
    exact ⟨A', c', rfl, ((Below.refl _ _).alloc (Nat.le_refl _) _).trans (hb.mono (by simp))⟩)
/-- the last tick; one before -/
theorem tickLast (sh oh h kl : Int) (h3 : 3 ≤ h) (h6 : h ≤ 258) (k1 : 1 ≤ kl) (k2 : kl ≤ 1000000) (w : World) : Calls Try.prog 34 #[.agg (sdV (sideOf sh)).toArray, .agg (fsV (estF h oh 1 kl)).toArray, .agg (evV 5 keepZ).toArray] w (RetS w (f0 5) ⟨false, true, false, true⟩ (noteV 4 0)) := by
  have h1 := step_tick (sideOf sh) h 1 kl 2 oh 2 true (by omega) k1 h3 (by omega) k2 (by omega)
  unfold tickF tickO tickX at h1
  simp only [if_true] at h1
  exact Step_any rfl h1 w
theorem tickOne (sh oh h hl kl : Int) (h3 : 3 ≤ h) (h6 : h ≤ 258) (l1 : 2 ≤ hl) (l2 : hl ≤ 258) (k1 : 1 ≤ kl) (k2 : kl ≤ 1000000) (w : World) : Calls Try.prog 34 #[.agg (sdV (sideOf sh)).toArray, .agg (fsV (estF h oh hl kl)).toArray, .agg (evV 5 keepZ).toArray] w fun r w' => ∃ X, RetS w (estF h oh (hl - 1) (if kl = 1 then h / 3 else kl - 1)) ⟨false, false, false, false⟩ X r w' := by
  have h1 := step_tick (sideOf sh) h hl kl 2 oh 2 true (by omega) k1 h3 (by omega) k2 (by omega)
  have hne : ¬ hl = 1 := by omega
  unfold tickF tickO tickX at h1
  simp only [if_neg hne] at h1
  exact (Step_any rfl h1 w).mono fun r w' hr => ⟨_, hr⟩

/-- a run from the beginning on -/
theorem comesRun (sh oh h : Int) (hh : h = max (min sh oh) 0) (h3 : 3 ≤ h) (h6 : h ≤ 1000000) (w2 : World) : Calls Try.prog 33 #[.agg (sdV (sideOf sh)).toArray, .agg (fsV (f0 0)).toArray, .slice (some ⟨w2.heap.size, 0, none⟩) 4 4] (w2.alloc (.cells (comes oh).flatten.toArray 68)) fun r w' => ∃ A' c', r = .returned (.tuple #[.agg (fsV (estF h oh h (h / 3))).toArray, .slice A' 4 c']) ∧ Below w2.heap.size w2 w' :=
  (Run_any (comes_runs sh oh h hh h3 h6) (show (4 : Nat) ≤ 10 by decide) (w2.alloc (.cells (comes oh).flatten.toArray 68)) (some ⟨w2.heap.size, 0, none⟩) 4 (Rg.new w2 68 23 4 (comes oh).flatten.toArray (by rfl))).mono (by
    rintro r w' ⟨A', c', xs, rfl, _, _, _, hb⟩
    exact ⟨A', c', rfl, ((Below.refl _ _).alloc (Nat.le_refl _) _).trans (hb.mono (by simp))⟩)

set_option maxRecDepth 100000 in
set_option maxHeartbeats 4000000 in
theorem core (a0 a1 a2 : Int) (b0 : 0 ≤ a0) (c0 : a0 ≤ 255) (b1 : 0 ≤ a1) (c1 : a1 ≤ 255) (b2 : 0 ≤ a2) (c2 : a2 ≤ 255) (W : World) :
    Calls Try.prog 6 #[.int .u8 a0, .int .u8 a1, .int .u8 a2] W fun e w' => e = .returned (.bool true) ∧ Below W.heap.size W w' := by
  obtain ⟨sh, hsh⟩ : ∃ sh : Int, sh = 3 + a1 := ⟨_, rfl⟩
  obtain ⟨oh, hoh⟩ : ∃ oh : Int, oh = 3 + a0 := ⟨_, rfl⟩
  obtain ⟨h, hh⟩ : ∃ h : Int, h = max (min sh oh) 0 := ⟨_, rfl⟩
  have h3 : 3 ≤ h := by omega
  have h6 : h ≤ 258 := by omega
  have HC := Lib.hid (fun w2 => comesRun sh oh h hh h3 (by omega) w2)
  have HZ : Hid (∀ w : World, Bk (w.alloc (.cells #[.int .i64 0, .int .u32 0, .int .i64 0, .int .u32 0, .bool false, .slice none 0 0, .int .i64 0, .int .i64 0, .slice none 0 0, .int .u32 0, .int .u32 0, .int .u32 0, .int .u32 0, .int .u32 0, .slice none 0 0, .slice none 0 0, .int .i64 0, .int .i64 0, .slice none 0 0] 66)) w.heap.size 66 #[.int .i64 0, .int .u32 0, .int .i64 0, .int .u32 0, .bool false, .slice none 0 0, .int .i64 0, .int .i64 0, .slice none 0 0, .int .u32 0, .int .u32 0, .int .u32 0, .int .u32 0, .int .u32 0, .slice none 0 0, .slice none 0 0, .int .i64 0, .int .i64 0, .slice none 0 0]) := fun w => Bk.new w _ _
  have HZ2 : Hid (∀ w : World, Bk (w.alloc (.cells #[.int .i64 0, .int .i64 0, .int .u32 0, .int .i64 0, .int .u32 0, .bool false, .slice none 0 0, .int .i64 0, .int .i64 0, .slice none 0 0, .int .u32 0, .int .u32 0, .int .u32 0, .int .u32 0, .int .u32 0, .slice none 0 0, .slice none 0 0, .int .i64 0, .int .i64 0, .slice none 0 0, .int .i64 0, .int .i64 0, .slice none 0 0] 68)) w.heap.size 68 #[.int .i64 0, .int .i64 0, .int .u32 0, .int .i64 0, .int .u32 0, .bool false, .slice none 0 0, .int .i64 0, .int .i64 0, .slice none 0 0, .int .u32 0, .int .u32 0, .int .u32 0, .int .u32 0, .int .u32 0, .slice none 0 0, .slice none 0 0, .int .i64 0, .int .i64 0, .slice none 0 0, .int .i64 0, .int .i64 0, .slice none 0 0]) := fun w => Bk.new w _ _
  have HS : Hid ((Try.prog.info? 66).map (·.size) = some 19) := info_m19
  have HE : Hid ((Try.prog.info? 68).map (·.size) = some 23) := info_ev
  have HB1 : Hid (Below W.heap.size W (W.alloc (.cells #[.int .u32 1, .int .u32 1, .int .u32 2, .int .i64 sh, .int .i64 5, .bool false] 53))) := (Below.refl _ _).alloc (Nat.le_refl _) _
  have HS1 : Hid (Bk (W.alloc (.cells #[.int .u32 1, .int .u32 1, .int .u32 2, .int .i64 sh, .int .i64 5, .bool false] 53)) W.heap.size 53 #[.int .u32 1, .int .u32 1, .int .u32 2, .int .i64 sh, .int .i64 5, .bool false]) := Bk.new W _ _
  have hz1 : Bk ((W.alloc (.cells #[.int .u32 1, .int .u32 1, .int .u32 2, .int .i64 sh, .int .i64 5, .bool false] 53)).alloc (.cells #[.int .i64 0, .int .u32 0, .int .i64 0, .int .u32 0, .bool false, .slice none 0 0, .int .i64 0, .int .i64 0, .slice none 0 0, .int .u32 0, .int .u32 0, .int .u32 0, .int .u32 0, .int .u32 0, .slice none 0 0, .slice none 0 0, .int .i64 0, .int .i64 0, .slice none 0 0] 66)) (W.heap.size + 1) 66 #[.int .i64 0, .int .u32 0, .int .i64 0, .int .u32 0, .bool false, .slice none 0 0, .int .i64 0, .int .i64 0, .slice none 0 0, .int .u32 0, .int .u32 0, .int .u32 0, .int .u32 0, .int .u32 0, .slice none 0 0, .slice none 0 0, .int .i64 0, .int .i64 0, .slice none 0 0] := by have h := HZ.out (W.alloc (.cells #[.int .u32 1, .int .u32 1, .int .u32 2, .int .i64 sh, .int .i64 5, .bool false] 53)); simpa using h
  have HZ1 := Lib.hid hz1
  clear hz1
  have ea1 : (3 : Int) + a1 = sh := hsh.symm
  have ea0 : (3 : Int) + a0 = oh := hoh.symm
  have HH := Lib.hid (And.intro hsh (And.intro hoh hh))
  clear hsh hoh hh
  go_enter Try.func6, Try.ntmps6
  go_wp2_with (first
    | (refine wpList_storeBk rfl 66 (.tmp 8) (.tmp 25) rfl (W.heap.size + 1) (by rfl) #[.int .i64 1, .int .u32 2, .int .i64 oh, .int .u32 2, .bool true, .slice none 0 0, .int .i64 0, .int .i64 0, .slice none 0 0, .int .u32 0, .int .u32 0, .int .u32 0, .int .u32 0, .int .u32 0, .slice none 0 0, .slice none 0 0, .int .i64 0, .int .i64 0, .slice none 0 0] (by rfl) 66 #[.int .i64 0, .int .u32 0, .int .i64 0, .int .u32 0, .bool false, .slice none 0 0, .int .i64 0, .int .i64 0, .slice none 0 0, .int .u32 0, .int .u32 0, .int .u32 0, .int .u32 0, .int .u32 0, .slice none 0 0, .slice none 0 0, .int .i64 0, .int .i64 0, .slice none 0 0] HZ1.out HS.out rfl (by rfl) ?_; intro w2 h2 hc2 hs2; have hb2 : Below (W.alloc (.cells #[.int .u32 1, .int .u32 1, .int .u32 2, .int .i64 sh, .int .i64 5, .bool false] 53)).heap.size (W.alloc (.cells #[.int .u32 1, .int .u32 1, .int .u32 2, .int .i64 sh, .int .i64 5, .bool false] 53)) w2 := ((Below.refl _ _).alloc (Nat.le_refl _) _).trans (hc2.below (fun k e => by rw [e]; simp) (by simp)); have H2 := Lib.hid (And.intro h2 (And.intro (HS1.out.below hb2 (by simp)) (HB1.out.trans (hb2.mono (by simp))))); clear h2 hc2 hs2 hb2)
    | (refine wpList_storeBk rfl 68 (.tmp 9) (.tmp 27) rfl w2.heap.size (by rfl) #[.int .i64 6, .int .i64 4, .int .u32 0, .int .i64 0, .int .u32 0, .bool false, .slice none 0 0, .int .i64 0, .int .i64 0, .slice none 0 0, .int .u32 0, .int .u32 0, .int .u32 0, .int .u32 0, .int .u32 0, .slice none 0 0, .slice none 0 0, .int .i64 0, .int .i64 0, .slice none 0 0, .int .i64 0, .int .i64 0, .slice none 0 0] (by rfl) 68 #[.int .i64 0, .int .i64 0, .int .u32 0, .int .i64 0, .int .u32 0, .bool false, .slice none 0 0, .int .i64 0, .int .i64 0, .slice none 0 0, .int .u32 0, .int .u32 0, .int .u32 0, .int .u32 0, .int .u32 0, .slice none 0 0, .slice none 0 0, .int .i64 0, .int .i64 0, .slice none 0 0, .int .i64 0, .int .i64 0, .slice none 0 0] (HZ2.out w2) HE.out rfl (by rfl) ?_; intro w3 h3' hc3 hs3; have hb3 : Below w2.heap.size w2 w3 := ((Below.refl _ _).alloc (Nat.le_refl _) _).trans (hc3.below (fun k e => by rw [e]; exact Nat.le_refl _) (by simp)); have H3 := Lib.hid (And.intro h3' (And.intro (H2.out.1.below hb3 H2.out.1.lt) (And.intro (H2.out.2.1.below hb3 H2.out.2.1.lt) (H2.out.2.2.trans (hb3.mono H2.out.2.2.size))))); have ks := fun i => H3.out.2.2.1.cell i; have ks1 := H3.out.2.2.1.lt; clear h3' hc3 hs3 hb3)
    | (refine wpList_loadBk rfl 66 (.tmp 8) rfl (W.heap.size + 1) (by rfl) 66 #[.int .i64 1, .int .u32 2, .int .i64 oh, .int .u32 2, .bool true, .slice none 0 0, .int .i64 0, .int .i64 0, .slice none 0 0, .int .u32 0, .int .u32 0, .int .u32 0, .int .u32 0, .int .u32 0, .slice none 0 0, .slice none 0 0, .int .i64 0, .int .i64 0, .slice none 0 0] _ H3.out.2.1 Try.underlying66 (by rfl) HS.out ?_)
    | (refine wpList_loadBk rfl 68 (.tmp 9) rfl w2.heap.size (by rfl) 68 #[.int .i64 6, .int .i64 4, .int .u32 0, .int .i64 0, .int .u32 0, .bool false, .slice none 0 0, .int .i64 0, .int .i64 0, .slice none 0 0, .int .u32 0, .int .u32 0, .int .u32 0, .int .u32 0, .int .u32 0, .slice none 0 0, .slice none 0 0, .int .i64 0, .int .i64 0, .slice none 0 0, .int .i64 0, .int .i64 0, .slice none 0 0] _ H3.out.1 Try.underlying68 (by rfl) HE.out ?_))
  refine (HC.out _).mono ?_
  rintro r w5 ⟨A5, c5, rfl, hb5⟩
  have H5 := Lib.hid (And.intro (H3.out.1.below hb5 H3.out.1.lt) (And.intro (H3.out.2.1.below hb5 H3.out.2.1.lt) (And.intro (H3.out.2.2.1.below hb5 H3.out.2.2.1.lt) (And.intro (H3.out.2.2.2.trans (hb5.mono H3.out.2.2.2.size)) (And.intro H3.out.1.lt hb5.size)))))
  have hg9 : Hid (W.heap.size + 1 < w2.heap.size) := H2.out.1.lt
  clear ks ks1
  have hbs5 := H5.out.2.2.1
  have hbo5 := H5.out.2.1
  have ks := fun i => hbs5.cell i
  have ks1 := hbs5.lt
  have ko := fun i => hbo5.cell i
  have ko1 := hbo5.lt
  clear hb5 hbs5 hbo5 H3 H2 HZ HZ2 HZ1 HS1 HB1 HC
  simp only [fsV, estF]
  by_cases hc : oh < sh
  case' pos =>
    have HL : Hid (oh = h) := by have := HH.out; rw [Hid]; omega
    have e1 : decide (oh < sh) = true := by simp; omega
    go_wp2_with fail
  case' neg =>
    have HL : Hid (sh = h) := by have := HH.out; rw [Hid]; omega
    have e1 : decide (oh < sh) = false := by simp; omega
    go_wp2_with fail
  all_goals
    obtain ⟨w6, hw6⟩ : ∃ w6, w6 = (w5.alloc (.cells #[.int .i64 5, .int .i64 h, .int .i64 h, .int .i64 (h / 3), .int .i64 0, .int .u32 2, .int .i64 oh, .int .u32 2, .bool true] 70)).alloc (.cells #[.int .i64 5, .int .i64 h, .int .i64 h, .int .i64 (h / 3), .int .i64 0, .int .u32 2, .int .i64 oh, .int .u32 2, .bool true] 70) := ⟨_, rfl⟩
    rw [← hw6]
    have hQ : QM W sh oh w2.heap.size w5.heap.size (w5.heap.size + 1) (estF h oh h (h / 3)) (estF h oh h (h / 3)) w6 := by
      rw [hw6]
      have hb : Below w5.heap.size w5 ((w5.alloc (.cells #[.int .i64 5, .int .i64 h, .int .i64 h, .int .i64 (h / 3), .int .i64 0, .int .u32 2, .int .i64 oh, .int .u32 2, .bool true] 70)).alloc (.cells #[.int .i64 5, .int .i64 h, .int .i64 h, .int .i64 (h / 3), .int .i64 0, .int .u32 2, .int .i64 oh, .int .u32 2, .bool true] 70)) := ((Below.refl _ _).alloc (Nat.le_refl _) _).alloc (by simp) _
      obtain ⟨q1, q2, q3, q4, q5, q6⟩ := H5.out
      have q7 := hg9.out
      refine ⟨q3.below hb q3.lt, q1.below hb q1.lt, ?_, ?_, by omega, q4.trans (hb.mono q4.size)⟩
      · exact (Bk.new w5 _ _).below ((Below.refl _ _).alloc (Nat.le_refl _) _) (by simp)
      · have hbn := Bk.new (w5.alloc (.cells #[.int .i64 5, .int .i64 h, .int .i64 h, .int .i64 (h / 3), .int .i64 0, .int .u32 2, .int .i64 oh, .int .u32 2, .bool true] 70)) 70 #[.int .i64 5, .int .i64 h, .int .i64 h, .int .i64 (h / 3), .int .i64 0, .int .u32 2, .int .i64 oh, .int .u32 2, .bool true]
        have e : (w5.alloc (.cells #[.int .i64 5, .int .i64 h, .int .i64 h, .int .i64 (h / 3), .int .i64 0, .int .u32 2, .int .i64 oh, .int .u32 2, .bool true] 70)).heap.size = w5.heap.size + 1 := by simp
        rw [e] at hbn
        exact hbn
    generalize w5.heap.size + 1 = g13 at *
    generalize w5.heap.size = g10 at *
    generalize w2.heap.size = g9 at *
    have HQ := Lib.hid hQ
    rw [HL.out]
    clear hQ hw6 ks ks1 ko ko1 H5 hg9
    have HT1 := Lib.hid (fun kl k1 k2 w => tickLast sh oh h kl h3 h6 k1 k2 w)
    have HT2 := Lib.hid (fun hl kl l1 l2 k1 k2 w => tickOne sh oh h hl kl h3 h6 l1 l2 k1 k2 w)
    have HT3 := Lib.hid (fun kl k1 k2 w => pairRun sh oh h kl h3 h6 k1 k2 w)
    go_loopw [14, 15] (fun v14 _ wr => ∃ (i kl : Int) (fi : Fs), 1 ≤ i ∧ i ≤ h + 1 ∧ v14 = .int .i64 i ∧ 1 ≤ kl ∧ kl ≤ 258 ∧ (i ≤ h → fi = estF h oh (h - i + 1) kl) ∧ (i = h + 1 → fi = f0 5) ∧ QM W sh oh g9 g10 g13 fi (estF h oh h (h / 3)) wr) (fun v14 _ _ => (h + 1 - intOf v14).toNat)
    case atStart => exact ⟨1, h / 3, _, by omega, by omega, rfl, by omega, by omega, fun _ => by rw [show h - 1 + 1 = h from by omega], fun e => by omega, HQ.out⟩
    case round =>
      obtain ⟨i, kl, fi, hi1, hi2, rfl, hk1, hk2, hf1, hf2, hq⟩ := hrel
      have hbs := hq.bs
      have hb10 := hq.b10
      have ks := fun i => hbs.cell i
      have kf := fun i => hb10.cell i
      have ks1 := hbs.lt
      have kf1 := hb10.lt
      have HQ1 := Lib.hid hq
      clear hbs hb10 hq
      rcases (show i < h ∨ i = h ∨ i = h + 1 from by omega) with hc1 | hc1 | hc1
      · have hfi := hf1 (by omega)
        subst hfi
        have HT := Lib.hid (HT2.out (h - i + 1) kl (by omega) (by omega) hk1 (by omega))
        have HK : Hid (1 ≤ (if kl = 1 then h / 3 else kl - 1) ∧ (if kl = 1 then h / 3 else kl - 1) ≤ 258) := by rw [Hid]; split <;> omega
        rw [show h - i + 1 - 1 = h - i from by omega] at HT
        generalize (if kl = 1 then h / 3 else kl - 1) = kl' at HT HK
        have e1 : decide (i ≤ h) = true := by simp; omega
        have e2 : decide (i < h) = true := by simp; omega
        have e3 : (i == h) = false := by rw [beq_eq_false_iff_ne]; omega
        simp only [fsV, estF] at kf
        clear hf1 hf2
        go_wp2_with fail
        refine (HT.out _).mono ?_
        rintro r w8 ⟨X, A8, n8, c8, rfl, _, _, hb8⟩
        have hbw : Below wr.heap.size wr w8 := ((Below.refl _ _).alloc (Nat.le_refl _) _).trans (hb8.mono (by simp))
        have hq8 := HQ1.out.belw hbw
        have ho8 : Bk w8 wr.heap.size 76 #[.slice none 0 0, .bool false, .bool false, .bool false, .bool false] := (Bk.new wr _ _).below hb8 (by simp)
        have HQ9 := Lib.hid (HQ1.out.tick (f' := estF h oh (h - i) kl') (V := otV A8 n8 c8 ⟨false, false, false, false⟩) hbw (Nat.le_refl _))
        have hf8 := hq8.b10
        have hne : g10 ≠ wr.heap.size := by have := HQ1.out.b10.lt; omega
        clear ks kf ks1 kf1
        have kf := fun i => hf8.cell i
        have kf1 := hf8.lt
        have kf2 := fun i => hf8.free i
        have ko := fun i => ho8.cell i
        have ko1 := ho8.lt
        have ko2 := fun i => ho8.free i
        simp only [fsV, estF] at kf
        clear hbw hq8 ho8 hf8 hb8
        simp only [fsV, estF, otV, f0]
        go_wp2_with fail
        go_roundw
        case rel => exact ⟨i + 1, kl', _, by omega, by omega, rfl, HK.out.1, HK.out.2, fun _ => by rw [show h - (i + 1) + 1 = h - i from by omega], fun e => by omega, HQ9.out⟩
        case measure => simp [intOf]; omega
      · obtain rfl : i = h := hc1
        have hfi := hf1 (by omega)
        subst hfi
        have HT := Lib.hid (HT1.out kl hk1 (by omega))
        rw [show i - i + 1 = 1 from by omega] at HQ1 kf
        have e1 : decide (i ≤ i) = true := by simp
        have e2 : decide (i < i) = false := by simp
        have e3 : (i == i) = true := by simp
        simp only [fsV, estF] at kf
        clear hf1 hf2
        go_wp2_with fail
        refine (HT.out _).mono ?_
        rintro r w8 ⟨A8, n8, c8, rfl, _, _, hb8⟩
        have hbw : Below wr.heap.size wr w8 := ((Below.refl _ _).alloc (Nat.le_refl _) _).trans (hb8.mono (by simp))
        have hq8 := HQ1.out.belw hbw
        have ho8 : Bk w8 wr.heap.size 76 #[.slice none 0 0, .bool false, .bool false, .bool false, .bool false] := (Bk.new wr _ _).below hb8 (by simp)
        have HQ9 := Lib.hid (HQ1.out.tick (f' := f0 5) (V := otV A8 n8 c8 ⟨false, true, false, true⟩) hbw (Nat.le_refl _))
        have hf8 := hq8.b10
        have hne : g10 ≠ wr.heap.size := by have := HQ1.out.b10.lt; omega
        clear ks kf ks1 kf1
        have kf := fun i => hf8.cell i
        have kf1 := hf8.lt
        have kf2 := fun i => hf8.free i
        have ko := fun i => ho8.cell i
        have ko1 := ho8.lt
        have ko2 := fun i => ho8.free i
        simp only [fsV, estF] at kf
        clear hbw hq8 ho8 hf8 hb8
        simp only [fsV, estF, otV, f0]
        go_wp2_with fail
        go_roundw
        case rel => exact ⟨i + 1, kl, _, by omega, by omega, rfl, hk1, hk2, fun e => by omega, fun _ => rfl, HQ9.out⟩
        case measure => simp [intOf]; omega
      · have hfi := hf2 hc1
        subst hfi
        subst hc1
        have e1 : decide (h + 1 ≤ h) = false := by simp; omega
        simp only [fsV, f0] at kf
        clear hf1 hf2
        go_wp2_with fail
        clear ks kf ks1 kf1 e1
        go_loopw [16] (fun v16 wr => ∃ (j kl : Int), 0 ≤ j ∧ j ≤ a2 ∧ v16 = .int .i64 j ∧ 1 ≤ kl ∧ kl ≤ 258 ∧ QM W sh oh g9 g10 g13 (f0 5) (estF h oh h kl) wr) (fun v16 _ => (a2 - intOf v16).toNat)
        case atStart => exact ⟨0, h / 3, by omega, b2, rfl, by omega, by omega, HQ1.out⟩
        case round =>
          obtain ⟨j, kj, hj1, hj2, rfl, hk3, hk4, hq⟩ := hrel
          have hbs := hq.bs
          have hb10 := hq.b10
          have hb13 := hq.b13
          have ks := fun i => hbs.cell i
          have kf := fun i => hb10.cell i
          have kg := fun i => hb13.cell i
          have ks1 := hbs.lt
          have kf1 := hb10.lt
          have kg1 := hb13.lt
          have kg2 := fun i => hb13.free i
          simp only [fsV, f0] at kf
          simp only [fsV, estF] at kg
          have HQ2 := Lib.hid hq
          clear hbs hb10 hb13 hq
          by_cases hlt : j < a2
          · have e1 : decide (j < a2) = true := by simp; omega
            have HT := Lib.hid (HT3.out kj hk3 (by omega))
            have HK : Hid (1 ≤ (if kj = 1 then h / 3 else kj - 1) ∧ (if kj = 1 then h / 3 else kj - 1) ≤ 258) := by rw [Hid]; split <;> omega
            generalize (if kj = 1 then h / 3 else kj - 1) = kl' at HT HK
            go_wp2_with (refine wpList_loadBk rfl 68 (.tmp 9) rfl g9 (by rfl) 68 #[.int .i64 6, .int .i64 4, .int .u32 0, .int .i64 0, .int .u32 0, .bool false, .slice none 0 0, .int .i64 0, .int .i64 0, .slice none 0 0, .int .u32 0, .int .u32 0, .int .u32 0, .int .u32 0, .int .u32 0, .slice none 0 0, .slice none 0 0, .int .i64 0, .int .i64 0, .slice none 0 0, .int .i64 0, .int .i64 0, .slice none 0 0] _ HQ2.out.b9 Try.underlying68 (by rfl) HE.out ?_)
            refine (HT.out _).mono ?_
            rintro r w8 ⟨A8, c8, rfl, hb8⟩
            have HQ9 := Lib.hid (HQ2.out.run (g' := estF h oh h kl') hb8)
            have hq8 := HQ2.out.belw hb8
            have hg8 := hq8.b13
            clear ks kf kg ks1 kf1 kg1 kg2
            have kg := fun i => hg8.cell i
            have kg1 := hg8.lt
            have kg2 := fun i => hg8.free i
            simp only [fsV, estF] at kg
            clear hq8 hg8 hb8
            simp only [fsV, estF]
            go_wp2_with fail
            go_roundw
            case rel => exact ⟨j + 1, kl', by omega, by omega, rfl, HK.out.1, HK.out.2, HQ9.out⟩
            case measure => simp [intOf]; omega
          · have e1 : decide (j < a2) = false := by simp; omega
            go_wp2_with fail
            refine (lives25 _).mono ?_
            rintro e w9 ⟨rfl, hb9⟩
            have HB9 := Lib.hid (HQ2.out.bel.trans (hb9.mono HQ2.out.bel.size))
            clear hb9
            go_wp2_with fail
            go_ret
            exact ⟨rfl, HB9.out⟩
theorem walk (a0 : Int) (w0 : (Lit.int .u8 a0).wf = true) (a1 : Int) (w1 : (Lit.int .u8 a1).wf = true) (a2 : Int) (w2 : (Lit.int .u8 a2).wf = true) (W : World) :
    Calls Try.prog 6 #[.int .u8 a0, .int .u8 a1, .int .u8 a2] W fun e w' => e = .returned (.bool true) ∧ Below W.heap.size W w' := by
  have h0 := wf_u8 w0
  have h1 := wf_u8 w1
  have h2 := wf_u8 w2
  exact core a0 a1 a2 (by omega) (by omega) (by omega) (by omega) (by omega) (by omega) W
end Go.Proofs.Ytbhhkjkjihenoaa.fsmQuiet
