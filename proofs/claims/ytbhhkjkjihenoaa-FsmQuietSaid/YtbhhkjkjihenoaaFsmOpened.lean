/- What fsm's opened, message return and leave where an Open may come, or a message that one lives. Conditions as each lemma states. -/
import Derived.Test.YtbhhkjkjihenoaaFsmTick
namespace Go.Proofs.Ytbhhkjkjihenoaa.fsm
open Go.RowKit Go.Proofs.Ytbhhkjkjihenoaa.kit Go.Proofs.Ytbhhkjkjihenoaa.mem Go.Proofs.Ytbhhkjkjihenoaa.foot
set_option linter.unusedVariables false
set_option linter.unusedSimpArgs false

theorem info_note : (Try.prog.info? 64).map (·.size) = some 3 := by kernel_rfl
theorem Judge_ok (o0 o1 o2 own : Int) (h : (o2 == own) = false) (w : World) :
    Calls Try.prog 192 #[.agg #[.int .u32 o0, .int .i64 o1, .int .u32 o2, .bool true], .int .u32 o0, .int .u32 own] w fun e w' => e = .returned (.agg #[.int .i64 0, .int .i64 0, .slice none 0 0]) ∧ Below w.heap.size w w' := by
  go_enter Try.func192, Try.ntmps192
  go_wp2_with fail
  refine bodyPost_ret (results_cell_row rfl _ _ (w.heap.size + 1) 64 #[.int .i64 0, .int .i64 0, .slice none 0 0] (0, 0) _ rfl (by have h := heap_alloc_new (w.alloc (.cells #[.int .u32 o0, .int .i64 o1, .int .u32 o2, .bool true] 55)) (.cells #[.int .i64 0, .int .i64 0, .slice none 0 0] 64); simpa using h) Try.underlying64 rfl info_note) rfl ?_
  exact ⟨rfl, ((Below.refl _ w).alloc (Nat.le_refl _) _).alloc (by simp) _⟩

/-- the state behind an Open -/
def openF (hold o0 o1 o2 : Int) : Fs := ⟨4, hold, hold, hold / 3, 0, o0, o1, o2, true⟩

theorem open_bk {w : World} {m : Nat} {s0 s1 s2 s3 s4 : Int} {s5 : Bool} {f1 f2 f3 f4 p0 p1 p2 hold o0 o1 o2 : Int} {p3 : Bool} {A : Option Addr} {n c : Nat} {o : Ot} (h : Bk w m 172 (putL (mcV ⟨s0, s1, s2, s3, s4, s5⟩ ⟨3, f1, f2, f3, f4, p0, p1, p2, p3⟩ A n c o) 6 (fsV (openF hold o0 o1 o2)))) : Bk w m 172 (mcV ⟨s0, s1, s2, s3, s4, s5⟩ (openF hold o0 o1 o2) A n c o) := by
  simpa [putL, mcV, fsV, openF] using h
theorem bk_drew2 {w : World} {m : Nat} {t : TypeId} {cs : Array Value} (h : Bk w m t cs) : Bk w.drew.drew m t cs := h

set_option maxRecDepth 100000 in
set_option maxHeartbeats 1000000 in
theorem opened_any {F : Foot} {m : Nat} {s : Sd} {f : Fs} {o : Ot} {xs : List Value} (o1 o2 : Int) (w : World) (hn : xs.length ≤ 18900) (h : Mc w F m s f o xs) (hst : f.st = 3) (ho : (o2 == s.own) = false) (h3 : 3 ≤ max (min s.hold o1) 0) (h4 : max (min s.hold o1) 0 ≤ 1000000) :
    Calls Try.prog 174 #[.pointer (some ⟨m, 0, none⟩), .agg #[.int .u32 s.peer, .int .i64 o1, .int .u32 o2, .bool true]] w fun e w' => e = .returned (.tuple #[]) ∧ ∃ F', Mc w' F' m s (openF (max (min s.hold o1) 0) s.peer o1 o2) o (xs ++ keepV) ∧ Chg F w w' ∧ Fresh w F F' := by
  obtain ⟨A, n, c, hb, _⟩ := h.ex
  have hm := h.mem
  have hlt := h.lt m hm
  obtain ⟨s0, s1, s2, s3, s4, s5⟩ := s
  obtain ⟨f0, f1, f2, f3, f4, p0, p1, p2, p3⟩ := f
  dsimp only at hst ho h3 h4 ⊢
  subst hst
  obtain ⟨w0, hw0⟩ : ∃ w0, w0 = w.alloc (.cells #[.int .u32 s2, .int .i64 o1, .int .u32 o2, .bool true] 55) := ⟨_, rfl⟩
  have hB0 : Below w.heap.size w w0 := by rw [hw0]; exact (Below.refl _ _).alloc (Nat.le_refl _) _
  have hbx : Bk w0 w.heap.size 55 #[.int .u32 s2, .int .i64 o1, .int .u32 o2, .bool true] := by rw [hw0]; exact Bk.new w _ _
  have hb0 := hb.below hB0 hb.lt
  have hne : m ≠ w.heap.size := by omega
  have HU : Hid (∀ w', Below w0.heap.size w0 w' → Bk w' m 172 (mcV ⟨s0, s1, s2, s3, s4, s5⟩ ⟨3, f1, f2, f3, f4, p0, p1, p2, p3⟩ A n c o) ∧ Bk w' w.heap.size 55 #[.int .u32 s2, .int .i64 o1, .int .u32 o2, .bool true]) := fun w' hb' => ⟨hb0.below hb' hb0.lt, hbx.below hb' hbx.lt⟩
  have HF : Hid (∀ w' w'', Below w0.heap.size w0 w' → Bk w'' m 172 (mcV ⟨s0, s1, s2, s3, s4, s5⟩ (openF (max (min s3 o1) 0) s2 o1 o2) A n c o) → Chg (fun k => k = m) w' w'' → Calls Try.prog 172 #[.pointer (some ⟨m, 0, none⟩)] w'' fun e w3 => e = .returned (.tuple #[]) ∧ ∃ F', Mc w3 F' m ⟨s0, s1, s2, s3, s4, s5⟩ (openF (max (min s3 o1) 0) s2 o1 o2) o (xs ++ keepV) ∧ Chg F w w3 ∧ Fresh w F F') := fun w' w'' hb' hk hc => by
    have hm' : Mc w' F m ⟨s0, s1, s2, s3, s4, s5⟩ ⟨3, f1, f2, f3, f4, p0, p1, p2, p3⟩ o xs := (h.bel hB0).bel (hb'.mono (Nat.le_refl _))
    obtain ⟨g1, g2⟩ := hm'.turn (f' := openF (max (min s3 o1) 0) s2 o1 o2) (o' := o) (hb0.below hb' hb0.lt) hk hc
    have hcc : Chg F w w'' := ((Chg.of_below hB0 F).trans (Chg.of_below hb' F) fun _ _ e => e).trans g2 fun _ _ e => e
    refine (keep_any w'' (by omega) g1).mono ?_
    rintro e w3 ⟨rfl, F1, q1, q2, q3⟩
    exact ⟨rfl, F1, q1, hcc.trans q2 fun _ _ e => e, fun k hk => (q3 k hk).imp id fun e => Nat.le_trans hcc.size e⟩
  have HB := Lib.hid (Below.refl w0.heap.size w0)
  have HJ := Lib.hid (fun w => Judge_ok s2 o1 o2 s1 ho w)
  have HH := Lib.hid (fun w => HoldOf_any s3 o1 w)
  have HK := Lib.hid (fun w => KeepOf_any (max (min s3 o1) 0) ⟨h3, by omega⟩ w)
  have qz := fun i => hb.cell i
  have qy := hb.lt
  simp only [mcV] at qz
  have H0 := Lib.hid (And.intro hb0 hbx)
  clear h hb hb0 hbx hlt hm hB0 h3 h4
  go_enter Try.func174, Try.ntmps174
  go_wp2_with fail
  rw [← hw0]
  clear hw0 qz qy
  have qa := fun i => H0.out.1.cell i
  have qf := fun i => H0.out.1.free i
  have ql := H0.out.1.lt
  have ka := fun i => H0.out.2.cell i
  have kl := H0.out.2.lt
  simp only [mcV] at qa
  have hmz : m ≠ w0.heap.size := by omega
  have hgz : w.heap.size ≠ w0.heap.size := by omega
  generalize w.heap.size = gx at *
  clear H0
  have HS : Hid (∀ w', Below w0.heap.size w0 w' → w'.cell? ⟨m, 1, none⟩ = some (.int .u32 s1) ∧ w'.cell? ⟨m, 2, none⟩ = some (.int .u32 s2) ∧ w'.cell? ⟨gx, 0, none⟩ = some (.int .u32 s2) ∧ w'.cell? ⟨gx, 1, none⟩ = some (.int .i64 o1) ∧ w'.cell? ⟨gx, 2, none⟩ = some (.int .u32 o2) ∧ w'.cell? ⟨gx, 3, none⟩ = some (.bool true)) := fun w' hb' => by
    obtain ⟨g1, g2⟩ := HU.out w' hb'
    exact ⟨by have h := g1.cell 1; simpa [mcV] using h, by have h := g1.cell 2; simpa [mcV] using h, g2.cell 0, g2.cell 1, g2.cell 2, g2.cell 3⟩
  go_region_held3 (fun w' => w'.cell? ⟨m, 1, none⟩ = some (.int .u32 s1) ∧ w'.cell? ⟨m, 2, none⟩ = some (.int .u32 s2) ∧ w'.cell? ⟨gx, 0, none⟩ = some (.int .u32 s2) ∧ w'.cell? ⟨gx, 1, none⟩ = some (.int .i64 o1) ∧ w'.cell? ⟨gx, 2, none⟩ = some (.int .u32 o2) ∧ w'.cell? ⟨gx, 3, none⟩ = some (.bool true)) (first | exact ⟨by go_simp, by go_simp, by go_simp, by go_simp, by go_simp, by go_simp⟩ | exact HS.out _ HB.out) (first
    | (go_at_call 192; refine (HJ.out _).mono ?_; rintro e wj ⟨rfl, hbj⟩; (first
      | (have hx : Below w0.heap.size w0 wj := ((Below.refl w0.heap.size w0).drew).trans hbj)
      | (have hx : Below w0.heap.size w0 wj := (((Below.refl w0.heap.size w0).drew).alloc (Nat.le_refl _) _).trans (hbj.mono (by simp)); have hz : Bk wj w0.heap.size 64 #[.int .i64 0, .int .i64 0, .slice none 0 0] := (Bk.new w0.drew _ _).below hbj (by simp); have z0 := fun i => hz.cell i; have z1 := fun i => hz.free i; have z2 := hz.lt; clear hz)); clear HB qa qf ql ka kl; have HB := Lib.hid hx; clear hx hbj; have h0 := HU.out _ HB.out; have qa := fun i => h0.1.cell i; have qf := fun i => h0.1.free i; have ql := h0.1.lt; have ka := fun i => h0.2.cell i; have kl := h0.2.lt; simp only [mcV] at qa; clear h0))
  all_goals
    go_wp2_with fail
    first
      | (obtain ⟨wk, hwk⟩ : ∃ wk, wk = wj.alloc (.cells #[.int .i64 0, .int .i64 0, .slice none 0 0] 64) := ⟨_, rfl⟩; rw [← hwk]; have hx : Below w0.heap.size w0 wk := by rw [hwk]; exact HB.out.alloc HB.out.size _)
      | (obtain ⟨wk, hwk⟩ : ∃ wk, wk = (((wj.setCell ⟨w0.heap.size, 0, none⟩ (.int .i64 0)).setCell ⟨w0.heap.size, 1, none⟩ (.int .i64 0)).setCell ⟨w0.heap.size, 2, none⟩ (.slice none 0 0)) := ⟨_, rfl⟩; rw [← hwk]; have hx : Below w0.heap.size w0 wk := by rw [hwk]; exact ((HB.out.setCell (p := ⟨w0.heap.size, 0, none⟩) (Nat.le_refl _) _).setCell (p := ⟨w0.heap.size, 1, none⟩) (Nat.le_refl _) _).setCell (p := ⟨w0.heap.size, 2, none⟩) (Nat.le_refl _) _)
    clear HB qa qf ql ka kl hwk
    try clear z0 z1 z2
    have HB := Lib.hid hx
    have h0 := HU.out _ hx
    have qa := fun i => h0.1.cell i
    have qf := fun i => h0.1.free i
    have ql := h0.1.lt
    have ka := fun i => h0.2.cell i
    have kl := h0.2.lt
    have HBk := Lib.hid h0.1
    simp only [mcV] at qa
    clear h0 hx HS HU
    go_region_held3 (fun w' => w'.cell? ⟨m, 3, none⟩ = some (.int .i64 s3) ∧ w'.cell? ⟨gx, 1, none⟩ = some (.int .i64 o1)) (exact ⟨by go_simp, by go_simp⟩) (first
      | (go_at_call 193; refine (HH.out _).mono ?_; rintro e wl ⟨rfl, hwl⟩; subst hwl))
  all_goals
    go_wp2_with fail
    go_region_held3 (fun w' => w'.cell? ⟨gx, 0, none⟩ = some (.int .u32 s2) ∧ w'.cell? ⟨gx, 1, none⟩ = some (.int .i64 o1) ∧ w'.cell? ⟨gx, 2, none⟩ = some (.int .u32 o2) ∧ w'.cell? ⟨gx, 3, none⟩ = some (.bool true)) (exact ⟨by go_simp, by go_simp, by go_simp, by go_simp⟩) (first
      | (go_at_call 173; refine (HK.out _).mono ?_; rintro e wl ⟨rfl, hwl⟩; subst hwl))
  all_goals
    go_wp2_with fail
  all_goals
    obtain ⟨g1, g2⟩ := bk_stores (fsV (openF (max (min s3 o1) 0) s2 o1 o2)) 6 HBk.out
    have hk0 := open_bk g1
    have hk := bk_drew2 hk0
    refine (HF.out wk _ HB.out hk g2.drew.drew).mono ?_
    rintro e w9 ⟨rfl, h9⟩
    have H9 := Lib.hid h9
    clear h9 hk hk0 g1 g2
    go_wp2_with fail
    refine bodyPost_end (results_none rfl _ _ _) rfl ?_
    exact ⟨rfl, H9.out⟩
end Go.Proofs.Ytbhhkjkjihenoaa.fsm
