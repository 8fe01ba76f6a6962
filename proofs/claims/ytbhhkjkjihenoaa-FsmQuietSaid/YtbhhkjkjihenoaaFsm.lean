/- A session's machine in memory; what fsm's linked, runs, connect, lives, send, keep return and leave. Conditions as each lemma states. -/
import Derived.Test.YtbhhkjkjihenoaaRows
import Derived.Test.YtbhhkjkjihenoaaStruct
import Derived.Test.YtbhhkjkjihenoaaSplice
import Derived.WalkLawsBesides
import Derived.WalkSpells
import Derived.Deep.RegionHeld3
import Derived.Deep.RegionLaw
namespace Go.Proofs.Ytbhhkjkjihenoaa.fsm
open Go.RowKit Go.Proofs.Ytbhhkjkjihenoaa.kit Go.Proofs.Ytbhhkjkjihenoaa.mem Go.Proofs.Ytbhhkjkjihenoaa.foot
set_option linter.unusedVariables false
set_option linter.unusedSimpArgs false

/-- a side; a state; what is done but for what is sent -/
structure Sd where
  num : Int
  own : Int
  peer : Int
  hold : Int
  retry : Int
  pas : Bool
structure Fs where
  st : Int
  hold : Int
  hl : Int
  kl : Int
  rl : Int
  p0 : Int
  p1 : Int
  p2 : Int
  p3 : Bool
structure Ot where
  con : Bool
  cls : Bool
  up : Bool
  lost : Bool
def sdV (s : Sd) : List Value := [.int .u32 s.num, .int .u32 s.own, .int .u32 s.peer, .int .i64 s.hold, .int .i64 s.retry, .bool s.pas]
def fsV (f : Fs) : List Value := [.int .i64 f.st, .int .i64 f.hold, .int .i64 f.hl, .int .i64 f.kl, .int .i64 f.rl, .int .u32 f.p0, .int .i64 f.p1, .int .u32 f.p2, .bool f.p3]
def mcV (s : Sd) (f : Fs) (A : Option Addr) (n c : Nat) (o : Ot) : Array Value := #[.int .u32 s.num, .int .u32 s.own, .int .u32 s.peer, .int .i64 s.hold, .int .i64 s.retry, .bool s.pas,
  .int .i64 f.st, .int .i64 f.hold, .int .i64 f.hl, .int .i64 f.kl, .int .i64 f.rl, .int .u32 f.p0, .int .i64 f.p1, .int .u32 f.p2, .bool f.p3,
  .slice A n c, .bool o.con, .bool o.cls, .bool o.up, .bool o.lost]
/-- block m is a machine, with rows of messages of the call's own -/
structure Mc (w : World) (F : Foot) (m : Nat) (s : Sd) (f : Fs) (o : Ot) (xs : List Value) : Prop where
  ex : ∃ A n c, Bk w m 172 (mcV s f A n c o) ∧ Own w 66 19 A n c xs ∧ (∀ k, sf A k → F k) ∧ ¬ sf A m ∧ n ≤ 1000
  one : ∀ u ∈ xs, u.oneCell' = true
  mem : F m
  lt : ∀ k, F k → k < w.heap.size
section
variable {w w' : World} {F E : Foot} {m : Nat} {s : Sd} {f f' : Fs} {o o' : Ot} {xs : List Value}
theorem Mc.chg (h : Mc w F m s f o xs) (hc : Chg E w w') (hd : ∀ k, F k → ¬ E k) : Mc w' F m s f o xs := by
  obtain ⟨⟨A, n, c, h1, h2, h3, h4, h5⟩, h6, h7, h8⟩ := h
  exact ⟨⟨A, n, c, h1.chg hc (hd m h7), h2.chg hc fun k _ hk => hd k (h3 k hk), h3, h4, h5⟩, h6, h7, fun k hk => Nat.lt_of_lt_of_le (h8 k hk) hc.size⟩
theorem Mc.bel (h : Mc w F m s f o xs) (hb : Below w.heap.size w w') : Mc w' F m s f o xs := h.chg (E := fun _ => False) (Chg.of_below hb _) (fun _ _ e => e)
/-- cells of the machine's block turned -/
theorem Mc.turn {A : Option Addr} {n c : Nat} (h : Mc w F m s f o xs) (hb : Bk w m 172 (mcV s f A n c o)) (hb' : Bk w' m 172 (mcV s f' A n c o')) (hc : Chg (fun k => k = m) w w') : Mc w' F m s f' o' xs ∧ Chg F w w' := by
  obtain ⟨⟨A1, n1, c1, h1, h2, h3, h4, h5⟩, h6, h7, h8⟩ := h
  have e := h1.symm.trans hb
  simp [mcV] at e
  obtain ⟨rfl, rfl, rfl⟩ := e
  exact ⟨⟨⟨A1, n1, c1, hb', h2.chg hc fun k _ hk e => h4 (e ▸ hk), h3, h4, h5⟩, h6, h7, fun k hk => Nat.lt_of_lt_of_le (h8 k hk) hc.size⟩, hc.mono fun i _ e => by rw [e]; exact h7⟩
end
/-- whether there is a link -/
def lk (f : Fs) : Bool := decide (3 ≤ f.st) && decide (f.st ≤ 5)
theorem linked_any (f : Fs) (w : World) : Calls Try.prog 144 #[.agg (fsV f).toArray] w fun e w' => e = .returned (.bool (lk f)) ∧ Below w.heap.size w w' := by
  obtain ⟨st, hold, hl, kl, rl, p0, p1, p2, p3⟩ := f
  unfold lk fsV
  dsimp only
  have HB : Hid (Below w.heap.size w (w.alloc (.cells #[.int .i64 st, .int .i64 hold, .int .i64 hl, .int .i64 kl, .int .i64 rl, .int .u32 p0, .int .i64 p1, .int .u32 p2, .bool p3] 70))) := (Below.refl _ _).alloc (Nat.le_refl _) _
  rcases h1 : decide (3 ≤ st) with _ | _
  all_goals
    go_enter Try.func144, Try.ntmps144
    go_wp2_with fail
    go_ret
    exact ⟨by simp, HB.out⟩

/-- a time that runs: one less, and whether it is over now -/
def runV (l : Int) : Int := if l = 0 then 0 else l - 1
def runB (l : Int) : Bool := decide (l = 1)
theorem runs_any (m off : Nat) (l : Int) (w : World) (hl : 0 ≤ l) (hu : l ≤ 9223372036854775807) (hc : w.cell? ⟨m, off, none⟩ = some (.int .i64 l)) (hf : w.frozen? ⟨m, off, none⟩ = false) (hm : m < w.heap.size) :
    Calls Try.prog 171 #[.pointer (some ⟨m, off, none⟩)] w fun e w' => e = .returned (.bool (runB l)) ∧ (w' = if l = 0 then w else w.setCell ⟨m, off, none⟩ (.int .i64 (runV l))) := by
  by_cases h0 : l = 0
  · subst h0
    go_enter Try.func171, Try.ntmps171
    go_wp2_with fail
    go_ret
    exact ⟨rfl, rfl⟩
  · have e1 : (l == 0) = false := by rw [beq_eq_false_iff_ne]; exact h0
    have e2 : runV l = l - 1 := by unfold runV; rw [if_neg h0]
    have e3 : runB l = (l - 1 == 0) := by
      rw [Bool.eq_iff_iff]
      simp [runB]
      omega
    rw [e2, e3, if_neg h0]
    clear e2 e3
    go_enter Try.func171, Try.ntmps171
    go_wp2_with fail
    go_ret
    exact ⟨rfl, rfl⟩

/-- cells written one behind the other -/
def putL : Array Value → Nat → List Value → Array Value
  | cs, _, [] => cs
  | cs, j, v :: vs => putL (cs.setIfInBounds j v) (j + 1) vs
theorem bk_stores : ∀ (vs : List Value) (j : Nat) {w : World} {g : Nat} {t : TypeId} {cs : Array Value}, Bk w g t cs → Bk (stores w g j vs) g t (putL cs j vs) ∧ Chg (fun k => k = g) w (stores w g j vs)
  | [], _, w, g, t, cs, h => ⟨h, Chg.refl _ _⟩
  | v :: vs, j, w, g, t, cs, h => by
    obtain ⟨h1, h2⟩ := bk_stores vs (j + 1) (h.put j v)
    exact ⟨h1, (((Chg.refl (fun k => k = g) w).put (p := ⟨g, j, none⟩) (.inl rfl) v)).trans h2 fun _ _ e => e⟩
def f0 (r : Int) : Fs := ⟨0, 0, 0, 0, r, 0, 0, 0, false⟩

theorem connect_any {F : Foot} {m : Nat} {s : Sd} {f : Fs} {o : Ot} {xs : List Value} (w : World) (h : Mc w F m s f o xs) :
    Calls Try.prog 168 #[.pointer (some ⟨m, 0, none⟩)] w fun e w' => e = .returned (.tuple #[]) ∧ Mc w' F m s ⟨1, 0, 0, 0, s.retry, 0, 0, 0, false⟩ { o with con := true } xs ∧ Chg F w w' := by
  obtain ⟨A, n, c, hb, _⟩ := h.ex
  have HFin : Hid (∀ w', Bk w' m 172 (mcV s ⟨1, 0, 0, 0, s.retry, 0, 0, 0, false⟩ A n c { o with con := true }) → Chg (fun k => k = m) w w' → Mc w' F m s ⟨1, 0, 0, 0, s.retry, 0, 0, 0, false⟩ { o with con := true } xs ∧ Chg F w w') := fun w' g1 g2 => h.turn hb g1 g2
  have HB := Lib.hid hb
  have qa := fun i => hb.cell i
  have qf := fun i => hb.free i
  have ql := hb.lt
  simp only [mcV] at qa
  obtain ⟨s0, s1, s2, s3, s4, s5⟩ := s
  obtain ⟨f0, f1, f2, f3, f4, p0, p1, p2, p3⟩ := f
  obtain ⟨o1, o2, o3, o4⟩ := o
  dsimp only at qa HFin
  clear h hb
  go_enter Try.func168, Try.ntmps168
  go_wp2_with fail
  refine bodyPost_end (results_none rfl _ _ _) rfl ?_
  obtain ⟨g1, g2⟩ := bk_stores [.int .i64 1, .int .i64 0, .int .i64 0, .int .i64 0, .int .i64 s4, .int .u32 0, .int .i64 0, .int .u32 0, .bool false] 6 HB.out
  obtain ⟨g3, g4⟩ := bk_stores [.bool true] 16 g1
  exact ⟨rfl, HFin.out _ (by have h := g3; simp [putL, mcV] at h; exact h) (g2.trans g4 fun _ _ e => e)⟩

theorem lives_any {F : Foot} {m : Nat} {s : Sd} {f : Fs} {o : Ot} {xs : List Value} (w : World) (h : Mc w F m s f o xs) :
    Calls Try.prog 176 #[.pointer (some ⟨m, 0, none⟩)] w fun e w' => e = .returned (.tuple #[]) ∧ Mc w' F m s { f with st := if f.st = 4 then 5 else f.st, hl := f.hold } { o with up := if f.st = 4 then true else o.up } xs ∧ Chg F w w' := by
  obtain ⟨A, n, c, hb, _⟩ := h.ex
  have HFin : Hid (∀ w', Bk w' m 172 (mcV s { f with st := if f.st = 4 then 5 else f.st, hl := f.hold } A n c { o with up := if f.st = 4 then true else o.up }) → Chg (fun k => k = m) w w' → Mc w' F m s { f with st := if f.st = 4 then 5 else f.st, hl := f.hold } { o with up := if f.st = 4 then true else o.up } xs ∧ Chg F w w') := fun w' g1 g2 => h.turn hb g1 g2
  have HB := Lib.hid hb
  have qa := fun i => hb.cell i
  have qf := fun i => hb.free i
  have ql := hb.lt
  simp only [mcV] at qa
  obtain ⟨s0, s1, s2, s3, s4, s5⟩ := s
  obtain ⟨f0, f1, f2, f3, f4, p0, p1, p2, p3⟩ := f
  obtain ⟨o1, o2, o3, o4⟩ := o
  dsimp only at qa HFin ⊢
  clear h hb
  by_cases h4 : f0 = 4
  · subst h4
    rw [if_pos rfl, if_pos rfl] at HFin ⊢
    go_enter Try.func176, Try.ntmps176
    go_wp2_with fail
    refine bodyPost_end (results_none rfl _ _ _) rfl ?_
    obtain ⟨g1, g2⟩ := bk_stores [.int .i64 f1] 8 HB.out
    obtain ⟨g3, g4⟩ := bk_stores [.int .i64 5] 6 g1
    obtain ⟨g5, g6⟩ := bk_stores [.bool true] 18 g3
    exact ⟨rfl, HFin.out _ (by have h := g5; simp [putL, mcV] at h; exact h) ((g2.trans g4 fun _ _ e => e).trans g6 fun _ _ e => e)⟩
  · have e1 : (f0 == 4) = false := by rw [beq_eq_false_iff_ne]; exact h4
    rw [if_neg h4, if_neg h4] at HFin ⊢
    clear h4
    go_enter Try.func176, Try.ntmps176
    go_wp2_with fail
    refine bodyPost_end (results_none rfl _ _ _) rfl ?_
    obtain ⟨g1, g2⟩ := bk_stores [.int .i64 f1] 8 HB.out
    exact ⟨rfl, HFin.out _ (by have h := g1; simp [putL, mcV] at h; exact h) g2⟩
end Go.Proofs.Ytbhhkjkjihenoaa.fsm
