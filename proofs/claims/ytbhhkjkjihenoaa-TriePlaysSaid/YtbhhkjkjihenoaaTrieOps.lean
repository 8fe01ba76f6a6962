/- A tree's Put, Get, Cut of any prefix, good or not; two trees side by side. Condition: fewer than a million keys. -/
import Derived.Test.YtbhhkjkjihenoaaTrieLives
namespace Go.Proofs.Ytbhhkjkjihenoaa.tri
open Go.RowKit Go.Proofs.Ytbhhkjkjihenoaa.kit Go.Proofs.Ytbhhkjkjihenoaa.mem Go.Proofs.Ytbhhkjkjihenoaa.foot Go.Proofs.Ytbhhkjkjihenoaa.pfx
set_option linter.unusedVariables false
set_option linter.unusedSimpArgs false

/-- a prefix's key, if it is good -/
def kyOf (a : Nat) (n : Int) : Option Key := if goodB a n = true then some (bitsOf a n.toNat) else none
theorem kyOf_some {a : Nat} {n : Int} {p : Key} (ha : a < 4294967296) (h : kyOf a n = some p) : goodB a n = true ∧ p.length ≤ 32 ∧ a = adr p ∧ n = p.length := by
  unfold kyOf at h
  split at h
  · rename_i hg
    cases h
    obtain ⟨h1, h2, h3⟩ := good_bits ha hg
    exact ⟨hg, h3, h1.symm, h2.symm⟩
  · cases h
theorem kyOf_none {a : Nat} {n : Int} (h : kyOf a n = none) : goodB a n = false := by
  unfold kyOf at h
  split at h
  · cases h
  · rename_i hg; simpa using hg
theorem kyOf_adr {p : Key} (hp : p.length ≤ 32) : kyOf (adr p) p.length = some p := by
  unfold kyOf; rw [if_pos (good_adr hp), Int.toNat_natCast, bits_adr hp]
def putX (t : T) (o : Option Key) (v : Int) : T := match o with | some p => t.put p v | none => t
def wasX (t : T) (o : Option Key) : Int := match o with | some p => wasV t p | none => 0
def hadX (t : T) (o : Option Key) : Bool := match o with | some p => hadB t p | none => false
def cutX (t : T) (o : Option Key) : T := match o with | some p => (if hadB t p = true then t.cut p else t) | none => t
theorem putX_wf {t : T} (h : t.Wf []) (o : Option Key) (v : Int) : (putX t o v).Wf [] := by
  cases o with
  | none => exact h
  | some p => exact T.put_wf h List.nil_prefix
theorem cutX_wf {t : T} (h : t.Wf []) (o : Option Key) : (cutX t o).Wf [] := by
  cases o with
  | none => exact h
  | some p => unfold cutX; dsimp only; split; exact T.cut_wf h; exact h
theorem putX_cnt (t : T) (o : Option Key) (v : Int) : (putX t o v).cnt ≤ t.cnt + 1 := by
  cases o with
  | none => exact Nat.le_succ _
  | some p => exact put_cnt p v t
theorem cutX_cnt (t : T) (o : Option Key) : (cutX t o).cnt ≤ t.cnt := by
  cases o with
  | none => exact Nat.le_refl _
  | some p => unfold cutX; dsimp only; split; exact cut_cnt p t; exact Nat.le_refl _
theorem had_iff {t : T} (h : t.Wf []) (p : Key) : hadB t p = true ↔ ∃ v, (p, v) ∈ t.rows := by
  unfold hadB
  rw [Option.isSome_iff_exists]
  constructor
  · rintro ⟨v, hv⟩; exact ⟨v, (T.find_mem h).2 hv⟩
  · rintro ⟨v, hv⟩; exact ⟨v, (T.find_mem h).1 hv⟩

theorem PutX {F : Foot} {tr : Nat} {t : T} (a : Nat) (n v : Int) (o : Option Key) (w : World) (ha : a < 4294967296) (ho : o = kyOf a n) (h : Tri w F tr t) (hw : t.Wf []) (hc : t.cnt < 999990) :
    Calls Try.prog 19 #[.pointer (some ⟨tr, 0, none⟩), .agg #[.int .u32 a, .int .i64 n], .int .i64 v] w fun e w' => e = .returned (.tuple #[.int .i64 (wasX t o), .bool (hadX t o)]) ∧ Stood w F tr (putX t o v) w' := by
  cases o with
  | none => exact (Put_bad tr a n v w ha (kyOf_none ho.symm)).mono fun e w' ⟨h1, h2⟩ => ⟨h1, Stood.same h h2⟩
  | some p =>
    obtain ⟨_, hp, rfl, rfl⟩ := kyOf_some ha ho.symm
    exact (Put_any p v w hp h hw hc).mono fun e w' ⟨h1, h2⟩ => ⟨h1, h2⟩
theorem GetX {F : Foot} {tr : Nat} {t : T} (a : Nat) (n : Int) (o : Option Key) (w : World) (ha : a < 4294967296) (ho : o = kyOf a n) (h : Tri w F tr t) (hw : t.Wf []) :
    Calls Try.prog 20 #[.pointer (some ⟨tr, 0, none⟩), .agg #[.int .u32 a, .int .i64 n]] w fun e w' => e = .returned (.tuple #[.int .i64 (wasX t o), .bool (hadX t o)]) ∧ Below w.heap.size w w' := by
  cases o with
  | none => exact Get_none _ a n w fun w => find_bad tr a n w ha (kyOf_none ho.symm)
  | some p =>
    obtain ⟨_, hp, rfl, rfl⟩ := kyOf_some ha ho.symm
    exact Get_any p w hp h hw
theorem CutX {F : Foot} {tr : Nat} {t : T} (a : Nat) (n : Int) (o : Option Key) (w : World) (ha : a < 4294967296) (ho : o = kyOf a n) (h : Tri w F tr t) (hw : t.Wf []) (hc : t.cnt < 999990) :
    Calls Try.prog 21 #[.pointer (some ⟨tr, 0, none⟩), .agg #[.int .u32 a, .int .i64 n]] w fun e w' => e = .returned (.tuple #[.int .i64 (wasX t o), .bool (hadX t o)]) ∧ Stood w F tr (cutX t o) w' := by
  cases o with
  | none => exact (Cut_none _ a n w fun w => find_bad tr a n w ha (kyOf_none ho.symm)).mono fun e w' ⟨h1, h2⟩ => ⟨h1, Stood.same h h2⟩
  | some p =>
    obtain ⟨_, hp, rfl, rfl⟩ := kyOf_some ha ho.symm
    exact (Cut_any p w hp h hw hc).mono fun e w' ⟨h1, h2⟩ => ⟨h1, h2⟩

/-- two trees apart from one another, in new memory -/
structure Two (B : Nat) (w : World) (tr : Nat) (t : T) (ur : Nat) (u : T) : Prop where
  ex : ∃ F G, Tri w F tr t ∧ Tri w G ur u ∧ (∀ x, F x → ¬ G x) ∧ (∀ x, F x → B ≤ x) ∧ ∀ x, G x → B ≤ x
section
variable {B : Nat} {w w' : World} {tr ur : Nat} {t u t' u' : T}
theorem Two.bel (h : Two B w tr t ur u) (hb : Below w.heap.size w w') : Two B w' tr t ur u := by
  obtain ⟨F, G, h1, h2, h3, h4, h5⟩ := h
  exact ⟨F, G, h1.bel hb, h2.bel hb, h3, h4, h5⟩
theorem Two.swap (h : Two B w tr t ur u) : Two B w ur u tr t := by
  obtain ⟨F, G, h1, h2, h3, h4, h5⟩ := h
  exact ⟨G, F, h2, h1, fun x hg hf => h3 x hf hg, h5, h4⟩
/-- an act on the first one -/
theorem Two.left (h : Two B w tr t ur u) (hB : B ≤ w.heap.size) : ∃ F, Tri w F tr t ∧ ∀ t' w', Stood w F tr t' w' → Two B w' tr t' ur u ∧ Below B w w' := by
  obtain ⟨F, G, h1, h2, h3, h4, h5⟩ := h
  refine ⟨F, h1, fun t' w' ⟨F', a, b, c⟩ => ⟨⟨F', G, a, h2.chg b (fun x hg hf => h3 x hf hg), fun x hx hg => ?_, fun x hx => ?_, h5⟩, b.below h4 hB⟩⟩
  · rcases c x hx with e | e
    · exact h3 x e hg
    · have := h2.lt x hg; omega
  · rcases c x hx with e | e
    · exact h4 x e
    · omega
end
end Go.Proofs.Ytbhhkjkjihenoaa.tri
