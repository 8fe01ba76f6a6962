/- Rows of prefixes (an address and a length each): what a slice of them holds; new slices handed back; arguments opened. No condition beyond those that each lemma states. -/
import Derived.Test.YtbljhjfaimnieaaGreatGround
import Derived.Deep.SlicePairs
namespace Go.Proofs.YtbljhjfaimnieaaGreat.mem
open Go.RowKit Go.Joins Go.ChangeShapes Go.WideShapes Go.ChangeAt Go.Proofs.YtbljhjfaimnieaaGreat.kit
set_option linter.unusedVariables false

/-- a slice handed back in memory that is new, or nil -/
structure NewSl (size n : Nat) (xs : List Value) (w : World) (A : Option Addr) (c : Nat) (w' : World) : Prop where
  nil : A = none → c = 0
  cap : n ≤ c
  max : c ≤ maxLen
  rd : Rd w' w'.heap.size size A n xs
  bel : Below w.heap.size w w'
  new : ∀ ad, A = some ad → w.heap.size ≤ ad.block

/-- prefixes as cells -/
def pv (l : List (Nat × Int)) : List Value := l.flatMap fun p => [.int .u32 (p.1 : Int), .int .i64 p.2]
theorem pv_cons (p : Nat × Int) (l : List (Nat × Int)) : pv (p :: l) = .int .u32 (p.1 : Int) :: .int .i64 p.2 :: pv l := by simp [pv]
theorem pv_drop (l : List (Nat × Int)) : ∀ k : Nat, pv (l.drop k) = (pv l).drop (k * 2) := by
  induction l with
  | nil => intro k; simp [pv]
  | cons p l ih =>
    intro k
    cases k with
    | zero => simp [pv]
    | succ k => rw [List.drop_succ_cons, pv_cons, show (k + 1) * 2 = k * 2 + 1 + 1 from by omega, List.drop_succ_cons, List.drop_succ_cons, ih]
theorem pv_at (l : List (Nat × Int)) (k : Nat) (h : k < l.length) : (pv l)[k * 2]? = some (.int .u32 (l[k].1 : Int)) ∧ (pv l)[k * 2 + 1]? = some (.int .i64 l[k].2) := by
  have hd := pv_drop l k
  rw [List.drop_eq_getElem_cons h, pv_cons] at hd
  refine ⟨?_, ?_⟩
  · have := congrArg (·[0]?) hd
    simpa using this.symm
  · have := congrArg (·[1]?) hd
    simpa using this.symm
/-- the slice reads as these prefixes -/
def Ps (w : World) (B : Nat) (A : Option Addr) (l : List (Nat × Int)) : Prop := Rd w B 2 A l.length (pv l)
theorem Ps.at_ {w : World} {B : Nat} {A : Option Addr} {l : List (Nat × Int)} (h : Ps w B A l) {k : Nat} (hk : k < l.length) :
    ∃ b off, A = some ⟨b, off, none⟩ ∧ b < B ∧ w.cell? ⟨b, off + k * 2, none⟩ = some (.int .u32 (l[k].1 : Int)) ∧ w.cell? ⟨b, off + k * 2 + 1, none⟩ = some (.int .i64 l[k].2) := by
  obtain ⟨b, off, e, hb, hc⟩ := h.2 (by omega)
  obtain ⟨h0, h1⟩ := pv_at l k hk
  exact ⟨b, off, e, hb, hc _ _ h0, by rw [Nat.add_assoc]; exact hc _ _ h1⟩
theorem NewSl.of_own {size n c : Nat} {xs : List Value} {w w' : World} {e : TypeId} {A : Option Addr} (h : w'.ownsRow w.heap.size e size (.slice A n c) n xs) (hb : Below w.heap.size w w') : NewSl size n xs w A c w' := by
  obtain ⟨A', c', hv, hA, h1, h2⟩ := own_form h
  injection hv with e1 _ e3
  subst e1 e3
  refine ⟨hA, h1, h2, Rd.of_own h, hb, fun ad had => ?_⟩
  subst had
  rcases h.2 with ⟨h0, _⟩ | ⟨g, cap, cur, h0, hg, _⟩
  · cases h0
  · cases h0; exact hg
theorem NewSl.wide {size n c : Nat} {xs : List Value} {w w0 w' : World} {A : Option Addr} (h : NewSl size n xs w A c w') (hb : Below w0.heap.size w0 w) : NewSl size n xs w0 A c w' :=
  ⟨h.nil, h.cap, h.max, h.rd, hb.trans (h.bel.mono hb.size), fun ad e => Nat.le_trans hb.size (h.new ad e)⟩
theorem NewSl.none_ (size : Nat) {w w' : World} (hb : Below w.heap.size w w') : NewSl size 0 [] w none 0 w' :=
  ⟨fun _ => rfl, Nat.le_refl _, Nat.zero_le _, Rd.nil _ _ _ _, hb, fun _ h => by cases h⟩
theorem own_none (w : World) (base : Nat) (e : TypeId) (size : Nat) : w.ownsRow base e size (.slice none 0 0) 0 [] := ⟨by simp, .inl ⟨rfl, rfl⟩⟩
section
variable {H : Type} {enc : TypeId × Value → H} {P : Program} {w : World} {base : Nat} {held : Bool}
end
end Go.Proofs.YtbljhjfaimnieaaGreat.mem
