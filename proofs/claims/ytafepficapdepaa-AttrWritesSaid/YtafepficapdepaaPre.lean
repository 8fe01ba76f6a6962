/- Rows of prefixes (an address and a length each): what a slice of them holds; new slices handed back; arguments opened. No condition beyond those that each lemma states. -/
import Derived.Test.YtafepficapdepaaGround
import Derived.Deep.SlicePairs
namespace Go.Proofs.Ytafepficapdepaa.mem
open Go.RowKit Go.Joins Go.ChangeShapes Go.WideShapes Go.ChangeAt Go.Proofs.Ytafepficapdepaa.kit
set_option linter.unusedVariables false

/-- a slice handed back in memory that is new, or nil -/
structure NewSl (size n : Nat) (xs : List Value) (w : World) (A : Option Addr) (c : Nat) (w' : World) : Prop where
  nil : A = none → c = 0
  cap : n ≤ c
  max : c ≤ maxLen
  rd : Rd w' w'.heap.size size A n xs
  bel : Below w.heap.size w w'
  new : ∀ ad, A = some ad → w.heap.size ≤ ad.block

/-- prefixes as cells -/
def pv (l : List (Nat × Int)) : List Value := l.flatMap fun p => [.int .u32 (p.1 : Int), .int .i64 p.2]
theorem pv_len (l : List (Nat × Int)) : (pv l).length = l.length * 2 := by
  induction l with
  | nil => rfl
  | cons p l ih => simp [pv] at ih ⊢; omega
theorem pv_cons (p : Nat × Int) (l : List (Nat × Int)) : pv (p :: l) = .int .u32 (p.1 : Int) :: .int .i64 p.2 :: pv l := by simp [pv]
theorem pv_app (l r : List (Nat × Int)) : pv (l ++ r) = pv l ++ pv r := by simp [pv]
theorem pv_take (l : List (Nat × Int)) : ∀ k : Nat, pv (l.take k) = (pv l).take (k * 2) := by
  induction l with
  | nil => intro k; simp [pv]
  | cons p l ih =>
    intro k
    cases k with
    | zero => simp [pv]
    | succ k => rw [List.take_succ_cons, pv_cons, pv_cons, show (k + 1) * 2 = k * 2 + 1 + 1 from by omega, List.take_succ_cons, List.take_succ_cons, ih]
theorem pv_drop (l : List (Nat × Int)) : ∀ k : Nat, pv (l.drop k) = (pv l).drop (k * 2) := by
  induction l with
  | nil => intro k; simp [pv]
  | cons p l ih =>
    intro k
    cases k with
    | zero => simp [pv]
    | succ k => rw [List.drop_succ_cons, pv_cons, show (k + 1) * 2 = k * 2 + 1 + 1 from by omega, List.drop_succ_cons, List.drop_succ_cons, ih]
theorem pv_at (l : List (Nat × Int)) (k : Nat) (h : k < l.length) : (pv l)[k * 2]? = some (.int .u32 (l[k].1 : Int)) ∧ (pv l)[k * 2 + 1]? = some (.int .i64 l[k].2) := by
  have hd := pv_drop l k
  rw [List.drop_eq_getElem_cons h, pv_cons] at hd
  refine ⟨?_, ?_⟩
  · have := congrArg (·[0]?) hd
    simpa using this.symm
  · have := congrArg (·[1]?) hd
    simpa using this.symm
theorem pv_one (l : List (Nat × Int)) : ∀ u ∈ pv l, u.oneCell' = true := by
  intro u hu
  simp only [pv, List.mem_flatMap] at hu
  obtain ⟨p, _, hp⟩ := hu
  simp at hp
  rcases hp with rfl | rfl <;> rfl

/-- the slice reads as these prefixes -/
def Ps (w : World) (B : Nat) (A : Option Addr) (l : List (Nat × Int)) : Prop := Rd w B 2 A l.length (pv l)
theorem Ps.at_ {w : World} {B : Nat} {A : Option Addr} {l : List (Nat × Int)} (h : Ps w B A l) {k : Nat} (hk : k < l.length) :
    ∃ b off, A = some ⟨b, off, none⟩ ∧ b < B ∧ w.cell? ⟨b, off + k * 2, none⟩ = some (.int .u32 (l[k].1 : Int)) ∧ w.cell? ⟨b, off + k * 2 + 1, none⟩ = some (.int .i64 l[k].2) := by
  obtain ⟨b, off, e, hb, hc⟩ := h.2 (by omega)
  obtain ⟨h0, h1⟩ := pv_at l k hk
  exact ⟨b, off, e, hb, hc _ _ h0, by rw [Nat.add_assoc]; exact hc _ _ h1⟩
theorem Rd.skip2 {w : World} {B n : Nat} {xs : List Value} {a : Addr} {size : Nat} (h : Rd w B size (some a) n xs) {k : Nat} (hk : k ≤ n) : Rd w B size (some (a.add (k * size))) (n - k) (xs.drop (k * size)) := by
  refine ⟨by rw [List.length_drop, h.1, Nat.sub_mul], fun hn => ?_⟩
  obtain ⟨b, off, e, hb, hc⟩ := h.2 (by omega)
  injection e with e
  subst e
  refine ⟨b, off + k * size, ?_, hb, fun j u hu => ?_⟩
  · unfold Addr.add; split
    · rename_i h0; rw [h0]; rfl
    · rfl
  · rw [List.getElem?_drop] at hu
    rw [Nat.add_assoc]; exact hc _ u hu

theorem NewSl.of_own {size n c : Nat} {xs : List Value} {w w' : World} {e : TypeId} {A : Option Addr} (h : w'.ownsRow w.heap.size e size (.slice A n c) n xs) (hb : Below w.heap.size w w') : NewSl size n xs w A c w' := by
  obtain ⟨A', c', hv, hA, h1, h2⟩ := own_form h
  injection hv with e1 _ e3
  subst e1 e3
  refine ⟨hA, h1, h2, Rd.of_own h, hb, fun ad had => ?_⟩
  subst had
  rcases h.2 with ⟨h0, _⟩ | ⟨g, cap, cur, h0, hg, _⟩
  · cases h0
  · cases h0; exact hg
theorem NewSl.wide {size n c : Nat} {xs : List Value} {w w0 w' : World} {A : Option Addr} (h : NewSl size n xs w A c w') (hb : Below w0.heap.size w0 w) : NewSl size n xs w0 A c w' :=
  ⟨h.nil, h.cap, h.max, h.rd, hb.trans (h.bel.mono hb.size), fun ad e => Nat.le_trans hb.size (h.new ad e)⟩
theorem NewSl.later {size n c : Nat} {xs : List Value} {w w1 w' : World} {A : Option Addr} (h : NewSl size n xs w A c w1) (hb : Below w1.heap.size w1 w') : NewSl size n xs w A c w' :=
  ⟨h.nil, h.cap, h.max, (h.rd.below hb (Nat.le_refl _)).more hb.size, h.bel.trans (hb.mono h.bel.size), h.new⟩
theorem NewSl.none_ (size : Nat) {w w' : World} (hb : Below w.heap.size w w') : NewSl size 0 [] w none 0 w' :=
  ⟨fun _ => rfl, Nat.le_refl _, Nat.zero_le _, Rd.nil _ _ _ _, hb, fun _ h => by cases h⟩
theorem own_none (w : World) (base : Nat) (e : TypeId) (size : Nat) : w.ownsRow base e size (.slice none 0 0) 0 [] := ⟨by simp, .inl ⟨rfl, rfl⟩⟩
theorem own_empty2 (w : World) (e : TypeId) (base size : Nat) (hb : base ≤ w.heap.size) : (w.alloc (.cells #[] e)).ownsRow base e size (.slice (some ⟨w.heap.size, 0, none⟩) 0 0) 0 [] :=
  ⟨by simp, .inr ⟨w.heap.size, 0, #[], rfl, hb, heap_alloc_new w _, Nat.le_refl _, by unfold maxLen; omega, by simp, by simp⟩⟩
/-- a row that has just been made of these cells -/
theorem own_new (w : World) (e : TypeId) (base size n : Nat) (cs : Array Value) (hb : base ≤ w.heap.size) (hn : n ≤ maxLen) (hs : cs.size = n * size) : (w.alloc (.cells cs e)).ownsRow base e size (.slice (some ⟨w.heap.size, 0, none⟩) n n) n cs.toList :=
  ⟨by simpa using hs, .inr ⟨w.heap.size, n, cs, rfl, hb, heap_alloc_new w _, Nat.le_refl _, hn, hs, List.take_of_length_le (by simp; omega)⟩⟩
theorem rd_new (w : World) (e : TypeId) (size n : Nat) (cs : Array Value) (hs : cs.size = n * size) : Rd (w.alloc (.cells cs e)) (w.heap.size + 1) size (some ⟨w.heap.size, 0, none⟩) n cs.toList := by
  refine ⟨by simpa using hs, fun _ => ⟨w.heap.size, 0, rfl, by omega, fun j u hu => ?_⟩⟩
  rw [Nat.zero_add, (Bk.new w e cs).cell j]
  simpa using hu
theorem own_le {w : World} {b b' : Nat} {e : TypeId} {size n : Nat} {v : Value} {xs : List Value} (h : w.ownsRow b e size v n xs) (hb : b' ≤ b) : w.ownsRow b' e size v n xs := by
  refine ⟨h.1, ?_⟩
  rcases h.2 with h0 | ⟨g, cap, cur, h0, hg, h1⟩
  · exact .inl h0
  · exact .inr ⟨g, cap, cur, h0, Nat.le_trans hb hg, h1⟩
/-- a row of the call's own, later -/
theorem own_below {w w' : World} {base : Nat} {e : TypeId} {size n : Nat} {v : Value} {xs : List Value} (h : w.ownsRow base e size v n xs) (hb : Below w.heap.size w w') : w'.ownsRow base e size v n xs :=
  h.kept (row := none) ⟨hb.os, hb.tape, hb.output, hb.size, fun k hk _ => hb.block k hk⟩ (by
    by_cases e : v.ownBlock = none
    · exact .inl e
    · exact .inr e)

section
variable {H : Type} {enc : TypeId × Value → H} {P : Program} {w : World} {base : Nat} {held : Bool}
/-- a slice of prefixes that came in -/
theorem open_pre {r : Reach} {b0 : Nat} {t e : TypeId} {f0 f1 : Field} {v : Value} {d : DataW H} {p : List MemPlace} (ht : P.underlying t = some (.slice e)) (he : P.underlying e = some (.struct #[f0, f1]))
    (ce : P.cellsOf e = 2) (o0 : f0.offset = 0) (o1 : f1.offset = 1) (c0 : P.cellsOf f0.type = 1) (c1 : P.cellsOf f1.type = 1) (t0 : P.underlying f0.type = some (.int .u32)) (t1 : P.underlying f1.type = some (.int .i64))
    (hv : Value.okWide P w r b0 t v) (h : DataW.Trod enc P w base (fun _ => true) held t v d p) :
    ∃ A c, ∃ l : List (Nat × Int), v = .slice A l.length c ∧ (A = none → c = 0) ∧ l.length ≤ c ∧ c ≤ maxLen ∧ Ps w w.heap.size A l ∧ ∀ q ∈ l, q.1 < 4294967296 ∧ -9223372036854775808 ≤ q.2 ∧ q.2 ≤ 9223372036854775807 := by
  obtain ⟨a1, len, cap, rfl⟩ := okWide_slice ht hv
  obtain ⟨fuel, hf⟩ := h
  rcases Go.Deep.open_slice_pairs ht he ce o0 o1 c0 c1 hf with ⟨hcs, hx⟩ | ⟨a, len', cap', m, n, V0, V1, D0, D1, P0, P1, hcs, _, hl, hm, hmm, hx, hi⟩
  · simp [Value.cells] at hcs
    obtain ⟨rfl, rfl, rfl⟩ := hcs
    exact ⟨none, 0, [], rfl, fun _ => rfl, Nat.le_refl _, Nat.zero_le _, Rd.nil _ _ _ _, fun _ h => by cases h⟩
  · simp [Value.cells] at hcs
    obtain ⟨rfl, rfl, rfl⟩ := hcs
    simp only [if_true] at hmm
    subst hmm
    obtain ⟨q, hq⟩ := Go.Deep.choose_lt (n := len) (p := fun i (q : Nat × Int) => w.cell? (a.add (i * 2)) = some (.int .u32 (q.1 : Int)) ∧ w.cell? (a.add (i * 2 + 1)) = some (.int .i64 q.2) ∧ q.1 < 4294967296 ∧ -9223372036854775808 ≤ q.2 ∧ q.2 ≤ 9223372036854775807) (fun i hil => by
      obtain ⟨g0, g1, g2, g3⟩ := hi i (by omega)
      obtain ⟨x, e0, _, wx⟩ := DataW.trod_int t0 g2
      obtain ⟨y, e1, _, wy⟩ := DataW.trod_int t1 g3
      simp at e0 e1
      have hx := wf_u32 wx
      have hy := wf_i64 wy
      obtain ⟨k, rfl⟩ := Int.eq_ofNat_of_zero_le hx.1
      exact ⟨(k, y), by rw [g0, e0], by rw [g1, e1], by omega, hy.1, hy.2⟩)
    have hlen : ((List.range len).map q).length = len := by simp
    refine ⟨some a, _, (List.range len).map q, by rw [hlen], (fun h => by cases h), by rw [hlen]; exact hl, hm, ?_, ?_⟩
    · unfold Ps
      rw [hlen]
      refine ⟨by rw [pv_len, hlen], fun hn => ?_⟩
      obtain ⟨ab, ao, spot⟩ := a
      have hspot : spot = none := by simpa [Addr.add] using World.cell?_spot (hq 0 hn).1
      subst hspot
      refine ⟨ab, ao, rfl, ?_, fun j u hu => ?_⟩
      · have := World.block_lt_of_cell? w _ (hq 0 hn).1
        simpa [Addr.add] using this
      · have hj : j < len * 2 := by
          rcases Nat.lt_or_ge j (len * 2) with h | h
          · exact h
          · rw [List.getElem?_eq_none (by rw [pv_len, hlen]; exact h)] at hu; cases hu
        have hk : j / 2 < len := by omega
        obtain ⟨p0, p1⟩ := pv_at ((List.range len).map q) (j / 2) (by rw [hlen]; exact hk)
        obtain ⟨g0, g1, _⟩ := hq (j / 2) hk
        rw [Addr.add_lit] at g0 g1
        have hj2 : j = j / 2 * 2 ∨ j = j / 2 * 2 + 1 := by omega
        simp only [List.getElem_map, List.getElem_range] at p0 p1
        rcases hj2 with e | e
        · rw [e] at hu ⊢
          rw [p0] at hu
          rw [g0, ← hu]
        · rw [e] at hu ⊢
          rw [p1] at hu
          rw [g1, ← hu]
    · intro y hy
      obtain ⟨i, hi, rfl⟩ := List.mem_map.1 hy
      exact (hq i (List.mem_range.1 hi)).2.2
end
end Go.Proofs.Ytafepficapdepaa.mem
