/- What fsm's Run returns. Condition: at most ten events. -/
import Derived.Test.YtbhhkjkjihenoaaFsmRuns
namespace Go.Proofs.Ytbhhkjkjihenoaa.fsm
open Go.RowKit Go.Proofs.Ytbhhkjkjihenoaa.kit Go.Proofs.Ytbhhkjkjihenoaa.mem Go.Proofs.Ytbhhkjkjihenoaa.foot
set_option linter.unusedVariables false
set_option linter.unusedSimpArgs false

/-- several events, one behind the other -/
inductive Runs (s : Sd) : Fs → List (List Value) → Fs → List Ot → Prop
  | nil (f : Fs) : Runs s f [] f []
  | cons {f f1 f2 : Fs} {e X : List Value} {o : Ot} {l : List (List Value)} {os : List Ot} : MStep s f e f1 o X → e.length = 23 → (∀ u ∈ e, u.oneCell' = true) → Runs s f1 l f2 os → Runs s f (e :: l) f2 (o :: os)
theorem Runs.len {s : Sd} {f f' : Fs} {l : List (List Value)} {os : List Ot} (h : Runs s f l f' os) : os.length = l.length := by
  induction h with
  | nil => rfl
  | cons _ _ _ _ ih => simp [ih]

/-- rows of what is done -/
def OutRows (os : List Ot) (xs : List Value) : Prop := ∃ rs : List (Option Addr × Nat × Nat), rs.length = os.length ∧ xs = ((rs.zip os).map fun p => otV p.1.1 p.1.2.1 p.1.2.2 p.2).flatten
theorem OutRows.nil : OutRows [] [] := ⟨[], rfl, rfl⟩
theorem OutRows.app {os : List Ot} {xs : List Value} (h : OutRows os xs) (A : Option Addr) (n c : Nat) (o : Ot) : OutRows (os ++ [o]) (xs ++ otV A n c o) := by
  obtain ⟨rs, h1, rfl⟩ := h
  refine ⟨rs ++ [(A, n, c)], by simp [h1], ?_⟩
  rw [List.zip_append h1]
  simp
theorem rows_at {os : List Ot} {xs : List Value} (h : OutRows os xs) (i : Nat) (o : Ot) (ho : os[i]? = some o) : xs[i * 5 + 3]? = some (.bool o.up) := by
  obtain ⟨rs, h1, rfl⟩ := h
  induction os generalizing i rs with
  | nil => cases ho
  | cons a os ih =>
    obtain ⟨r, rs, rfl⟩ : ∃ r rs', rs = r :: rs' := by cases rs with | nil => cases h1 | cons r rs => exact ⟨r, rs, rfl⟩
    cases i with
    | zero =>
      cases ho
      rfl
    | succ i =>
      have := ih i (by simpa using ho) rs (by simpa using h1)
      simp only [List.zip_cons_cons, List.map_cons, List.flatten_cons]
      rw [List.getElem?_append_right (by simp [otV]; omega)]
      rw [← this]
      congr 1
      simp [otV]
      omega

theorem info_o : (Try.prog.info? 76).map (fun i => (i.zero, i.size, i.bytes)) = some (some (.agg #[.slice none 0 0, .bool false, .bool false, .bool false, .bool false]), 5, 32) := by kernel_rfl
theorem info_sd : (Try.prog.info? 53).map (·.size) = some 6 := by kernel_rfl

/-- a struct and a value handed back -/
theorem res_cv {P : Program} {fn : Func} {p m : Tmp} {ty : TypeId} (h : fn.results = #[.cell p ty, .tmp m]) (tmps : Array Value) (w : World) (g : Nat) (t : TypeId) (v : Value) (cs : Array Value) (fr : Nat × Nat) (d : TypeDesc)
    (hm : tmps.getD m undef = v) (hp : tmps.getD p undef = .pointer (some ⟨g, 0, none⟩)) (hg : w.heap[g]? = some (.cells cs t fr))
    (hu : P.underlying ty = some d) (hd : (match d with | .struct _ | .array _ _ => true | _ => false) = true) (hi : (P.info? ty).map (·.size) = some cs.size) :
    (results fn tmps).run P w = .ok (.tuple #[.agg cs, v]) w := by
  have hp' : tmps[p]?.getD undef = .pointer (some ⟨g, 0, none⟩) := by simpa using hp
  have hm' : tmps[m]?.getD undef = v := by simpa using hm
  simp [results, h, hp', hm', asAddr, run_loadVar_row w g t ty cs fr d hg hu hd hi]

/-- the loop's memory -/
structure RI (w : World) (s : Sd) (gs gf g6 : Nat) (f : Fs) (A : Option Addr) (n c : Nat) (xs : List Value) (wr : World) : Prop where
  bs : Bk wr gs 53 (sdV s).toArray
  bf : Bk wr gf 70 (fsV f).toArray
  b6 : Bk wr g6 70 (fsV (f0 0)).toArray
  own : Own wr 76 5 A n c xs
  low : ∀ k, sf A k → w.heap.size ≤ k ∧ k ≠ gs ∧ k ≠ gf ∧ k ≠ g6
  bel : Below w.heap.size w wr
  ne : gs ≠ gf ∧ g6 ≠ gf ∧ w.heap.size ≤ gf ∧ w.heap.size ≤ g6
section
variable {w wr w3 w5 : World} {s : Sd} {gs gf g6 g11 n c n' c' : Nat} {f f1 : Fs} {A A' : Option Addr} {xs xs' : List Value} {V : List Value} {z : Array Value}
theorem RI.belw (h : RI w s gs gf g6 f A n c xs wr) (hb : Below wr.heap.size wr w3) : RI w s gs gf g6 f A n c xs w3 :=
  ⟨h.bs.below hb h.bs.lt, h.bf.below hb h.bf.lt, h.b6.below hb h.b6.lt, h.own.bel hb, h.low, h.bel.trans (hb.mono h.bel.size), h.ne⟩
theorem RI.mid (h : RI w s gs gf g6 f A n c xs wr) (hb : Below wr.heap.size wr w3) (hg : wr.heap.size ≤ g11) : RI w s gs gf g6 f1 A n c xs (stores (stores w3 gf 0 (fsV f1)) g11 0 V) := by
  have h3 := h.belw hb
  have c1 := stores_chg (g := gf) (fsV f1) 0 w3
  have c2 := stores_chg (g := g11) V 0 (stores w3 gf 0 (fsV f1))
  have l1 := h.bs.lt
  have l2 := h.bf.lt
  have l3 := h.b6.lt
  have hbel1 := h3.bel.trans (c1.below (fun k e => by rw [e]; exact h.ne.2.2.1) h3.bel.size)
  have hsz := h.bel.size
  refine ⟨(h3.bs.chg c1 h.ne.1).chg c2 (by show ¬ _; omega), (stores_all (fsV f1) h3.bf rfl).chg c2 (by show ¬ _; omega), (h3.b6.chg c1 h.ne.2.1).chg c2 (by show ¬ _; omega), (h3.own.chg c1 fun k _ hk e => (h.low k hk).2.2.1 e).chg c2 fun k _ hk e => ?_, h.low, ?_, h.ne⟩
  · have := h.own.lt k hk
    have e : k = g11 := e
    omega
  · exact hbel1.trans (c2.below (fun k e => by rw [e]; omega) hbel1.size)
theorem RI.app (h : RI w s gs gf g6 f A n c xs wr) (ho : Own w5 76 5 A' n' c' xs') (hc : Chg (sf A) wr w5) (hf : Fresh wr (sf A) (sf A')) : RI w s gs gf g6 f A' n' c' xs' w5 := by
  have l1 := h.bs.lt
  have l2 := h.bf.lt
  have l3 := h.b6.lt
  have hsz := h.bel.size
  refine ⟨h.bs.chg hc fun e => (h.low _ e).2.1 rfl, h.bf.chg hc fun e => (h.low _ e).2.2.1 rfl, h.b6.chg hc fun e => (h.low _ e).2.2.2 rfl, ho, fun k hk => ?_, h.bel.trans (hc.below (fun k hk => (h.low k hk).1) hsz), h.ne⟩
  rcases hf k hk with g | g
  · exact h.low k g
  · refine ⟨by omega, ?_, ?_, ?_⟩ <;> omega
end
end Go.Proofs.Ytbhhkjkjihenoaa.fsm
