/- The reference trie's Put and Cut as laws over sorted rows; what both tell of one key; a tree and rows side by side. Condition: sorted rows, good keys. -/
import Derived.Test.YtbhhkjkjihenoaaTrieRefPut2
namespace Go.Proofs.Ytbhhkjkjihenoaa.tri
open T
open Go.RowKit Go.Proofs.Ytbhhkjkjihenoaa.kit Go.Proofs.Ytbhhkjkjihenoaa.mem Go.Proofs.Ytbhhkjkjihenoaa.foot Go.Proofs.Ytbhhkjkjihenoaa.pfx
set_option linter.unusedVariables false
set_option linter.unusedSimpArgs false

theorem idx_first {l : Rows} {p : Key} {i : Nat} (h : idx l (some p) = some i) : ∃ hi : i < l.length, l[i].1 = p ∧ ∀ j (hj : j < i), (l[j]'(by omega)).1 ≠ p := by
  unfold idx at h
  dsimp only at h
  obtain ⟨h1, h2, h3⟩ := List.findIdx?_eq_some_iff_getElem.1 h
  exact ⟨h1, by simpa using h2, fun j hj => by simpa using h3 j hj⟩
theorem idx_no {l : Rows} {p : Key} (h : idx l (some p) = none) : ∀ r ∈ l, r.1 ≠ p := fun r hr e => by
  have := List.findIdx?_eq_none_iff.1 (show l.findIdx? (fun r => r.1 == p) = none from h) r hr
  rw [e] at this; simp at this
theorem sorted_at {l : Rows} (h : Sorted l) {i j : Nat} (hij : i < j) (hj : j < l.length) : lt (l[i]'(by omega)).1 l[j].1 = true := List.pairwise_iff_getElem.1 h i j (by omega) hj hij
theorem sorted_ne {l : Rows} (h : Sorted l) {i j : Nat} (hi : i < l.length) (hj : j < l.length) (hne : i ≠ j) : l[i].1 ≠ l[j].1 := fun e => by
  rcases Nat.lt_or_ge i j with h1 | h1
  · have := sorted_at h h1 hj; rw [e, lt_irr] at this; cases this
  · have := sorted_at h (show j < i by omega) hi; rw [e, lt_irr] at this; cases this
theorem put_some_eq {l : Rows} (hs : Sorted l) {p : Key} (v : Int) {i : Nat} (h : idx l (some p) = some i) (hi : i < l.length) : l.set i (l[i].1, v) = putL p v l := by
  obtain ⟨_, h1, _⟩ := idx_first h
  unfold putL
  rw [if_pos (List.any_eq_true.2 ⟨l[i], List.getElem_mem hi, by simpa using h1⟩)]
  refine List.ext_getElem (by simp) fun j hj hj' => ?_
  rw [List.getElem_set, List.getElem_map]
  by_cases e : i = j
  · subst e; rw [if_pos rfl, if_pos h1, h1]
  · have hjl : j < l.length := by simpa using hj
    have this := sorted_ne hs hi hjl e
    have this : l[j].1 ≠ p := fun e => this (h1.trans e.symm)
    rw [if_neg e, if_neg this]
theorem put_none_eq {l : Rows} {p : Key} (v : Int) (h : idx l (some p) = none) : l.take (before l p) ++ (p, v) :: l.drop (before l p) = putL p v l := by
  obtain ⟨h1, h2⟩ := before_take l p
  unfold putL
  rw [if_neg, h1, h2]
  intro e
  obtain ⟨r, hr, he⟩ := List.any_eq_true.1 e
  exact idx_no h r hr (by simpa using he)
theorem cut_eq {l : Rows} (hs : Sorted l) (p : Key) : refCutL l (some p) = cutL p l := by
  unfold refCutL cutL
  rcases h : idx l (some p) with _ | i
  · refine (List.filter_eq_self.2 fun r hr => ?_).symm
    simpa using idx_no h r hr
  · obtain ⟨hi, h1, h2⟩ := idx_first h
    have e : l = l.take i ++ l[i] :: l.drop (i + 1) := by rw [← List.drop_eq_getElem_cons hi, List.take_append_drop]
    conv => rhs; rw [e]
    rw [List.filter_append, List.filter_cons, if_neg (by simp [h1])]
    have a1 : (l.take i).filter (fun x => x.1 != p) = l.take i := List.filter_eq_self.2 fun r hr => by
      obtain ⟨j, hj, rfl⟩ := List.mem_iff_getElem.1 hr
      have hj' : j < i := by simp at hj; omega
      have := h2 j hj'
      simpa using this
    have a2 : (l.drop (i + 1)).filter (fun x => x.1 != p) = l.drop (i + 1) := List.filter_eq_self.2 fun r hr => by
      obtain ⟨j, hj, rfl⟩ := List.mem_iff_getElem.1 hr
      have hj' : i + 1 + j < l.length := by simp at hj; omega
      have h3 := sorted_ne hs hj' hi (by omega)
      have h3 : l[i + 1 + j].1 ≠ p := fun e => h3 (e.trans h1.symm)
      simpa using h3
    rw [a1, a2]
theorem refPut_any (B : Nat) (l : Rows) (A : Option Addr) (c : Nat) (p : Key) (v : Int) (w : World) (hl : l.length ≤ 1000000) (hs : Short l) (ho : Sorted l) (hp : p.length ≤ 32) (hr : Row3 B w 3 A l.length c (rv l)) (hB : B ≤ w.heap.size) :
    Calls Try.prog 67 #[.slice A l.length c, .agg #[.int .u32 (adr p), .int .i64 p.length], .int .i64 v] w (RowsP B w A (putL p v l)) := by
  rcases hi : idx l (some p) with _ | i
  · rw [← put_none_eq v hi]; exact refPut_none B l A c p v w hl hs hp hi hr hB
  · obtain ⟨hil, _⟩ := idx_first hi
    rw [← put_some_eq ho v hi hil]; exact refPut_some B l A c p v i w hl hs hp hi hil hr hB

/-- what tree and rows tell of one key -/
theorem at_tells {t : T} (h : t.Wf []) (o : Option Key) : (atI t.rows o = -1 ∧ hadX t o = false ∧ wasX t o = 0) ∨ ∃ i, ∃ hi : i < t.rows.length, atI t.rows o = (i : Int) ∧ hadX t o = true ∧ wasX t o = t.rows[i].2 := by
  cases o with
  | none => exact .inl ⟨rfl, rfl, rfl⟩
  | some p =>
    rcases hi : idx t.rows (some p) with _ | i
    · have hn : hadB t p = false := by
        rcases hh : hadB t p with _ | _
        · rfl
        · obtain ⟨v, hv⟩ := (had_iff h p).1 hh
          exact absurd rfl (idx_no hi _ hv)
      refine .inl ⟨by rw [atI, hi], hn, ?_⟩
      show wasV t p = 0
      unfold hadB at hn
      unfold wasV
      rcases hg : (t.find p).got with _ | u
      · rfl
      · rw [hg] at hn; cases hn
    · obtain ⟨hil, h1, _⟩ := idx_first hi
      have hm : (p, t.rows[i].2) ∈ t.rows := by rw [← h1]; exact List.getElem_mem hil
      have hg := (T.find_mem h).1 hm
      refine .inr ⟨i, hil, by rw [atI, hi], ?_, ?_⟩
      · show hadB t p = true
        unfold hadB; rw [hg]; rfl
      · show wasV t p = _
        unfold wasV; rw [hg]
theorem cut_rows {t : T} (h : t.Wf []) (o : Option Key) : (cutX t o).rows = refCutL t.rows o := by
  cases o with
  | none => rfl
  | some p =>
    rw [cut_eq (T.rows_sorted h)]
    unfold cutX
    dsimp only
    split
    · exact rows_cut h
    · rename_i hn
      refine (List.filter_eq_self.2 fun r hr => ?_).symm
      have : r.1 ≠ p := fun e => hn ((had_iff h p).2 ⟨r.2, by rw [← e]; exact hr⟩)
      simpa using this
theorem put_rows {t : T} (h : t.Wf []) (p : Key) (v : Int) : (putX t (some p) v).rows = putL p v t.rows := rows_put h List.nil_prefix
theorem tr_short {w : World} : ∀ {t : T} {F : Foot} {A : Option Addr}, Tr w F t A → Short t.rows
  | .nil, _, _, _, r, hr => by cases hr
  | .node k v b l r, _, _, ⟨g, FL, FR, kl, kr, e, h1, h2, h3, h4, _⟩, x, hx => by
    rw [T.rows] at hx
    rcases List.mem_append.1 hx with hx | hx
    · rcases b with _ | _
      · cases hx
      · obtain rfl := List.mem_singleton.1 hx
        exact h2
    · rcases List.mem_append.1 hx with hx | hx
      · exact tr_short h3 x hx
      · exact tr_short h4 x hx

/-- a tree and rows of the same, apart, from block B on -/
structure Play (B : Nat) (w : World) (tr : Nat) (t : T) (A : Option Addr) (c : Nat) : Prop where
  ex : ∃ F, Tri w F tr t ∧ (∀ x, F x → B ≤ x) ∧ ∀ x, sf A x → ¬ F x
  row : Row3 B w 3 A t.rows.length c (rv t.rows)
  wf : t.Wf []
section
variable {B : Nat} {w w' w2 : World} {tr c c' : Nat} {t t' : T} {A A' : Option Addr}
theorem Play.bel (h : Play B w tr t A c) (hb : Below w.heap.size w w') : Play B w' tr t A c := by
  obtain ⟨F, h1, h2, h3⟩ := h.ex
  exact ⟨⟨F, h1.bel hb, h2, h3⟩, h.row.bel hb, h.wf⟩
theorem Play.short (h : Play B w tr t A c) : Short t.rows := by
  obtain ⟨F, h1, _⟩ := h.ex
  obtain ⟨⟨A, G, _, ht, _⟩, _⟩ := h1
  exact tr_short ht
/-- an act on the tree leaves the rows -/
theorem Play.tree (h : Play B w tr t A c) (hB : B ≤ w.heap.size) : ∃ F, Tri w F tr t ∧ ∀ t' w', Stood w F tr t' w' → Below B w w' ∧ Row3 B w' 3 A t.rows.length c (rv t.rows) ∧ ∀ w2 A' c', t'.Wf [] → Below w'.heap.size w' w2 → Row3 B w2 3 A' t'.rows.length c' (rv t'.rows) → (∀ x, sf A' x → sf A x ∨ w'.heap.size ≤ x) → Play B w2 tr t' A' c' := by
  obtain ⟨F, h1, h2, h3⟩ := h.ex
  refine ⟨F, h1, fun t' w' ⟨F', a, b, d⟩ => ⟨b.below h2 hB, h.row.chg b h3, fun w2 A' c' hw hb hr hx => ⟨⟨F', a.bel hb, fun x hf => ?_, fun x hs hf => ?_⟩, hr, hw⟩⟩⟩
  · rcases d x hf with e | e
    · exact h2 x e
    · omega
  · have hl := a.lt x hf
    rcases hx x hs with e | e
    · rcases d x hf with e' | e'
      · exact h3 x e e'
      · have := h.row.lt x e; omega
    · omega
/-- the same behind new memory, which the act leaves too -/
theorem Play.tree2 {w3 : World} (h : Play B w tr t A c) (hb' : Below w.heap.size w w3) (hB : B ≤ w.heap.size) : ∃ F, Tri w3 F tr t ∧ ∀ t' w', Stood w3 F tr t' w' → Below B w3 w' ∧ Row3 B w' 3 A t.rows.length c (rv t.rows) ∧ (∀ g T cs, w.heap.size ≤ g → Bk w3 g T cs → Bk w' g T cs) ∧ ∀ w2 A' c', t'.Wf [] → Below w'.heap.size w' w2 → Row3 B w2 3 A' t'.rows.length c' (rv t'.rows) → (∀ x, sf A' x → sf A x ∨ w'.heap.size ≤ x) → Play B w2 tr t' A' c' := by
  obtain ⟨F, h1, h2, h3⟩ := h.ex
  have h4 := h.bel hb'
  have h5 := h1.bel hb'
  refine ⟨F, h5, fun t' w' ⟨F', a, b, d⟩ => ⟨b.below h2 (Nat.le_trans hB hb'.size), h4.row.chg b h3, fun g T cs hg hk => hk.chg b fun e => by have := h1.lt g e; omega, fun w2 A' c' hw hb hr hx => ⟨⟨F', a.bel hb, fun x hf => ?_, fun x hs hf => ?_⟩, hr, hw⟩⟩⟩
  · rcases d x hf with e | e
    · exact h2 x e
    · have := hB; have := hb'.size; omega
  · have hl := a.lt x hf
    rcases hx x hs with e | e
    · rcases d x hf with e' | e'
      · exact h3 x e e'
      · have := h4.row.lt x e; omega
    · omega
end
end Go.Proofs.Ytbhhkjkjihenoaa.tri
