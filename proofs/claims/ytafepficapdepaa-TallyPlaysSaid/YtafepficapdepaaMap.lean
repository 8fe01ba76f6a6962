/- Maps of the call's own with integer keys, as lists of pairs: made, asked, written, struck. Conditions as each lemma states. -/
import Derived.Test.YtafepficapdepaaFoot
import Derived.Maps.OwnSet
import Derived.Maps.OwnOps
import Derived.Maps.RangeWalk
namespace Go.Proofs.Ytafepficapdepaa.maps
open Go.RowKit Go.Proofs.Ytafepficapdepaa.kit Go.Proofs.Ytafepficapdepaa.mem Go.Proofs.Ytafepficapdepaa.foot
open Go.Maps (Keyed)
set_option linter.unusedVariables false

/-- how elements are written and read -/
structure Elem (α : Type) where
  mkv : α → Value
  dat : α → DataW Unit
  rd : Value → Option (DataW Unit × List MemPlace)
  rd_mk : ∀ a, rd (mkv a) = some (dat a, [])
  inv : ∀ {v y}, rd v = some y → ∃ a, v = mkv a ∧ y = (dat a, [])
  inj : ∀ {a b}, dat a = dat b → a = b

section
variable {α : Type} (E : Elem α) (q : IntKind)
/-- the pairs of a map's datum -/
structure Rep (D : DataW Unit) (es : List (Int × α)) : Prop where
  nd : es.Pairwise (fun p r => p.1 ≠ r.1)
  wf : ∀ p ∈ es, (Lit.int q p.1).wf = true
  has : ∀ x, Maps.has D (.int q x) = es.any (fun p => p.1 == x)
  at_ : ∀ p ∈ es, ∀ z, D.atKey (.int q p.1) z = E.dat p.2
  size : Maps.size D = es.length
def put (es : List (Int × α)) (x : Int) (a : α) : List (Int × α) := (x, a) :: es.filter (fun p => p.1 != x)
def cut (es : List (Int × α)) (x : Int) : List (Int × α) := es.filter (fun p => p.1 != x)
variable {E q} {D : DataW Unit} {es : List (Int × α)} {x : Int} {a : α}
theorem key_ne {x y : Int} (h : x ≠ y) : Lit.int q x ≠ .int q y := fun e => by cases e; exact h rfl
theorem rep_empty : Rep E q (.map []) [] := ⟨.nil, by simp, fun _ => rfl, by simp, rfl⟩
theorem Rep.perm {es' : List (Int × α)} (h : Rep E q D es) (hp : es.Perm es') : Rep E q D es' :=
  ⟨(hp.pairwise_iff (fun h e => h e.symm)).1 h.nd, fun p hm => h.wf p (hp.mem_iff.2 hm), fun x => by rw [h.has, Bool.eq_iff_iff, List.any_eq_true, List.any_eq_true]; exact ⟨fun ⟨p, h1, h2⟩ => ⟨p, hp.mem_iff.1 h1, h2⟩, fun ⟨p, h1, h2⟩ => ⟨p, hp.mem_iff.2 h1, h2⟩⟩, fun p hm => h.at_ p (hp.mem_iff.2 hm), by rw [h.size, hp.length_eq]⟩
theorem cut_any (es : List (Int × α)) (x y : Int) : (cut es x).any (fun p => p.1 == y) = (es.any (fun p => p.1 == y) && (y != x)) := by
  rw [Bool.eq_iff_iff]
  simp only [cut, List.any_eq_true, List.mem_filter, Bool.and_eq_true, bne_iff_ne, beq_iff_eq]
  constructor
  · rintro ⟨p, ⟨h1, h2⟩, rfl⟩; exact ⟨⟨p, h1, rfl⟩, h2⟩
  · rintro ⟨⟨p, h1, rfl⟩, h2⟩; exact ⟨p, ⟨h1, h2⟩, rfl⟩
theorem cut_len : ∀ (es : List (Int × α)), es.Pairwise (fun p r => p.1 ≠ r.1) → ∀ x, (cut es x).length + (if es.any (fun p => p.1 == x) = true then 1 else 0) = es.length
  | [], _, _ => rfl
  | p :: es, h, x => by
    have ih := cut_len es (List.pairwise_cons.1 h).2 x
    have h1 := (List.pairwise_cons.1 h).1
    unfold cut at ih ⊢
    rw [List.filter_cons, List.any_cons]
    by_cases e : p.1 = x
    · have hn : es.any (fun p => p.1 == x) = false := by
        rw [List.any_eq_false]; intro r hr; have := h1 r hr; simp; omega
      rw [hn] at ih
      have e1 : (p.1 != x) = false := by simp [e]
      have e2 : (p.1 == x) = true := by simp [e]
      rw [e1, e2]
      simp at ih ⊢
      omega
    · have e1 : (p.1 != x) = true := by simp [e]
      have e2 : (p.1 == x) = false := by simp [e]
      rw [e1, e2]
      simp only [if_true, List.length_cons, Bool.false_or]
      omega
theorem cut_nd (h : es.Pairwise (fun p r => p.1 ≠ r.1)) (x : Int) : (cut es x).Pairwise (fun p r => p.1 ≠ r.1) := h.filter _
theorem Rep.put (hD : Maps.Tidy D) (h : Rep E q D es) (hw : (Lit.int q x).wf = true) (a : α) : Rep E q (D.put (.int q x) (E.dat a)) (put es x a) := by
  refine ⟨?_, fun p hp => ?_, fun y => ?_, fun p hp z => ?_, ?_⟩
  · refine List.pairwise_cons.2 ⟨fun p hp => ?_, cut_nd h.nd x⟩
    simp at hp; exact fun e => hp.2 e.symm
  · rcases List.mem_cons.1 hp with rfl | hp
    · exact hw
    · exact h.wf p (List.mem_filter.1 hp).1
  · unfold maps.put
    rw [List.any_cons]
    have := cut_any es x y
    unfold cut at this
    rw [this]
    by_cases e : y = x
    · subst e; rw [Maps.has_put_same (k := .int q y) hD.isMap trivial]; simp
    · rw [Maps.has_put_other (key_ne e), h.has]
      have : (x == y) = false := by rw [beq_eq_false_iff_ne]; omega
      simp [this, e]
  · rcases List.mem_cons.1 hp with rfl | hp
    · exact Maps.atKey_put_same (k := .int q x) hD.isMap trivial _ _
    · have hm := List.mem_filter.1 hp
      rw [Maps.atKey_put_other (key_ne (by simpa using hm.2))]
      exact h.at_ p hm.1 z
  · rw [Maps.size_put hD, h.has, h.size]
    have := cut_len es h.nd x
    unfold cut at this
    unfold maps.put
    rw [List.length_cons]
    split <;> rename_i hh
    · rw [if_pos hh] at this; omega
    · rw [if_neg hh] at this; omega
theorem Rep.del (hD : Maps.Tidy D) (h : Rep E q D es) (x : Int) : Rep E q (D.del (.int q x)) (cut es x) := by
  refine ⟨cut_nd h.nd x, fun p hp => h.wf p (List.mem_filter.1 hp).1, fun y => ?_, fun p hp z => ?_, ?_⟩
  · rw [cut_any]
    by_cases e : y = x
    · subst e; rw [Maps.has_del_same]; simp
    · rw [Maps.has_del_other (key_ne e), h.has]; simp [e]
  · have hm := List.mem_filter.1 hp
    rw [Maps.atKey_del_other (key_ne (by simpa using hm.2))]
    exact h.at_ p hm.1 z
  · have h1 := Maps.size_del (k := .int q x) hD
    have h2 := cut_len es h.nd x
    rw [h.has, h.size] at h1
    split at h1 <;> rename_i hh
    · rw [if_pos hh] at h2; omega
    · rw [if_neg hh] at h2; omega
end

/-- block b is a map of at most n entries with these pairs -/
def Mp {α : Type} (E : Elem α) (P : Program) (k : TypeId) (q : IntKind) (w : World) (b n : Nat) (es : List (Int × α)) : Prop := ∃ D, w.ownsMap P k E.rd b n D ∧ Rep E q D es
section
variable {α : Type} {E : Elem α} {P : Program} {k : TypeId} {q : IntKind} {w w' : World} {b n : Nat} {es : List (Int × α)} {F : Foot}
theorem Mp.made (w : World) : Mp E P k q (w.alloc (.map #[] 0)) w.heap.size 0 [] := ⟨_, World.ownsMap_made w P k E.rd, rep_empty⟩
theorem Mp.lt (h : Mp E P k q w b n es) : b < w.heap.size := by obtain ⟨D, h, _⟩ := h; exact h.lt
theorem Mp.chg (h : Mp E P k q w b n es) (hc : Chg F w w') (hn : ¬ F b) : Mp E P k q w' b n es := by
  obtain ⟨D, ⟨es0, cl, hb, h1⟩, h2⟩ := h
  exact ⟨D, ⟨es0, cl, (hc.block b (Array.getElem?_eq_some_iff.1 hb).1 hn).trans hb, h1⟩, h2⟩
theorem Mp.bel (h : Mp E P k q w b n es) (hb : Below w.heap.size w w') : Mp E P k q w' b n es := h.chg (F := fun _ => False) (Chg.of_below hb _) fun e => e
theorem Mp.perm {es' : List (Int × α)} (h : Mp E P k q w b n es) (hp : es.Perm es') : Mp E P k q w b n es' := by
  obtain ⟨D, h1, h2⟩ := h; exact ⟨D, h1, h2.perm hp⟩
theorem Mp.mono {n' : Nat} (h : Mp E P k q w b n es) (hn : n ≤ n') : Mp E P k q w b n' es := by
  obtain ⟨D, h1, h2⟩ := h; exact ⟨D, h1.mono hn, h2⟩
theorem Mp.len_le (h : Mp E P k q w b n es) : es.length ≤ n := by
  obtain ⟨D, h1, h2⟩ := h; rw [← h2.size]; exact h1.size_le
theorem Mp.nd (h : Mp E P k q w b n es) : es.Pairwise (fun p r => p.1 ≠ r.1) := by obtain ⟨D, _, h2⟩ := h; exact h2.nd
theorem Mp.tight (h : Mp E P k q w b n es) : Mp E P k q w b es.length es := by
  obtain ⟨D, ⟨es0, cl, hb, hF, hs, hD⟩, h2⟩ := h
  refine ⟨D, ⟨es0, cl, hb, hF, ?_, hD⟩, h2⟩
  rw [← h2.size, hD]
  simp [Maps.size, length_sorted]
/-- m[x] where x is there; where it is not -/
theorem Mp.look_hit {t e : TypeId} (h : Mp E P k q w b n es) (hk : P.underlying k = some (.int q)) (ht : P.underlying t = some (.map k e)) {z : α} (hz : (zeroValue e).run P w = .ok (E.mkv z) w) {x : Int} {a : α} (hm : (x, a) ∈ es) :
    (Instr.lookup t (.map (some b)) (.int q x) false).run P w = .ok (E.mkv a) w ∧ (Instr.lookup t (.map (some b)) (.int q x) true).run P w = .ok (.tuple #[E.mkv a, .bool true]) w := by
  obtain ⟨D, h1, h2⟩ := h
  have hkey := Maps.keyOf_int_mk hk (h2.wf _ hm)
  obtain ⟨v, ps, hr, hv⟩ := h1.lookup (Maps.int_keyed hk) ht hz (E.rd_mk z) hkey
  obtain ⟨v', ps', hr', hv'⟩ := h1.look_ok (Maps.int_keyed hk) ht hz (E.rd_mk z) hkey
  rw [h2.at_ _ hm] at hv hv'
  obtain ⟨a1, rfl, e1⟩ := E.inv hv
  obtain ⟨a2, rfl, e2⟩ := E.inv hv'
  obtain rfl := E.inj (congrArg Prod.fst e1)
  obtain rfl := E.inj (congrArg Prod.fst e2)
  have hh : Maps.has D (.int q x) = true := by rw [h2.has, List.any_eq_true]; exact ⟨_, hm, by simp⟩
  rw [hh] at hr'
  exact ⟨hr, hr'⟩
theorem Mp.look_miss {t e : TypeId} (h : Mp E P k q w b n es) (hk : P.underlying k = some (.int q)) (ht : P.underlying t = some (.map k e)) {z : α} (hz : (zeroValue e).run P w = .ok (E.mkv z) w) {x : Int} (hx : (Lit.int q x).wf = true) (hm : ∀ p ∈ es, p.1 ≠ x) :
    (Instr.lookup t (.map (some b)) (.int q x) false).run P w = .ok (E.mkv z) w ∧ (Instr.lookup t (.map (some b)) (.int q x) true).run P w = .ok (.tuple #[E.mkv z, .bool false]) w := by
  obtain ⟨D, h1, h2⟩ := h
  have hkey := Maps.keyOf_int_mk hk hx
  obtain ⟨v, ps, hr, hv⟩ := h1.lookup (Maps.int_keyed hk) ht hz (E.rd_mk z) hkey
  obtain ⟨v', ps', hr', hv'⟩ := h1.look_ok (Maps.int_keyed hk) ht hz (E.rd_mk z) hkey
  have hh : Maps.has D (.int q x) = false := by rw [h2.has, List.any_eq_false]; intro p hp; simpa using hm p hp
  rw [Maps.atKey_of_not_has hh] at hv hv'
  obtain ⟨a1, rfl, e1⟩ := E.inv hv
  obtain ⟨a2, rfl, e2⟩ := E.inv hv'
  obtain rfl := E.inj (congrArg Prod.fst e1)
  obtain rfl := E.inj (congrArg Prod.fst e2)
  rw [hh] at hr'
  exact ⟨hr, hr'⟩
theorem Mp.len {t e : TypeId} (h : Mp E P k q w b n es) (ht : P.underlying t = some (.map k e)) (ty : TypeId) : (Builtin.len_ #[t] ty #[.map (some b)]).run P w = .ok (.int .i64 (es.length : Int)) w := by
  obtain ⟨D, h1, h2⟩ := h
  have := h1.len ht ty
  rw [h2.size] at this
  exact this
/-- m[x] = a, at the operation -/
theorem wpList_put {ops : Array Oper} {rest : List Oper} {o : Oper} {a : Act} {Q : Exit → Act → World → Prop} (hg : o.guard = none) (m x v : Operand) (t : TypeId) (hop : o.op = Op.mapUpdate t m x v)
    (e : TypeId) (hk : P.underlying k = some (.int q)) (ht : P.underlying t = some (.map k e)) (b n : Nat) (es : List (Int × α)) (hm : a.eval m = .map (some b)) (h : Mp E P k q w b n es) (hn : n < maxLen) (y : Int) (u : α) (hy : (Lit.int q y).wf = true) (hx : a.eval x = .int q y) (hv : a.eval v = E.mkv u)
    (hK : ∀ w', Mp E P k q w' b (n + 1) (put es y u) → Chg (fun k => k = b) w w' → wpList P ops Q rest (a.put o.dst undef) w') : wpList P ops Q (o :: rest) a w := by
  obtain ⟨D, h1, h2⟩ := h
  refine wpList_mapUpdate_own w hg m x v t hop k e (Maps.int_keyed hk) ht E.rd b n D hm h1 hn _ _ _ hx hv (Maps.keyOf_int_mk hk hy) (E.dat u) [] (E.rd_mk u) fun w' g1 g2 => hK w' ⟨_, g1, h2.put (h1.tidy (Maps.int_keyed hk)) hy u⟩ (Chg.grown g2 fun g e => by cases e; rfl)
theorem wpList_drop {ops : Array Oper} {rest : List Oper} {o : Oper} {a : Act} {Q : Exit → Act → World → Prop} (hg : o.guard = none) (m x : Operand) (t : TypeId) (hop : o.op = Op.call { callee := Callee.builtin Builtin.delete, args := #[m, x], argTypes := #[t, k] })
    (e : TypeId) (hk : P.underlying k = some (.int q)) (ht : P.underlying t = some (.map k e)) (b n : Nat) (es : List (Int × α)) (hm : a.eval m = .map (some b)) (h : Mp E P k q w b n es) (y : Int) (hy : (Lit.int q y).wf = true) (hx : a.eval x = .int q y)
    (hK : ∀ w', Mp E P k q w' b n (cut es y) → Chg (fun k => k = b) w w' → wpList P ops Q rest (a.put o.dst (.tuple #[])) w') : wpList P ops Q (o :: rest) a w := by
  obtain ⟨D, h1, h2⟩ := h
  refine wpList_delete_own w hg m x t k hop e (Maps.int_keyed hk) ht E.rd b n D hm h1 _ _ hx (Maps.keyOf_int_mk hk hy) fun w' g1 g2 => hK w' ⟨_, g1, h2.del (h1.tidy (Maps.int_keyed hk)) y⟩ (Chg.grown g2.grown fun g e => by cases e; rfl)
end
end Go.Proofs.Ytafepficapdepaa.maps
