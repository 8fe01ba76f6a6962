/- Ranging over a map of the call's own whose keys are integers: what came, what is to come. Conditions as each lemma states. -/
import Derived.Test.YtafepficapdepaaMap
namespace Go.Proofs.Ytafepficapdepaa.maps
open Go.RowKit Go.Proofs.Ytafepficapdepaa.kit Go.Proofs.Ytafepficapdepaa.mem Go.Proofs.Ytafepficapdepaa.foot
open Go.Maps (Keyed)
set_option linter.unusedVariables false

/-- under way over map b by iterator r: these pairs have come, these are to come -/
def MpR {α : Type} (E : Elem α) (P : Program) (k : TypeId) (q : IntKind) (w : World) (b r n : Nat) (es done rem : List (Int × α)) : Prop :=
  ∃ D left cnt, w.ranges P k E.rd b r n D left cnt ∧ Rep E q D es ∧ es.Perm (done ++ rem) ∧ (∀ p ∈ rem, left (.int q p.1) = true) ∧ (∀ p ∈ done, left (.int q p.1) = false)
section
variable {α : Type} {E : Elem α} {P : Program} {k : TypeId} {q : IntKind} {w w' : World} {b r n : Nat} {es done rem : List (Int × α)} {F : Foot}
theorem MpR.mp (h : MpR E P k q w b r n es done rem) : Mp E P k q w b n es := by
  obtain ⟨D, left, cnt, h1, h2, _⟩ := h; exact ⟨D, h1.owns, h2⟩
theorem MpR.ne (h : MpR E P k q w b r n es done rem) : r ≠ b := by obtain ⟨D, left, cnt, h1, _⟩ := h; exact h1.ne
theorem MpR.lt (h : MpR E P k q w b r n es done rem) : r < w.heap.size := by obtain ⟨D, left, cnt, h1, _⟩ := h; exact h1.lt
theorem MpR.chg (h : MpR E P k q w b r n es done rem) (hc : Chg F w w') (hb : ¬ F b) (hr : ¬ F r) : MpR E P k q w' b r n es done rem := by
  obtain ⟨D, left, cnt, h1, h2⟩ := h
  have hbl := h1.owns.lt
  have hrl := h1.lt
  obtain ⟨es0, clock, since, seen, c0, g1, g2, g3, g4, g5, g6⟩ := h1
  exact ⟨D, left, cnt, ⟨es0, clock, since, seen, c0, (hc.block b hbl hb).trans g1, g2, g3, g4, (hc.block r hrl hr).trans g5, g6⟩, h2⟩
theorem MpR.left_same (h : MpR E P k q w b r n es done rem) (hc : Chg F w w') (hb : ¬ F b) (hr : ¬ F r) : w'.rangeLeft b r = w.rangeLeft b r := by
  unfold World.rangeLeft
  rw [hc.block b h.mp.lt hb, hc.block r h.lt hr]
theorem int_same {x y : Int} : (Lit.int q x).sameKey (.int q y) = decide (x = y) := by simp [Lit.sameKey]

variable {ops : Array Oper} {rest : List Oper} {o : Oper} {a : Act} {Q : Exit → Act → World → Prop}
theorem wpList_range_mp (hg : o.guard = none) (m : Operand) (t : TypeId) (hop : o.op = Op.range t m) (e : TypeId) (hk : P.underlying k = some (.int q)) (ht : P.underlying t = some (.map k e)) (hm : a.eval m = .map (some b)) (h : Mp E P k q w b n es)
    (hK : ∀ w', MpR E P k q w' b w.heap.size n es [] es → Below w.heap.size w w' → wpList P ops Q rest (a.put o.dst (.pointer (some ⟨w.heap.size, 0, none⟩))) w') : wpList P ops Q (o :: rest) a w := by
  obtain ⟨D, h1, h2⟩ := h
  refine wpList_range_own w hg m t hop k e (Maps.int_keyed hk) ht E.rd b n D hm h1 fun w' g1 g2 g3 => hK w' ⟨D, _, _, g1, h2, by simp, fun p hp => ?_, by simp⟩ ⟨g2.os, g2.tape, g2.output, g2.size, fun i hi => g2.block i hi (by simp)⟩
  rw [h2.has, List.any_eq_true]; exact ⟨p, hp, by simp⟩
theorem wpList_next_mp (hg : o.guard = none) (it : Operand) (hop : o.op = Op.next it false) (hk : P.underlying k = some (.int q)) (hit : a.eval it = .pointer (some ⟨r, 0, none⟩)) (h : MpR E P k q w b r n es done rem)
    (hDone : rem = [] → wpList P ops Q rest (a.put o.dst (.tuple #[.bool false])) w)
    (hMore : ∀ (p : Int × α) (r1 r2 : List (Int × α)) (w' : World), rem = r1 ++ p :: r2 → MpR E P k q w' b r n es (done ++ [p]) (r1 ++ r2) → w'.rangeLeft b r < w.rangeLeft b r → Chg (fun j => j = r) w w' →
      (Instr.entry (.pointer (some ⟨r, 0, none⟩))).run P w' = .ok (.tuple #[.int q p.1, E.mkv p.2]) w' → wpList P ops Q rest (a.put o.dst (.tuple #[.bool true, .int q p.1, E.mkv p.2])) w') : wpList P ops Q (o :: rest) a w := by
  obtain ⟨D, left, cnt, h1, h2, h3, h4, h5⟩ := h
  refine wpList_next_ranges w hg it hop k (Maps.int_keyed hk) E.rd (Value.int q) E.mkv (fun key kl hkey => by obtain ⟨x, rfl, _⟩ := Maps.keyOf_int_inv hk hkey; exact ⟨x, rfl⟩) (fun v y hv => by obtain ⟨c, rfl, _⟩ := E.inv hv; exact ⟨c, rfl⟩) b r n D left cnt hit h1 (fun h0 hl => hDone (List.eq_nil_iff_forall_not_mem.2 fun p hp => by have := h4 p hp; rw [hl] at this; cases this)) ?_
  intro x c kl y w' cnt' hkey hlk hv hat hrg hlt hgr hsz hen
  obtain ⟨x', ex, rfl, hwx⟩ := Maps.keyOf_int_inv hk hkey
  cases ex
  obtain ⟨c', ec, rfl⟩ := E.inv hv
  have hc : E.dat c = E.dat c' := by
    have := E.rd_mk c
    rw [hv] at this
    injection this with this
    exact (congrArg Prod.fst this).symm
  have hh : Maps.has D (.int q x) = true := Maps.has_true_of_atKey hat
  rw [h2.has, List.any_eq_true] at hh
  obtain ⟨p, hp, hpx⟩ := hh
  simp at hpx
  subst hpx
  have hpc : p.2 = c := by
    have e1 := h2.at_ p hp (E.dat c)
    rw [hat] at e1
    exact (E.inj (hc.trans e1)).symm
  have hrem : p ∈ rem := by
    have := h3.mem_iff.1 hp
    rcases List.mem_append.1 this with h | h
    · rw [h5 p h] at hlk; cases hlk
    · exact h
  obtain ⟨r1, r2, hr12⟩ := List.append_of_mem hrem
  have hnd : (done ++ rem).Pairwise (fun p r => p.1 ≠ r.1) := (h3.pairwise_iff (fun h e => h e.symm)).1 h2.nd
  have hother : ∀ s ∈ r1 ++ r2, s.1 ≠ p.1 := by
    intro s hs
    have h7 := (List.pairwise_append.1 hnd).2.1
    rw [hr12] at h7
    have h8 := List.pairwise_append.1 h7
    rcases List.mem_append.1 hs with h | h
    · exact h8.2.2 s h p (by simp)
    · exact fun e => (List.pairwise_cons.1 h8.2.1).1 s h e.symm
  subst hpc
  refine hMore p r1 r2 w' hr12 ⟨D, _, cnt', hrg, h2, ?_, fun s hs => ?_, fun s hs => ?_⟩ (by rw [hrg.left_eq, h1.left_eq]; exact hlt) (Chg.grown hgr fun g e => by cases e; rfl) hen
  · rw [hr12] at h3
    refine h3.trans ?_
    rw [List.append_assoc]
    refine List.Perm.append_left _ ?_
    rw [List.singleton_append]
    exact List.perm_middle
  · have h7 := h4 s (by rw [hr12]; rcases List.mem_append.1 hs with h | h <;> simp [h])
    rw [h7, int_same]
    simp [hother s hs]
  · rcases List.mem_append.1 hs with h | h
    · rw [h5 s h]; rfl
    · simp at h; subst h; rw [int_same]; simp
end
end Go.Proofs.Ytafepficapdepaa.maps
