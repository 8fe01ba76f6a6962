/- A region that draws its order, walked in one order: what yields its value in every world that meets S is taken first, the others come up one by one; S is shown behind each of these as long as not all operations of A have come up. The order is checked once, by evaluation. No condition. -/
import Derived.Deep.RegionHeld3
namespace Go.Proofs.YtbljhjfaimnieaaGreat.mv
open Go
set_option linter.unusedVariables false
/-- a move: number i taken (its value is the same in every world that meets S); carried out (none but it may come up), S shown behind it; carried out behind all of A -/
inductive Mv
  | p (i : Nat)
  | c (i : Nat)
  | d (i : Nat)
def allA (A : List Nat) (listed : Array Bool) : Bool := A.all fun i => listed.getD i false
/-- number j comes up behind number i -/
def back (md : Region.Mode) (ops : Array Oper) : Nat → Nat → Nat → Bool
  | 0, _, _ => false
  | n + 1, j, i => match ops[j]? with | some oj => oj.after.any fun e => Region.binds md e && (e.on == i || back md ops n e.on i) | none => false
def waits (md : Region.Mode) (ops : Array Oper) (A : List Nat) : Bool :=
  (List.range ops.size).all fun j => A.contains j || A.all fun i => back md ops 3 j i
def okMv (md : Region.Mode) (ops : Array Oper) (A : List Nat) : Array Bool → List Mv → Bool
  | listed, [] => (Region.ready md ops listed).isEmpty
  | listed, .p i :: r => Region.free md ops listed i && (Region.ready md ops listed).contains i && A.contains i && okMv md ops A (listed.setIfInBounds i true) r
  | listed, .c i :: r => (Region.ready md ops listed == [i]) && okMv md ops A (listed.setIfInBounds i true) r
  | listed, .d i :: r => (Region.ready md ops listed == [i]) && allA A listed && okMv md ops A (listed.setIfInBounds i true) r
section
variable {P : Program} {ops : Array Oper} {Q : Exit → Act → World → Prop} {md : Region.Mode} {S : World → Prop} {A : List Nat}
/-- whatever order is picked from here on, and S holds behind each operation till all of A have come up -/
def wpAnyT (P : Program) (md : Region.Mode) (ops : Array Oper) (Q : Exit → Act → World → Prop) (S : World → Prop) (A : List Nat) : Nat → Array Bool → Act → World → Prop
  | 0, listed, a, w => Region.ready md ops listed = [] ∧ Q .normal a w
  | fuel + 1, listed, a, w =>
    (Region.ready md ops listed = [] → Q .normal a w) ∧
    ∀ i ∈ Region.ready md ops listed, wpOp P ops Q i (fun a' w' => (allA A listed = true ∨ S w') ∧ wpAnyT P md ops Q S A fuel (listed.setIfInBounds i true) a' w') a w
theorem wpAny_of_T : ∀ (fuel : Nat) (listed : Array Bool) (a : Act) (w : World), wpAnyT P md ops Q S A fuel listed a w → wpAny P md ops Q fuel listed a w
  | 0, _, _, _, h => h
  | fuel + 1, _, _, _, h => ⟨h.1, fun i hi => wpOp_mono (fun a' w' h' => wpAny_of_T fuel _ a' w' h'.2) (h.2 i hi)⟩
theorem not_allA {i : Nat} {listed : Array Bool} (hi : i ∈ A) (h : listed.getD i true = false) : allA A listed = false := by
  rw [← Bool.not_eq_true]
  intro hc
  have := List.all_eq_true.1 hc i hi
  rcases Nat.lt_or_ge i listed.size with h' | h'
  · simp [h'] at h this
    rw [h] at this
    cases this
  · simp [Array.getElem?_eq_none h'] at h
theorem getD_far {j k : Nat} {listed : Array Bool} {b : Bool} (h : j ≠ k) : (listed.setIfInBounds j true).getD k b = listed.getD k b := by
  simp [Array.getD_eq_getD_getElem?, h]
/-- what has come up has come up behind all that it waits for -/
def Closed (md : Region.Mode) (ops : Array Oper) (listed : Array Bool) : Prop := ∀ j oj, ops[j]? = some oj → listed.getD j false = true → ∀ e ∈ oj.after, Region.binds md e = true → listed.getD e.on false = true
theorem Closed.start (n : Nat) : Closed md ops (Array.replicate n false) := fun j oj _ h => by
  rw [Array.getD_eq_getD_getElem?, Array.getElem?_replicate] at h
  split at h <;> cases h
theorem getD_set {i : Nat} {listed : Array Bool} {k : Nat} (h : listed.getD k false = true) : (listed.setIfInBounds i true).getD k false = true := by
  by_cases hik : i = k
  · subst hik
    rcases Nat.lt_or_ge i listed.size with h' | h'
    · simp [h']
    · simp [Array.getElem?_eq_none h'] at h
  · rw [getD_far hik]; exact h
theorem Closed.next {i : Nat} {listed : Array Bool} (h : Closed md ops listed) (hr : i ∈ Region.ready md ops listed) : Closed md ops (listed.setIfInBounds i true) := fun j oj hj hl e he hb => by
  by_cases hij : i = j
  · subst hij
    obtain ⟨_, o, ho, hall⟩ := mem_ready.1 hr
    rw [ho] at hj
    obtain rfl := Option.some.inj hj
    exact getD_set (hall e he hb)
  · rw [getD_far hij] at hl
    exact getD_set (h j oj hj hl e he hb)
theorem back_edge {n j i : Nat} (h : back md ops (n + 1) j i = true) : ∃ oj, ops[j]? = some oj ∧ ∃ e ∈ oj.after, Region.binds md e = true ∧ (e.on = i ∨ back md ops n e.on i = true) := by
  unfold back at h
  split at h
  · rename_i oj ho
    rw [Array.any_eq_true] at h
    obtain ⟨k, hk, h3⟩ := h
    simp only [Bool.and_eq_true, Bool.or_eq_true, beq_iff_eq] at h3
    exact ⟨oj, ho, oj.after[k], Array.getElem_mem hk, h3.1, h3.2⟩
  · cases h
theorem back_listed {i : Nat} {listed : Array Bool} (hc : Closed md ops listed) : ∀ (n j : Nat), back md ops n j i = true → listed.getD j false = true → listed.getD i false = true
  | 0, j, h, _ => by cases h
  | n + 1, j, h, hl => by
    obtain ⟨oj, ho, e, he, hb, h1⟩ := back_edge h
    have h2 := hc j oj ho hl e he hb
    rcases h1 with h1 | h1
    · rw [← h1]; exact h2
    · exact back_listed hc n e.on h1 h2
theorem back_ready {n j i : Nat} {listed : Array Bool} (hc : Closed md ops listed) (hr : j ∈ Region.ready md ops listed) (h : back md ops n j i = true) : listed.getD i false = true := by
  rcases n with _ | n
  · cases h
  obtain ⟨oj, ho, e, he, hb, h1⟩ := back_edge h
  obtain ⟨_, o, ho', hall⟩ := mem_ready.1 hr
  rw [ho] at ho'
  obtain rfl := Option.some.inj ho'
  have h2 := hall e he hb
  rcases h1 with h1 | h1
  · rw [← h1]; exact h2
  · exact back_listed hc n e.on h1 h2
theorem waits_spec (hw : waits md ops A = true) {j : Nat} {listed : Array Bool} (hc : Closed md ops listed) (hj : j ∈ Region.ready md ops listed) (hA : j ∉ A) {i : Nat} (hi : i ∈ A) : listed.getD i false = true := by
  obtain ⟨_, oj, ho, _⟩ := mem_ready.1 hj
  have hlt : j < ops.size := by
    rcases Nat.lt_or_ge j ops.size with h | h
    · exact h
    · rw [Array.getElem?_eq_none h] at ho; cases ho
  have h1 := List.all_eq_true.1 hw j (List.mem_range.2 hlt)
  simp only [Bool.or_eq_true, List.contains_iff_mem] at h1
  rcases h1 with h1 | h1
  · exact absurd h1 hA
  · exact back_ready hc hj (List.all_eq_true.1 h1 i hi)
theorem wpAnyT_first {i : Nat} {oi : Oper} {v : Value} (hi : ops[i]? = some oi) (hsel : ∀ (j : Nat) (o : Oper) cs b, ops[j]? = some o → o.op ≠ .select cs b)
    (hQ : ∀ c a w, Q (.panic c) (a.put oi.dst v) w → Q (.panic c) a w) (hA : i ∈ A) (hwt : waits md ops A = true) :
    ∀ (fuel : Nat) (listed : Array Bool) (a : Act) (w : World),
      (∀ j oj, ops[j]? = some oj → j ≠ i → listed.getD j true = false → (∀ e ∈ oj.after, Region.binds md e = true → e.on ≠ i) → oi.apart ops oj = true) →
      Closed md ops listed → i ∈ Region.ready md ops listed → YieldsIf P ops S oi v a → S w →
      wpAnyT P md ops Q S A fuel (listed.setIfInBounds i true) (a.put oi.dst v) w → wpAnyT P md ops Q S A (fuel + 1) listed a w := by
  intro fuel
  induction fuel with
  | zero =>
    intro listed a w _ hc hr hy hS H
    refine ⟨fun h => (by rw [h] at hr; cases hr), fun j hj => ?_⟩
    by_cases hji : j = i
    · subst hji; exact hy.wpOp hi hS ⟨.inr hS, H⟩
    · have := ready_mono hj hji
      rw [H.1] at this
      cases this
  | succ fuel ih =>
    intro listed a w hfree hc hr hy hS H
    refine ⟨fun h => (by rw [h] at hr; cases hr), fun j hj => ?_⟩
    by_cases hji : j = i
    · subst hji; exact hy.wpOp hi hS ⟨.inr hS, H⟩
    · have h1 := H.2 j (ready_mono hj hji)
      obtain ⟨hjun, oj, hoj, hall⟩ := mem_ready.1 hj
      have hnot : ∀ e ∈ oj.after, Region.binds md e = true → e.on ≠ i := fun e he hb heq => by
        have h1 := hall e he hb
        have h0 := (mem_ready.1 hr).1
        rw [heq] at h1
        rcases Nat.lt_or_ge i listed.size with h' | h'
        · simp [h'] at h0 h1; rw [h0] at h1; cases h1
        · simp [Array.getElem?_eq_none h'] at h1
      have hjA : j ∈ A := by
        by_cases h : j ∈ A
        · exact h
        · have h1 := waits_spec hwt hc hj h hA
          have h0 := (mem_ready.1 hr).1
          rcases Nat.lt_or_ge i listed.size with h' | h'
          · simp [h'] at h0 h1; rw [h0] at h1; cases h1
          · simp [Array.getElem?_eq_none h'] at h1
      have hT : allA A (listed.setIfInBounds i true) = false := not_allA hjA (by rw [getD_far (Ne.symm hji)]; exact hjun)
      have h2 := wpOp_putIf hoj (hfree j oj hoj hji hjun hnot) (fun cs b => hsel i oi cs b hi) (fun cs b => hsel j oj cs b hoj) hQ hy h1
      have hfree' : ∀ k ok, ops[k]? = some ok → k ≠ i → (listed.setIfInBounds j true).getD k true = false →
          (∀ e ∈ ok.after, Region.binds md e = true → e.on ≠ i) → oi.apart ops ok = true := fun k ok hk hki hun hno => by
        refine hfree k ok hk hki ?_ hno
        by_cases hjk : j = k
        · subst hjk; exact hjun
        · rw [getD_far hjk] at hun; exact hun
      refine wpOp_mono (fun a' w' h3 => ?_) h2
      have hS' : S w' := by
        rcases h3.2.1 with h | h
        · rw [hT] at h; cases h
        · exact h
      refine ⟨.inr hS', ih (listed.setIfInBounds j true) a' w' hfree' (hc.next hj) (ready_mono hr (Ne.symm hji)) h3.1 hS' ?_⟩
      rw [Array.setIfInBounds_comm _ _ hji]
      exact h3.2.2
def wpMv (P : Program) (ops : Array Oper) (Q : Exit → Act → World → Prop) (S : World → Prop) : List Mv → Act → World → Prop
  | [], a, w => Q .normal a w
  | .p i :: r, a, w => ∃ oi v, ops[i]? = some oi ∧ YieldsIf P ops S oi v a ∧ wpMv P ops Q S r (a.put oi.dst v) w
  | .c i :: r, a, w => wpOp P ops Q i (fun a' w' => S w' ∧ wpMv P ops Q S r a' w') a w
  | .d i :: r, a, w => wpOp P ops Q i (fun a' w' => wpMv P ops Q S r a' w') a w
theorem wpAnyT_mv (hs : Region.noSelect ops = true) (hwt : waits md ops A = true) (hQ : ∀ c a w, ¬ Q (.panic c) a w) :
    ∀ (r : List Mv) (fuel : Nat) (listed : Array Bool) (a : Act) (w : World), Closed md ops listed → okMv md ops A listed r = true → r.length ≤ fuel → (allA A listed = true ∨ S w) → wpMv P ops Q S r a w → wpAnyT P md ops Q S A fuel listed a w
  | [], fuel, listed, a, w, hc, hk, hf, hS, h => by
    have hr : Region.ready md ops listed = [] := by simpa [okMv] using hk
    cases fuel with
    | zero => exact ⟨hr, h⟩
    | succ fuel => exact ⟨fun _ => h, fun i hi => by rw [hr] at hi; cases hi⟩
  | .p i :: r, fuel, listed, a, w, hc, hk, hf, hS, h => by
    obtain ⟨oi, v, ho, hy, h⟩ := h
    simp only [okMv, Bool.and_eq_true] at hk
    obtain ⟨⟨⟨h1, h2⟩, hA⟩, h3⟩ := hk
    have hr : i ∈ Region.ready md ops listed := by simpa using h2
    have hA' : i ∈ A := by simpa using hA
    have hS' : S w := by
      rcases hS with h | h
      · rw [not_allA hA' (mem_ready.1 hr).1] at h; cases h
      · exact h
    rcases fuel with _ | fuel
    · simp at hf
    · exact wpAnyT_first ho (Region.noSelect_spec hs) (fun c a w h => absurd h (hQ c _ w)) hA' hwt fuel listed a w (Region.free_spec ho h1) hc hr hy hS' (wpAnyT_mv hs hwt hQ r fuel _ _ w (hc.next hr) h3 (by simpa using hf) (.inr hS') h)
  | .c i :: r, fuel, listed, a, w, hc, hk, hf, hS, h => by
    simp only [okMv, Bool.and_eq_true] at hk
    obtain ⟨h1, h3⟩ := hk
    have h1 : Region.ready md ops listed = [i] := by simpa using h1
    rcases fuel with _ | fuel
    · simp at hf
    · refine ⟨fun h0 => absurd (h1 ▸ h0) (by simp), fun j hj => ?_⟩
      rw [h1] at hj
      obtain rfl : j = i := by simpa using hj
      exact wpOp_mono (fun a' w' h' => ⟨.inr h'.1, wpAnyT_mv hs hwt hQ r fuel _ a' w' (hc.next (by rw [h1]; simp)) h3 (by simpa using hf) (.inr h'.1) h'.2⟩) h
  | .d i :: r, fuel, listed, a, w, hc, hk, hf, hS, h => by
    simp only [okMv, Bool.and_eq_true] at hk
    obtain ⟨⟨h1, hT⟩, h3⟩ := hk
    have h1 : Region.ready md ops listed = [i] := by simpa using h1
    have hT' : allA A (listed.setIfInBounds i true) = true := by
      refine List.all_eq_true.2 fun k hk => ?_
      have h4 := List.all_eq_true.1 hT k hk
      by_cases hik : i = k
      · subst hik
        rcases Nat.lt_or_ge i listed.size with h' | h'
        · simp [h']
        · simp [Array.getElem?_eq_none h'] at h4
      · rw [getD_far hik]; exact h4
    rcases fuel with _ | fuel
    · simp at hf
    · refine ⟨fun h0 => absurd (h1 ▸ h0) (by simp), fun j hj => ?_⟩
      rw [h1] at hj
      obtain rfl : j = i := by simpa using hj
      exact wpOp_mono (fun a' w' h' => ⟨.inl hT, wpAnyT_mv hs hwt hQ r fuel _ a' w' (hc.next (by rw [h1]; simp)) h3 (by simpa using hf) (.inl hT') h'⟩) h
/-- the beginning -/
theorem region_mv (S : World → Prop) (A : List Nat) (sq : List Mv) {id : Nat} {a : Act} {w : World} (hm : P.follows .mixedOrders = true) (hs : (Region.noSelect ops && waits .any ops A && okMv .any ops A (Array.replicate ops.size false) sq && decide (sq.length ≤ ops.size)) = true) (hS : S w.drew)
    (h : S w.drew → wpMv P ops (NoPanic Q) S sq a w.drew) : (Code.region id ops true).wp P Q a w := by
  simp only [Bool.and_eq_true, decide_eq_true_eq] at hs
  exact wp_region_noPanic (wp_region_any hm (wpAny_of_T _ _ _ _ (wpAnyT_mv hs.1.1.1 hs.1.1.2 (fun _ _ _ h => h) sq _ _ a _ (Closed.start _) hs.1.2 hs.2 (.inr hS) (h hS))))
/-- (apply with_reducible: it fails at once where the next move is carried out) -/
theorem mv_at {i : Nat} {r : List Mv} {a : Act} {w : World} (h : ∃ oi v, ops[i]? = some oi ∧ YieldsIf P ops S oi v a ∧ wpMv P ops Q S r (a.put oi.dst v) w) : wpMv P ops Q S (.p i :: r) a w := h
theorem mv_c {i : Nat} {r : List Mv} {a : Act} {w : World} {o : Oper} (ho : ops[i]? = some o)
    (h : ∀ K' : Act → World → Prop, Shut (∀ a w, S w → (S w → wpMv P ops Q S r a w) → K' a w) → if Region.wanted o (yielded ops a.tmps) = true then Oper.wp P o a w K' Q else K' (a.put o.dst undef) w) : wpMv P ops Q S (.c i :: r) a w :=
  wpOp_step ho fun K' hK => h K' fun a w hS hW => hK a w ⟨hS, hW hS⟩
theorem mv_d {i : Nat} {r : List Mv} {a : Act} {w : World} {o : Oper} (ho : ops[i]? = some o)
    (h : ∀ K' : Act → World → Prop, Shut (∀ a w, wpMv P ops Q S r a w → K' a w) → if Region.wanted o (yielded ops a.tmps) = true then Oper.wp P o a w K' Q else K' (a.put o.dst undef) w) : wpMv P ops Q S (.d i :: r) a w :=
  wpOp_step ho fun K' hK => h K' fun a w hW => hK a w hW
theorem mv_end {a : Act} {w : World} (h : Q .normal a w) : wpMv P ops (NoPanic Q) S [] a w := NoPanic.normal h
end
end Go.Proofs.YtbljhjfaimnieaaGreat.mv
