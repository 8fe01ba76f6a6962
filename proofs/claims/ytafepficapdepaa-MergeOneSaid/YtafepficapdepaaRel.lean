/- Readers: what the cells of a value say, for numbers, bits, strings, slices of anything, and one behind the other; arguments opened by them. No condition beyond those that each lemma states. -/
import Derived.Test.YtafepficapdepaaFoot
import Derived.Deep.Slices
namespace Go.Proofs.Ytafepficapdepaa.foot
open Go.RowKit Go.Joins Go.ChangeShapes Go.WideShapes Go.ChangeAt Go.Proofs.Ytafepficapdepaa.kit Go.Proofs.Ytafepficapdepaa.mem
set_option linter.unusedVariables false

/-- in this world, with memory in these blocks, these cells say this -/
abbrev Rel (α : Type) := World → Foot → List Value → α → Prop
/-- n cells, one value each, that stay what they are while their blocks do -/
structure Keeps {α : Type} (n : Nat) (R : Rel α) : Prop where
  len : ∀ {w G cs a}, R w G cs a → cs.length = n
  one : ∀ {w G cs a}, R w G cs a → ∀ u ∈ cs, u.oneCell' = true
  chg : ∀ {F w w' G cs a}, R w G cs a → Chg F w w' → (∀ k, k < w.heap.size → G k → ¬ F k) → R w' G cs a
  mono : ∀ {w G H cs a}, R w G cs a → (∀ k, k < w.heap.size → G k → H k) → R w H cs a

def rInt (k : IntKind) : Rel Int := fun _ _ cs a => cs = [.int k a] ∧ (Lit.int k a).wf = true
def rBool : Rel Bool := fun _ _ cs a => cs = [.bool a]
def rStr : Rel ByteArray := fun _ _ cs a => cs = [.string a] ∧ a.size ≤ maxLen
def rPair {α β : Type} (R : Rel α) (S : Rel β) : Rel (α × β) := fun w G cs p => ∃ c1 c2, cs = c1 ++ c2 ∧ R w G c1 p.1 ∧ S w G c2 p.2
/-- elements of n cells each -/
def rAll {α : Type} (R : Rel α) (w : World) (G : Foot) : List Value → List α → Prop
  | vs, [] => vs = []
  | vs, x :: l => ∃ h t, vs = h ++ t ∧ R w G h x ∧ rAll R w G t l
/-- a slice's elements in memory -/
def Els {α : Type} (n : Nat) (R : Rel α) (w : World) (G : Foot) (A : Option Addr) (l : List α) : Prop := ∃ vs, Rg w G n A l.length vs ∧ rAll R w G vs l
def rSl {α : Type} (n : Nat) (R : Rel α) : Rel (List α) := fun w G cs l => ∃ A c, cs = [.slice A l.length c] ∧ (A = none → c = 0) ∧ l.length ≤ c ∧ c ≤ maxLen ∧ Els n R w G A l

theorem keeps_int (k : IntKind) : Keeps 1 (rInt k) :=
  ⟨fun h => by rw [h.1]; rfl, fun h u hu => by rw [h.1] at hu; simp at hu; rw [hu]; rfl, fun h _ _ => h, fun h _ => h⟩
theorem keeps_bool : Keeps 1 rBool :=
  ⟨fun h => by rw [h]; rfl, fun h u hu => by rw [h] at hu; simp at hu; rw [hu]; rfl, fun h _ _ => h, fun h _ => h⟩
theorem keeps_str : Keeps 1 rStr :=
  ⟨fun h => by rw [h.1]; rfl, fun h u hu => by rw [h.1] at hu; simp at hu; rw [hu]; rfl, fun h _ _ => h, fun h _ => h⟩
theorem keeps_pair {α β : Type} {R : Rel α} {S : Rel β} {n m : Nat} (hR : Keeps n R) (hS : Keeps m S) : Keeps (n + m) (rPair R S) := by
  refine ⟨fun h => ?_, fun h u hu => ?_, fun h hc hd => ?_, fun h hG => ?_⟩
  all_goals obtain ⟨c1, c2, rfl, h1, h2⟩ := h
  · rw [List.length_append, hR.len h1, hS.len h2]
  · rcases List.mem_append.1 hu with e | e
    · exact hR.one h1 u e
    · exact hS.one h2 u e
  · exact ⟨c1, c2, rfl, hR.chg h1 hc hd, hS.chg h2 hc hd⟩
  · exact ⟨c1, c2, rfl, hR.mono h1 hG, hS.mono h2 hG⟩

section
variable {α : Type} {R : Rel α} {n : Nat} {w w' : World} {F G H : Foot}
theorem rAll.chg (hR : Keeps n R) (hc : Chg F w w') (hd : ∀ k, k < w.heap.size → G k → ¬ F k) : ∀ {l : List α} {vs : List Value}, rAll R w G vs l → rAll R w' G vs l
  | [], _, h => h
  | _ :: l, _, ⟨a, t, e, h1, h2⟩ => ⟨a, t, e, hR.chg h1 hc hd, rAll.chg hR hc hd h2⟩
theorem rAll.mono (hR : Keeps n R) (hG : ∀ k, k < w.heap.size → G k → H k) : ∀ {l : List α} {vs : List Value}, rAll R w G vs l → rAll R w H vs l
  | [], _, h => h
  | _ :: l, _, ⟨a, t, e, h1, h2⟩ => ⟨a, t, e, hR.mono h1 hG, rAll.mono hR hG h2⟩
theorem rAll.len (hR : Keeps n R) : ∀ {l : List α} {vs : List Value}, rAll R w G vs l → vs.length = l.length * n
  | [], _, h => by rw [show _ = [] from h]; simp
  | _ :: l, _, ⟨a, t, e, h1, h2⟩ => by rw [e, List.length_append, hR.len h1, rAll.len hR h2, List.length_cons, Nat.succ_mul]; omega
theorem rAll.one (hR : Keeps n R) : ∀ {l : List α} {vs : List Value}, rAll R w G vs l → ∀ u ∈ vs, u.oneCell' = true
  | [], _, h, u, hu => by rw [show _ = [] from h] at hu; cases hu
  | _ :: l, _, ⟨a, t, e, h1, h2⟩, u, hu => by
    rw [e] at hu
    rcases List.mem_append.1 hu with e | e
    · exact hR.one h1 u e
    · exact rAll.one hR h2 u e
theorem rAll.app : ∀ {l l' : List α} {vs vs' : List Value}, rAll R w G vs l → rAll R w G vs' l' → rAll R w G (vs ++ vs') (l ++ l')
  | [], _, _, _, h, h' => by rw [show _ = [] from h]; exact h'
  | _ :: l, _, _, _, ⟨a, t, e, h1, h2⟩, h' => ⟨a, t ++ _, by rw [e, List.append_assoc], h1, rAll.app h2 h'⟩
theorem rAll.single {cs : List Value} {x : α} (h : R w G cs x) : rAll R w G cs [x] := ⟨cs, [], by simp, h, rfl⟩
theorem rAll.drop (hR : Keeps n R) : ∀ {l : List α} {vs : List Value} (k : Nat), rAll R w G vs l → rAll R w G (vs.drop (k * n)) (l.drop k)
  | _, _, 0, h => by simpa using h
  | [], _, k + 1, h => by rw [show _ = [] from h]; simp [rAll]
  | x :: l, _, k + 1, ⟨a, t, e, h1, h2⟩ => by
    have := rAll.drop hR k h2
    rw [e, show (k + 1) * n = a.length + k * n from by rw [hR.len h1, Nat.succ_mul]; omega, ← List.drop_drop, List.drop_left, List.drop_succ_cons]
    exact this
theorem rAll.take (hR : Keeps n R) : ∀ {l : List α} {vs : List Value} (k : Nat), rAll R w G vs l → rAll R w G (vs.take (k * n)) (l.take k)
  | _, _, 0, h => by simp [rAll]
  | [], _, k + 1, h => by rw [show _ = [] from h]; simp [rAll]
  | x :: l, _, k + 1, ⟨a, t, e, h1, h2⟩ => by
    have := rAll.take hR k h2
    refine ⟨a, t.take (k * n), ?_, h1, this⟩
    rw [e, show (k + 1) * n = a.length + k * n from by rw [hR.len h1, Nat.succ_mul]; omega, List.take_length_add_append]
/-- the k-th element's cells -/
theorem rAll.at_ (hR : Keeps n R) : ∀ {l : List α} {vs : List Value}, rAll R w G vs l → ∀ {k : Nat} (hk : k < l.length), ∃ cs, R w G cs l[k] ∧ ∀ j, j < n → vs[k * n + j]? = cs[j]?
  | x :: l, _, ⟨a, t, e, h1, h2⟩, 0, hk => ⟨a, h1, fun j hj => by rw [e]; simp; rw [List.getElem?_append_left (by rw [hR.len h1]; exact hj)]⟩
  | x :: l, _, ⟨a, t, e, h1, h2⟩, k + 1, hk => by
    obtain ⟨cs, hc, hx⟩ := rAll.at_ hR h2 (k := k) (by simpa using hk)
    refine ⟨cs, by simpa using hc, fun j hj => ?_⟩
    rw [e, List.getElem?_append_right (by rw [hR.len h1, Nat.succ_mul]; omega), hR.len h1, ← hx j hj]
    congr 1
    rw [Nat.succ_mul]; omega
theorem Els.chg {A : Option Addr} {l : List α} (hR : Keeps n R) (h : Els n R w G A l) (hc : Chg F w w') (hd : ∀ k, k < w.heap.size → G k → ¬ F k) : Els n R w' G A l := by
  obtain ⟨vs, h1, h2⟩ := h
  exact ⟨vs, h1.chg hc hd, h2.chg hR hc hd⟩
theorem Els.mono {A : Option Addr} {l : List α} (hR : Keeps n R) (h : Els n R w G A l) (hG : ∀ k, k < w.heap.size → G k → H k) : Els n R w H A l := by
  obtain ⟨vs, h1, h2⟩ := h
  exact ⟨vs, h1.mono hG, h2.mono hR hG⟩
theorem Els.bel {A : Option Addr} {l : List α} (hR : Keeps n R) (h : Els n R w G A l) (hb : Below w.heap.size w w') : Els n R w' G A l := h.chg hR (F := fun _ => False) (Chg.of_below hb _) (fun _ _ _ e => e)
theorem Els.nil_ (w : World) (G : Foot) (A : Option Addr) : Els n R w G A ([] : List α) := ⟨[], Rg.nil _ _ _ _, rfl⟩
/-- where the k-th element lies, and its cells -/
theorem Els.at_ {A : Option Addr} {l : List α} (hR : Keeps n R) (h : Els n R w G A l) {k : Nat} (hk : k < l.length) :
    ∃ b off cs, A = some ⟨b, off, none⟩ ∧ G b ∧ b < w.heap.size ∧ R w G cs l[k] ∧ ∀ j u, cs[j]? = some u → w.cell? ⟨b, off + k * n + j, none⟩ = some u := by
  obtain ⟨vs, h1, h2⟩ := h
  obtain ⟨b, off, e, hb, hl, hc⟩ := h1.2 (by omega)
  obtain ⟨cs, hr, hx⟩ := h2.at_ hR hk
  refine ⟨b, off, cs, e, hb, hl, hr, fun j u hu => ?_⟩
  have hj : j < n := by
    rw [← hR.len hr]
    rcases Nat.lt_or_ge j cs.length with h | h
    · exact h
    · rw [List.getElem?_eq_none h] at hu; cases hu
  rw [Nat.add_assoc]
  exact hc _ u (by rw [hx j hj]; exact hu)
theorem Els.take {A : Option Addr} {l : List α} (hR : Keeps n R) (h : Els n R w G A l) {k : Nat} (hk : k ≤ l.length) : Els n R w G A (l.take k) := by
  obtain ⟨vs, h1, h2⟩ := h
  exact ⟨vs.take (k * n), by rw [List.length_take, Nat.min_eq_left hk]; exact h1.take hk, h2.take hR k⟩
theorem Els.skip {a : Addr} {l : List α} (hR : Keeps n R) (h : Els n R w G (some a) l) {k : Nat} (hk : k ≤ l.length) : Els n R w G (some (a.add (k * n))) (l.drop k) := by
  obtain ⟨vs, h1, h2⟩ := h
  exact ⟨vs.drop (k * n), by rw [List.length_drop]; exact h1.skip hk, h2.drop hR k⟩
theorem Els.lt {A : Option Addr} {l : List α} (h : Els n R w G A l) (hn : 0 < l.length) : ∃ ad, A = some ad ∧ G ad.block ∧ ad.block < w.heap.size := by
  obtain ⟨vs, h1, _⟩ := h
  exact h1.lt hn
theorem keeps_sl (hR : Keeps n R) : Keeps 1 (rSl n R) := by
  refine ⟨fun h => ?_, fun h u hu => ?_, fun h hc hd => ?_, fun h hG => ?_⟩
  all_goals obtain ⟨A, c, rfl, h1, h2, h3, h4⟩ := h
  · rfl
  · simp at hu; rw [hu]; rfl
  · exact ⟨A, c, rfl, h1, h2, h3, h4.chg hR hc hd⟩
  · exact ⟨A, c, rfl, h1, h2, h3, h4.mono hR hG⟩
end

/-- numbers of one kind, as bytes are cells -/
theorem all_int {k : IntKind} {w : World} {G : Foot} : ∀ {l : List Int} {vs : List Value}, rAll (rInt k) w G vs l → vs = l.map (Value.int k) ∧ ∀ a ∈ l, (Lit.int k a).wf = true
  | [], _, h => by rw [show _ = [] from h]; simp
  | x :: l, _, ⟨a, t, e, h1, h2⟩ => by
    obtain ⟨e2, h3⟩ := all_int h2
    rw [e, e2, h1.1]
    refine ⟨rfl, fun b hb => ?_⟩
    rcases List.mem_cons.1 hb with rfl | hb
    · exact h1.2
    · exact h3 b hb
/-- a byte slice -/
def rBs : Rel (List UInt8) := fun w G cs l => ∃ A c, cs = [.slice A l.length c] ∧ (A = none → c = 0) ∧ l.length ≤ c ∧ c ≤ maxLen ∧ Rg w G 1 A l.length (bv l)
theorem keeps_bs : Keeps 1 rBs := by
  refine ⟨fun h => ?_, fun h u hu => ?_, fun h hc hd => ?_, fun h hG => ?_⟩
  all_goals obtain ⟨A, c, rfl, h1, h2, h3, h4⟩ := h
  · rfl
  · simp at hu; rw [hu]; rfl
  · exact ⟨A, c, rfl, h1, h2, h3, h4.chg hc hd⟩
  · exact ⟨A, c, rfl, h1, h2, h3, h4.mono hG⟩

section
variable {H : Type} {enc : TypeId × Value → H} {P : Program} {w : World} {base : Nat} {held : Bool}
/-- whatever reads as this type can be read so -/
def Opens (enc : TypeId × Value → H) (P : Program) (w : World) (base : Nat) (held : Bool) {α : Type} (t : TypeId) (R : Rel α) : Prop :=
  ∀ {fuel : Nat} {cs : List Value} {x : DataW H × List MemPlace}, DataW.trod enc P w base (fun _ => true) held fuel t cs = some x → ∃ a, R w (fun _ => True) cs a
theorem opens_int {t : TypeId} {k : IntKind} (ht : P.underlying t = some (.int k)) : Opens enc P w base held t (rInt k) := fun h => by
  obtain ⟨n, e, _, hw⟩ := DataW.trod_int ht h
  exact ⟨n, e, hw⟩
theorem opens_bool {t : TypeId} (ht : P.underlying t = some .bool) : Opens enc P w base held t rBool := fun h => by
  obtain ⟨n, e, _⟩ := DataW.trod_bool ht h
  exact ⟨n, e⟩
theorem opens_str {t : TypeId} (ht : P.underlying t = some .string) : Opens enc P w base held t rStr := fun h => by
  obtain ⟨n, e, _, hw⟩ := DataW.trod_string ht h
  exact ⟨n, e, hw⟩
theorem all_of {α : Type} {R : Rel α} {n : Nat} {w : World} {G : Foot} (hR : Keeps n R) : ∀ (m : Nat) (C : Nat → List Value) (X : Nat → α), (∀ i, i < m → R w G (C i) (X i)) → rAll R w G ((List.range m).flatMap C) ((List.range m).map X)
  | 0, _, _, _ => rfl
  | m + 1, C, X, h => by
    rw [List.range_succ, List.flatMap_append, List.map_append]
    refine rAll.app (all_of hR m C X fun i hi => h i (by omega)) ?_
    simpa using rAll.single (h m (by omega))
theorem flat_at {n : Nat} : ∀ (m : Nat) (C : Nat → List Value), (∀ i, i < m → (C i).length = n) → ∀ i j, i < m → j < n → ((List.range m).flatMap C)[i * n + j]? = (C i)[j]?
  | 0, _, _, _, _, h, _ => absurd h (by omega)
  | m + 1, C, hl, i, j, hi, hj => by
    have hlen : ((List.range m).flatMap C).length = m * n := by
      have : ∀ m', m' ≤ m → ((List.range m').flatMap C).length = m' * n := by
        intro m'
        induction m' with
        | zero => intro _; simp
        | succ k ih => intro hk; rw [List.range_succ, List.flatMap_append, List.length_append, ih (by omega)]; simp [hl k (by omega), Nat.succ_mul]
      exact this m (Nat.le_refl _)
    rw [List.range_succ, List.flatMap_append]
    by_cases h : i < m
    · rw [List.getElem?_append_left (by rw [hlen]; exact Nat.lt_of_lt_of_le (by omega : i * n + j < i * n + n) (by rw [← Nat.succ_mul]; exact Nat.mul_le_mul_right _ h))]
      exact flat_at m C (fun i hi => hl i (by omega)) i j h hj
    · obtain rfl : i = m := by omega
      rw [List.getElem?_append_right (by rw [hlen]; omega), hlen]
      simp
theorem opens_sl {α : Type} {R : Rel α} {n : Nat} {t e : TypeId} (hR : Keeps n R) (ht : P.underlying t = some (.slice e)) (hC : P.cellsOf e = n) (h0 : 0 < n) (hO : Opens enc P w base held e R) : Opens enc P w base held t (rSl n R) := fun {fuel cs x} h => by
  rcases Go.Deep.open_slice ht h with ⟨rfl, _⟩ | ⟨a, len, cap, m, k, D, Pl, rfl, _, hl, hm, hmm, _, hi⟩
  · exact ⟨[], none, 0, rfl, fun _ => rfl, Nat.le_refl _, Nat.zero_le _, Els.nil_ _ _ _⟩
  · simp only [if_true] at hmm
    have hmm' := hmm.symm
    subst hmm'
    have each : ∀ i, i < len → ∃ q : List Value × α, w.cells? base (a.add (i * P.cellsOf e)) (P.cellsOf e) = some q.1 ∧ R w (fun _ => True) q.1 q.2 := fun i hil => by
      obtain ⟨cs', h1, h2⟩ := hi i (by omega)
      obtain ⟨y, hy⟩ := hO h2
      exact ⟨(cs', y), h1, hy⟩
    rcases Nat.eq_zero_or_pos len with h00 | hpos
    · subst h00
      exact ⟨[], some a, cap, rfl, (fun h => by cases h), hl, hm, Els.nil_ _ _ _⟩
    obtain ⟨q0, _⟩ := each 0 hpos
    have inst : Inhabited (List Value × α) := ⟨q0⟩
    obtain ⟨q, hq⟩ := Go.Deep.choose_lt each
    have hlen : ((List.range len).map fun i => (q i).2).length = len := by simp
    refine ⟨(List.range len).map fun i => (q i).2, some a, cap, by rw [hlen], (fun h => by cases h), by rw [hlen]; exact hl, hm, (List.range len).flatMap fun i => (q i).1, ?_, all_of hR len _ _ fun i hi => (hq i hi).2⟩
    have hall := all_of hR len (fun i => (q i).1) (fun i => (q i).2) (fun i hi => (hq i hi).2)
    refine ⟨hall.len hR, fun hn => ?_⟩
    rw [hlen] at hn
    obtain ⟨_, hlc, hcell⟩ := World.cells?_some (hq 0 hn).1
    have hq0 := hR.len (hq 0 hn).2
    have h00 := hcell 0 (by omega)
    rw [List.getElem?_eq_getElem (by omega)] at h00
    obtain ⟨ab, ao, spot⟩ := a
    have hspot : spot = none := by simpa [Addr.add] using World.cell?_spot h00
    subst hspot
    refine ⟨ab, ao, rfl, trivial, ?_, fun j u hu => ?_⟩
    · have := World.block_lt_of_cell? w _ h00
      simpa [Addr.add] using this
    · have hj : j < len * n := by
        rcases Nat.lt_or_ge j (len * n) with h | h
        · exact h
        · rw [List.getElem?_eq_none (by rw [hall.len hR, hlen]; exact h)] at hu; cases hu
      have hjd : j / n < len := Nat.div_lt_of_lt_mul (by rw [Nat.mul_comm]; exact hj)
      have hjm := Nat.mod_lt j h0
      have hje : j = j / n * n + j % n := by rw [Nat.mul_comm]; exact (Nat.div_add_mod j n).symm
      rw [hje, flat_at len _ (fun i hi => hR.len (hq i hi).2) (j / n) (j % n) hjd hjm] at hu
      obtain ⟨_, _, hcell⟩ := World.cells?_some (hq (j / n) hjd).1
      have h1 := hcell (j % n) (by omega)
      rw [hC, Go.Deep.add_add, Addr.add_lit, hu] at h1
      rw [hje]
      exact h1
theorem opens_bs {t e : TypeId} (ht : P.underlying t = some (.slice e)) (he : P.underlying e = some (.int .u8)) (hC : P.cellsOf e = 1) : Opens enc P w base held t rBs := fun {fuel cs x} h => by
  obtain ⟨l, A, c, h1, h2, h3, h4, vs, h5, h6⟩ := opens_sl (keeps_int .u8) ht hC (by omega) (opens_int he) h
  obtain ⟨e1, hw⟩ := all_int h6
  have hl : (l.map fun z => UInt8.ofNat z.toNat).length = l.length := by simp
  refine ⟨l.map fun z => UInt8.ofNat z.toNat, A, c, by rw [hl]; exact h1, h2, by rw [hl]; exact h3, h4, ?_⟩
  have hb : bv (l.map fun z => UInt8.ofNat z.toNat) = l.map (Value.int .u8) := by
    unfold bv
    rw [List.map_map]
    refine List.map_congr_left fun z hz => ?_
    have := wf_u8 (hw z hz)
    simp only [Function.comp, UInt8.toNat_ofNat']
    congr 1
    omega
  rw [hl, hb, ← e1]
  exact h5
/-- the fields of a struct from the k-th on, that begin at offset o -/
def OpensF (enc : TypeId × Value → H) (P : Program) (w : World) (base : Nat) (held : Bool) {α : Type} (fs : List Field) (o : Nat) (R : Rel α) : Prop :=
  ∀ {cs : List Value}, (∀ f ∈ fs, ∃ n y, DataW.trod enc P w base (fun _ => true) held n f.type ((cs.drop f.offset).take (P.cellsOf f.type)) = some y) → o + (fs.map fun f => P.cellsOf f.type).sum = cs.length → ∃ a, R w (fun _ => True) (cs.drop o) a
theorem opensF_last {α : Type} {R : Rel α} {f : Field} {o : Nat} (ho : f.offset = o) (hO : Opens enc P w base held f.type R) : OpensF enc P w base held [f] o R := fun {cs} h hs => by
  obtain ⟨n, y, h1⟩ := h f (by simp)
  rw [ho, List.take_of_length_le (by simp at hs; simp; omega)] at h1
  exact hO h1
theorem opensF_cons {α β : Type} {R : Rel α} {S : Rel β} {f : Field} {fs : List Field} {o o' : Nat} (ho : f.offset = o) (ho' : o' = o + P.cellsOf f.type) (hO : Opens enc P w base held f.type R) (hF : OpensF enc P w base held fs o' S) : OpensF enc P w base held (f :: fs) o (rPair R S) := fun {cs} h hs => by
  obtain ⟨n, y, h1⟩ := h f (by simp)
  rw [ho] at h1
  obtain ⟨a, ha⟩ := hO h1
  obtain ⟨b, hb⟩ := hF (cs := cs) (fun g hg => h g (List.mem_cons_of_mem _ hg)) (by rw [← hs, ho', List.map_cons, List.sum_cons]; omega)
  refine ⟨(a, b), (cs.drop o).take (P.cellsOf f.type), cs.drop o', ?_, ha, hb⟩
  rw [ho', ← List.drop_drop, List.take_append_drop]
theorem opens_struct {α : Type} {R : Rel α} {t : TypeId} {fs : Array Field} (ht : P.underlying t = some (.struct fs)) (hs : (fs.toList.map fun f => P.cellsOf f.type).sum = P.cellsOf t) (hF : OpensF enc P w base held fs.toList 0 R) : Opens enc P w base held t R := fun {fuel cs x} h => by
  obtain ⟨xs, n, _, _, hl, hxl, hf⟩ := DataW.trod_struct ht h
  obtain ⟨a, ha⟩ := hF (cs := cs) (fun f hfm => by
    obtain ⟨i, hi, e⟩ := List.mem_iff_getElem.1 hfm
    have hi' : i < fs.size := by simpa using hi
    have h1 := hf i f (by rw [Array.getElem?_eq_getElem hi', ← e]; simp)
    rw [List.getElem?_eq_getElem (by omega)] at h1
    exact ⟨n, _, h1⟩) (by rw [hl, ← hs]; simp)
  exact ⟨a, by simpa using ha⟩
/-- a slice that came in -/
theorem open_sl {α : Type} {R : Rel α} {n : Nat} {r : Reach} {b0 : Nat} {t : TypeId} {e : TypeId} {v : Value} {d : DataW H} {p : List MemPlace} (ht : P.underlying t = some (.slice e)) (hO : Opens enc P w base held t (rSl n R)) (hv : Value.okWide P w r b0 t v) (h : DataW.Trod enc P w base (fun _ => true) held t v d p) :
    ∃ A c, ∃ l : List α, v = .slice A l.length c ∧ (A = none → c = 0) ∧ l.length ≤ c ∧ c ≤ maxLen ∧ Els n R w (fun _ => True) A l := by
  obtain ⟨a1, len, cap, rfl⟩ := okWide_slice ht hv
  obtain ⟨fuel, hf⟩ := h
  obtain ⟨l, A, c, h1, h2, h3, h4, h5⟩ := hO hf
  simp [Value.cells] at h1
  obtain ⟨rfl, rfl, rfl⟩ := h1
  exact ⟨a1, cap, l, rfl, h2, h3, h4, h5⟩
end
end Go.Proofs.Ytafepficapdepaa.foot
