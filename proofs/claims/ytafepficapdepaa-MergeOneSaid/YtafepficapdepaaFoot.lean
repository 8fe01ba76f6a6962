/- Footprints: what a call may write, which blocks a reading lies in; rows of the call's own at any offset; append onto them. No condition beyond those that each lemma states. -/
import Derived.Test.YtafepficapdepaaMem
import Derived.ArgAppend
namespace Go.Proofs.Ytafepficapdepaa.foot
open Go.RowKit Go.Proofs.Ytafepficapdepaa.kit Go.Proofs.Ytafepficapdepaa.mem
set_option linter.unusedVariables false

abbrev Foot := Nat → Prop

/-- only blocks of F and new memory were written -/
structure Chg (F : Foot) (w w' : World) : Prop where
  os : w'.os = w.os
  tape : w'.tape = w.tape
  output : w'.output = w.output
  size : w.heap.size ≤ w'.heap.size
  block : ∀ k, k < w.heap.size → ¬ F k → w'.heap[k]? = w.heap[k]?
/-- what F' has beyond F is new -/
def Fresh (w : World) (F F' : Foot) : Prop := ∀ k, F' k → F k ∨ w.heap.size ≤ k

section
variable {F G H : Foot} {a b c w w' : World}
theorem Chg.refl (F : Foot) (w : World) : Chg F w w := ⟨rfl, rfl, rfl, Nat.le_refl _, fun _ _ _ => rfl⟩
theorem Chg.of_below (h : Below w.heap.size w w') (F : Foot) : Chg F w w' := ⟨h.os, h.tape, h.output, h.size, fun k hk _ => h.block k hk⟩
theorem Chg.trans (h : Chg F a b) (k : Chg G b c) (hG : ∀ i, i < a.heap.size → G i → F i) : Chg F a c :=
  ⟨k.os.trans h.os, k.tape.trans h.tape, k.output.trans h.output, Nat.le_trans h.size k.size, fun i hi hne => (k.block i (Nat.lt_of_lt_of_le hi h.size) (fun e => hne (hG i hi e))).trans (h.block i hi hne)⟩
theorem Chg.step (h : Chg F a b) (hf : Fresh a F G) (k : Chg G b c) : Chg F a c := h.trans k fun i hi hg => by
  rcases hf i hg with e | e
  · exact e
  · omega
theorem Chg.mono (h : Chg F w w') (hF : ∀ i, i < w.heap.size → F i → G i) : Chg G w w' := (Chg.refl G w).trans h hF
theorem Chg.bel (h : Chg F a b) (k : Below b.heap.size b c) : Chg F a c := h.trans (Chg.of_below k F) fun _ _ e => e
theorem Chg.below {B : Nat} (h : Chg F w w') (hF : ∀ k, F k → B ≤ k) (hB : B ≤ w.heap.size) : Below B w w' :=
  ⟨h.os, h.tape, h.output, h.size, fun k hk => h.block k (by omega) (fun e => by have := hF k e; omega)⟩
theorem Chg.grown {row : Option Nat} (h : w.grownBy w' row) (hr : ∀ g, row = some g → F g) : Chg F w w' :=
  ⟨h.os, h.tape, h.output, h.size, fun k hk hne => h.block k hk (fun e => hne (hr k e.symm))⟩
theorem Chg.drewN (h : Chg F a b) (n : Nat) : Chg F a (b.drewN n) := ⟨h.os, h.tape, h.output, h.size, h.block⟩
theorem Chg.drew (h : Chg F a b) : Chg F a b.drew := ⟨h.os, h.tape, h.output, h.size, h.block⟩
theorem Chg.alloc (h : Chg F a b) (o : Obj) : Chg F a (b.alloc o) := h.bel ((Below.refl _ _).alloc (Nat.le_refl _) o)
theorem Chg.put (h : Chg F a b) {p : Addr} (hp : F p.block ∨ a.heap.size ≤ p.block) (u : Value) : Chg F a (b.setCell p u) :=
  ⟨h.os, h.tape, h.output, by simpa [World.setCell] using h.size, fun i hi hne => (Below.heap_setCell b p u i (by
    rintro rfl
    rcases hp with hp | hp
    · exact hne hp
    · omega)).trans (h.block i hi hne)⟩
theorem Fresh.refl (w : World) (F : Foot) : Fresh w F F := fun _ h => .inl h
theorem Fresh.trans (h : Fresh a F G) (k : Fresh b G H) (hs : a.heap.size ≤ b.heap.size) : Fresh a F H := fun i hi => by
  rcases k i hi with e | e
  · exact h i e
  · exact .inr (Nat.le_trans hs e)
theorem Fresh.low {B : Nat} (h : Fresh w F G) (hF : ∀ k, F k → B ≤ k) (hB : B ≤ w.heap.size) : ∀ k, G k → B ≤ k := fun k hk => by
  rcases h k hk with e | e
  · exact hF k e
  · omega
/-- what was apart, and lay in old memory, still is apart -/
theorem Fresh.apart (h : Fresh w F G) {k : Nat} (hk : k < w.heap.size) (hn : ¬ F k) : ¬ G k := fun e => by
  rcases h k e with e | e
  · exact hn e
  · omega
theorem _root_.Go.Proofs.Ytafepficapdepaa.mem.Bk.chg {g : Nat} {t : TypeId} {cs : Array Value} (h : Bk w g t cs) (hc : Chg F w w') (hn : ¬ F g) : Bk w' g t cs := (hc.block g h.lt hn).trans h
end

/-- the slice value with address A and n elements of so many cells each holds the cells xs; its block is one of G -/
def Rg (w : World) (G : Foot) (size : Nat) (A : Option Addr) (n : Nat) (xs : List Value) : Prop :=
  xs.length = n * size ∧ (0 < n → ∃ b off, A = some ⟨b, off, none⟩ ∧ G b ∧ b < w.heap.size ∧ ∀ j u, xs[j]? = some u → w.cell? ⟨b, off + j, none⟩ = some u)
section
variable {F G H : Foot} {w w' : World} {size n : Nat} {A : Option Addr} {xs : List Value}
theorem Rg.nil (w : World) (G : Foot) (size : Nat) (A : Option Addr) : Rg w G size A 0 [] := ⟨by simp, fun h => absurd h (by omega)⟩
theorem Rg.chg (h : Rg w G size A n xs) (hc : Chg F w w') (hd : ∀ k, k < w.heap.size → G k → ¬ F k) : Rg w' G size A n xs := by
  refine ⟨h.1, fun hn => ?_⟩
  obtain ⟨b, off, e, hb, hl, hcell⟩ := h.2 hn
  exact ⟨b, off, e, hb, Nat.lt_of_lt_of_le hl hc.size, fun j u hu => by rw [World.cell?_of_block (w := w) (hc.block b hl (hd b hl hb))]; exact hcell j u hu⟩
theorem Rg.mono (h : Rg w G size A n xs) (hG : ∀ k, k < w.heap.size → G k → H k) : Rg w H size A n xs := by
  refine ⟨h.1, fun hn => ?_⟩
  obtain ⟨b, off, e, hb, hl, hcell⟩ := h.2 hn
  exact ⟨b, off, e, hG b hl hb, hl, hcell⟩
theorem Rg.bel (h : Rg w G size A n xs) (hb : Below w.heap.size w w') : Rg w' G size A n xs := h.chg (F := fun _ => False) (Chg.of_below hb _) (fun _ _ _ e => e)
theorem Rg.rd (h : Rg w G size A n xs) : Rd w w.heap.size size A n xs := by
  refine ⟨h.1, fun hn => ?_⟩
  obtain ⟨b, off, e, _, hl, hcell⟩ := h.2 hn
  exact ⟨b, off, e, hl, hcell⟩
theorem Rg.of_rd {B : Nat} (h : Rd w B size A n xs) (hB : B ≤ w.heap.size) (hG : ∀ ad, A = some ad → G ad.block) : Rg w G size A n xs := by
  refine ⟨h.1, fun hn => ?_⟩
  obtain ⟨b, off, e, hl, hcell⟩ := h.2 hn
  exact ⟨b, off, e, hG _ e, by omega, hcell⟩
theorem Rg.lt (h : Rg w G size A n xs) (hn : 0 < n) : ∃ ad, A = some ad ∧ G ad.block ∧ ad.block < w.heap.size := by
  obtain ⟨b, off, e, hb, hl, _⟩ := h.2 hn
  exact ⟨_, e, hb, hl⟩
theorem Rg.take (h : Rg w G size A n xs) {k : Nat} (hk : k ≤ n) : Rg w G size A k (xs.take (k * size)) := by
  refine ⟨by rw [List.length_take, h.1]; exact Nat.min_eq_left (Nat.mul_le_mul_right _ hk), fun hn => ?_⟩
  obtain ⟨b, off, e, hb, hl, hc⟩ := h.2 (by omega)
  refine ⟨b, off, e, hb, hl, fun j u hu => hc j u ?_⟩
  rw [List.getElem?_take] at hu
  split at hu
  · exact hu
  · cases hu
theorem Rg.skip {a : Addr} (h : Rg w G size (some a) n xs) {k : Nat} (hk : k ≤ n) : Rg w G size (some (a.add (k * size))) (n - k) (xs.drop (k * size)) := by
  refine ⟨by rw [List.length_drop, h.1, Nat.sub_mul], fun hn => ?_⟩
  obtain ⟨b, off, e, hb, hl, hc⟩ := h.2 (by omega)
  injection e with e
  subst e
  refine ⟨b, off + k * size, ?_, hb, hl, fun j u hu => ?_⟩
  · unfold Addr.add; split
    · rename_i h0; rw [h0]; rfl
    · rfl
  · rw [List.getElem?_drop] at hu
    rw [Nat.add_assoc]; exact hc _ u hu
end

/-- the block of a slice's address -/
def sf (A : Option Addr) : Foot := fun k => ∃ ad, A = some ad ∧ ad.block = k
theorem sf_some (a : Addr) (k : Nat) : sf (some a) k ↔ a.block = k := by simp [sf]
theorem sf_none (k : Nat) : ¬ sf none k := by simp [sf]

/-- a row of the call's own, at any offset of its block: n elements, c in all -/
def Own (w : World) (e : TypeId) (size : Nat) (A : Option Addr) (n c : Nat) (xs : List Value) : Prop :=
  xs.length = n * size ∧ ((A = none ∧ n = 0 ∧ c = 0) ∨ ∃ g off cur, A = some ⟨g, off, none⟩ ∧ Bk w g e cur ∧ n ≤ c ∧ c ≤ maxLen ∧ off + c * size ≤ cur.size ∧ ∀ j u, xs[j]? = some u → cur[off + j]? = some u)
section
variable {F G H : Foot} {w w' : World} {e : TypeId} {size n c : Nat} {A : Option Addr} {xs : List Value}
theorem Own.none_ (w : World) (e : TypeId) (size : Nat) : Own w e size none 0 0 [] := ⟨by simp, .inl ⟨rfl, rfl, rfl⟩⟩
theorem Own.nil (h : Own w e size A n c xs) : A = none → c = 0 := by
  rintro rfl
  rcases h.2 with ⟨_, _, h⟩ | ⟨g, off, cur, h, _⟩
  · exact h
  · cases h
theorem Own.cap (h : Own w e size A n c xs) : n ≤ c := by
  rcases h.2 with ⟨_, h1, h2⟩ | ⟨g, off, cur, _, _, h, _⟩ <;> omega
theorem Own.max (h : Own w e size A n c xs) : c ≤ maxLen := by
  rcases h.2 with ⟨_, h1, h2⟩ | ⟨g, off, cur, _, _, _, h, _⟩
  · rw [h2]; exact Nat.zero_le _
  · exact h
theorem Own.lt (h : Own w e size A n c xs) : ∀ k, sf A k → k < w.heap.size := by
  rintro k ⟨ad, rfl, rfl⟩
  rcases h.2 with ⟨h, _⟩ | ⟨g, off, cur, h, hb, _⟩
  · cases h
  · cases h; exact hb.lt
theorem Own.chg (h : Own w e size A n c xs) (hc : Chg F w w') (hd : ∀ k, k < w.heap.size → sf A k → ¬ F k) : Own w' e size A n c xs := by
  refine ⟨h.1, ?_⟩
  rcases h.2 with h0 | ⟨g, off, cur, h0, hb, h1⟩
  · exact .inl h0
  · exact .inr ⟨g, off, cur, h0, hb.chg hc (hd g hb.lt (by rw [h0, sf_some])), h1⟩
theorem Own.bel (h : Own w e size A n c xs) (hb : Below w.heap.size w w') : Own w' e size A n c xs := h.chg (F := fun _ => False) (Chg.of_below hb _) (fun _ _ _ e => e)
theorem Own.rg (h : Own w e size A n c xs) : Rg w (sf A) size A n xs := by
  refine ⟨h.1, fun hn => ?_⟩
  rcases h.2 with ⟨_, h1, _⟩ | ⟨g, off, cur, h0, hb, _, _, _, h1⟩
  · omega
  · exact ⟨g, off, h0, by rw [h0, sf_some], hb.lt, fun j u hu => by rw [hb.cell]; exact h1 j u hu⟩
theorem Own.of_row {base : Nat} (h : w.ownsRow base e size (.slice A n c) n xs) : Own w e size A n c xs ∧ ∀ k, sf A k → base ≤ k := by
  rcases h.2 with ⟨h0, h1⟩ | ⟨g, cap, cur, h0, h1, h2, h3, h4, h5, h6⟩
  · cases h0
    exact ⟨⟨h.1, .inl ⟨rfl, h1, rfl⟩⟩, fun k hk => absurd hk (sf_none k)⟩
  · cases h0
    refine ⟨⟨h.1, .inr ⟨g, 0, cur, rfl, h2, h3, h4, by omega, fun j u hu => ?_⟩⟩, fun k hk => by rw [sf_some] at hk; exact hk ▸ h1⟩
    rw [← h6, List.getElem?_take] at hu
    split at hu
    · rw [Nat.zero_add, ← Array.getElem?_toList]; exact hu
    · cases hu
theorem Own.made (w : World) (e : TypeId) (size n c : Nat) (cs : Array Value) (xs : List Value) (hn : n ≤ c) (hc : c ≤ maxLen) (hs : cs.size = c * size) (hl : xs.length = n * size) (hx : cs.toList.take (n * size) = xs) :
    Own (w.alloc (.cells cs e)) e size (some ⟨w.heap.size, 0, none⟩) n c xs := by
  refine ⟨hl, .inr ⟨w.heap.size, 0, cs, rfl, Bk.new w e cs, hn, hc, by omega, fun j u hu => ?_⟩⟩
  rw [← hx, List.getElem?_take] at hu
  split at hu
  · rw [Nat.zero_add, ← Array.getElem?_toList]; exact hu
  · cases hu
/-- what has just been made reads -/
theorem Rg.new (w : World) (e : TypeId) (size n : Nat) (cs : Array Value) (hs : cs.size = n * size) (fr : Nat × Nat := (0, 0)) : Rg (w.alloc (.cells cs e fr)) (fun k => k = w.heap.size) size (some ⟨w.heap.size, 0, none⟩) n cs.toList := by
  refine ⟨by simpa using hs, fun _ => ⟨w.heap.size, 0, rfl, rfl, by simp, fun j u hu => ?_⟩⟩
  rw [Nat.zero_add, World.cell?_alloc_mark w cs e fr j]
  simpa using hu
/-- a prefix of a row -/
theorem Own.take (h : Own w e size A n c xs) {k : Nat} (hk : k ≤ n) : Own w e size A k c (xs.take (k * size)) := by
  refine ⟨by rw [List.length_take, h.1]; exact Nat.min_eq_left (Nat.mul_le_mul_right _ hk), ?_⟩
  rcases h.2 with ⟨h0, h1, h2⟩ | ⟨g, off, cur, h0, hb, h1, h2, h3, h4⟩
  · exact .inl ⟨h0, by omega, h2⟩
  · refine .inr ⟨g, off, cur, h0, hb, by omega, h2, h3, fun j u hu => h4 j u ?_⟩
    rw [List.getElem?_take] at hu
    split at hu
    · exact hu
    · cases hu
/-- what is left behind the first k -/
theorem Own.skip {a : Addr} (h : Own w e size (some a) n c xs) {k : Nat} (hk : k ≤ n) : Own w e size (some (a.add (k * size))) (n - k) (c - k) (xs.drop (k * size)) := by
  refine ⟨by rw [List.length_drop, h.1, Nat.sub_mul], ?_⟩
  rcases h.2 with ⟨h0, _⟩ | ⟨g, off, cur, h0, hb, h1, h2, h3, h4⟩
  · cases h0
  · cases h0
    refine .inr ⟨g, off + k * size, cur, ?_, hb, by omega, by omega, ?_, fun j u hu => ?_⟩
    · unfold Addr.add; split
      · rename_i h0; rw [h0]; rfl
      · rfl
    · have : (c - k) * size + k * size = c * size := by rw [← Nat.add_mul]; congr 1; omega
      omega
    · rw [List.getElem?_drop] at hu
      rw [Nat.add_assoc]; exact h4 _ u hu
/-- nothing left: the address stays -/
theorem Own.spent {a : Addr} (h : Own w e size (some a) n c xs) : Own w e size (some a) 0 0 [] := by
  refine ⟨by simp, ?_⟩
  rcases h.2 with ⟨h0, _⟩ | ⟨g, off, cur, h0, hb, h1, h2, h3, h4⟩
  · cases h0
  · exact .inr ⟨g, off, cur, h0, hb, Nat.le_refl _, Nat.zero_le _, by omega, fun j u hu => by simp at hu⟩
/-- one cell of a row written anew -/
theorem Own.put {g off : Nat} (h : Own w e size (some ⟨g, off, none⟩) n c xs) (j : Nat) (hj : j < n * size) (u : Value) : Own (w.setCell ⟨g, off + j, none⟩ u) e size (some ⟨g, off, none⟩) n c (xs.set j u) := by
  refine ⟨by rw [List.length_set]; exact h.1, ?_⟩
  rcases h.2 with ⟨h0, _⟩ | ⟨g', off', cur, h0, hb, h1, h2, h3, h4⟩
  · cases h0
  · cases h0
    refine .inr ⟨g, off, _, rfl, hb.put (off + j) u, h1, h2, by rw [Array.size_setIfInBounds]; exact h3, fun i v hv => ?_⟩
    have hle : n * size ≤ c * size := Nat.mul_le_mul_right _ h1
    by_cases e : i = j
    · subst e
      rw [List.getElem?_set_self (by rw [h.1]; exact hj)] at hv
      rw [Array.getElem?_setIfInBounds_self_of_lt (by omega)]
      exact hv
    · rw [List.getElem?_set_ne (fun e2 => e e2.symm)] at hv
      rw [Array.getElem?_setIfInBounds_ne (by omega)]
      exact h4 i v hv
theorem Own.free {g off : Nat} (h : Own w e size (some ⟨g, off, none⟩) n c xs) (j : Nat) : w.frozen? ⟨g, j, none⟩ = false := by
  rcases h.2 with ⟨h0, _⟩ | ⟨g', off', cur, h0, hb, _⟩
  · cases h0
  · cases h0; exact hb.free j
end

section
variable {P : Program} (w : World)
/-- append onto a row of the call's own at any offset, the source nil, empty or not -/
theorem run_app (t ty e : TypeId) (i : TypeInfo) (z : Value) (size bytes : Nat) (ht : P.underlying t = some (.slice e)) (hi : P.info? e = some i) (hz : i.zero = some z)
    (hsize : i.size = size) (hby : i.bytes = bytes) (hzs : z.cells.size = size) (hsz : 0 < size)
    (A : Option Addr) (n c : Nat) (xs : List Value) (hown : Own w e size A n c xs)
    (G : Foot) (A2 : Option Addr) (m c2 : Nat) (hA2 : A2 = none → c2 = 0) (news : List Value) (hr : Rg w G size A2 m news) (h1 : ∀ u ∈ news, u.oneCell' = true)
    (h63 : n + m ≤ maxLen) (hbytes : (n + m) * bytes ≤ 140737488355328) :
    ∃ A' c' w', (Builtin.append_ #[t, t] ty #[.slice A n c, .slice A2 m c2]).run P w = .ok (.slice A' (n + m) c') w' ∧ Own w' e size A' (n + m) c' (xs ++ news) ∧ Chg (sf A) w w' ∧ Fresh w (sf A) (sf A') := by
  have hm0 : A2 = none → m = 0 ∧ news = [] := by
    intro h2
    have hm : m = 0 := by
      rcases Nat.eq_zero_or_pos m with h0 | h0
      · exact h0
      · obtain ⟨b, off, h, _⟩ := hr.2 h0; rw [h2] at h; cases h
    subst hm
    exact ⟨rfl, List.eq_nil_of_length_eq_zero (by simpa using hr.1)⟩
  subst hsize
  subst hby
  rcases A2 with _ | ad
  · obtain ⟨rfl, rfl⟩ := hm0 rfl
    have := hA2 rfl
    subst this
    refine ⟨A, c, w, ?_, by simpa using hown, Chg.refl _ _, Fresh.refl _ _⟩
    have hcap := hown.cap
    rcases hown.2 with ⟨rfl, rfl, rfl⟩ | ⟨g, off, cur, rfl, _⟩
    · simp [Builtin.append_, run_underlying ht, sizeOf, typeInfo, hi, Builtin.lenOf, Builtin.firstCells]
    · simp [Builtin.append_, run_underlying ht, sizeOf, typeInfo, hi, Builtin.lenOf, Builtin.firstCells, hcap, storeCells]
  · have hcells : ∀ j u, news[j]? = some u → w.cell? (ad.add j) = some u := by
      intro j u hu
      rcases Nat.eq_zero_or_pos m with h0 | h0
      · subst h0
        have hn : news = [] := List.eq_nil_of_length_eq_zero (by simpa using hr.1)
        subst hn
        simp at hu
      · obtain ⟨b, off, h, _, _, hc⟩ := hr.2 h0
        injection h with h
        subst h
        rw [Addr.add_lit]
        exact hc j u hu
    rcases hown.2 with ⟨rfl, rfl, rfl⟩ | ⟨g, off, cur, rfl, hb, hnc, hcm, hfits, hcur⟩
    · have hx : xs = [] := List.eq_nil_of_length_eq_zero (by simpa using hown.1)
      subst hx
      obtain ⟨v', w', hrun, h2, h3, h4⟩ := run_append_own (P := P) w w.heap.size t ty e i z i.size i.bytes ht hi hz rfl rfl hzs hsz (.slice none 0 0) 0 [] (World.ownsRow_nil _ _ _ _) ad m c2 news hr.1 hcells h1 h63 hbytes (Nat.le_refl _)
      obtain ⟨A', c', hv, _⟩ := own_form h2
      subst hv
      have ho := Own.of_row h2
      exact ⟨A', c', w', hrun, ho.1, Chg.grown h3 (by simp [Value.ownBlock]), fun k hk => .inr (ho.2 k hk)⟩
    · have holds : ∀ j u, xs[j]? = some u → w.cell? ((⟨g, off, none⟩ : Addr).add j) = some u := by
        intro j u hu
        rw [Addr.add_lit, hb.cell]
        exact hcur j u hu
      by_cases hroom : n + m ≤ c
      · have hle : (n + m) * i.size ≤ c * i.size := Nat.mul_le_mul_right _ hroom
        rw [Nat.add_mul] at hle
        have hf := run_firstCells_some (P := P) w i.size m ad m c2 news hr.1 hcells
        have hfit : off + n * i.size + news.length ≤ cur.size := by rw [hr.1]; omega
        have hst := run_storeCells_at P g (off + n * i.size) e news 0 cur w hb (by simpa using hfit) h1
        simp only [Nat.add_zero] at hst
        refine ⟨some ⟨g, off, none⟩, c, w.setRow g (cur.toList.take (off + n * i.size) ++ news ++ cur.toList.drop (off + n * i.size + news.length)).toArray, ?_, ⟨by rw [List.length_append, hown.1, hr.1, Nat.add_mul], .inr ⟨g, off, _, rfl, setRow_heap w g cur _ e _ hb, hroom, hcm, ?_, ?_⟩⟩, ⟨rfl, rfl, rfl, by simp, fun k _ hk => setRow_other w g k _ (fun e => hk (by rw [sf_some, e]))⟩, Fresh.refl _ _⟩
        · simp [Builtin.append_, run_underlying ht, sizeOf, typeInfo, hi, Builtin.lenOf, hroom, hf, Addr.add_lit, hst]
        · have := Nat.add_mul n m i.size
          simp only [List.size_toArray, List.length_append, List.length_take, List.length_drop, Array.length_toList]
          omega
        · intro j u hu
          have hn := hown.1
          rw [List.getElem?_toArray, List.append_assoc]
          by_cases hj : j < n * i.size
          · rw [List.getElem?_append_left (by omega)] at hu
            rw [List.getElem?_append_left (by simp; omega), List.getElem?_take_of_lt (by omega), Array.getElem?_toList]
            exact hcur j u hu
          · rw [List.getElem?_append_right (by omega), hn] at hu
            have hj2 : j - n * i.size < news.length := by
              rcases Nat.lt_or_ge (j - n * i.size) news.length with h | h
              · exact h
              · rw [List.getElem?_eq_none h] at hu; cases hu
            have hlt : (cur.toList.take (off + n * i.size)).length = off + n * i.size := by simp; omega
            rw [List.getElem?_append_right (by omega), hlt, List.getElem?_append_left (by omega), ← hu]
            congr 1
            omega
      · obtain ⟨v', w', hrun, h2, h3⟩ := run_append_arg_grows (P := P) w t ty e i z i.size i.bytes ht hi hz rfl rfl hzs hsz ⟨g, off, none⟩ n c xs hown.1 holds ad m c2 news hr.1 hcells (by omega) h63 hbytes
        obtain ⟨A', c', hv, _⟩ := own_form h2
        subst hv
        have ho := Own.of_row h2
        exact ⟨A', c', w', hrun, ho.1, Chg.grown h3 (by intro g h; cases h), fun k hk => .inr (ho.2 k hk)⟩

theorem wp_app {o : Oper} {a : Act} {K : Act → World → Prop} {Q : Exit → Act → World → Prop} (s x : Operand) (t : TypeId)
    (ho : o.op = .call { callee := .builtin .append, args := #[s, x], argTypes := #[t, t] })
    (e : TypeId) (i : TypeInfo) (z : Value) (size bytes : Nat) (ht : P.underlying t = some (.slice e)) (hi : P.info? e = some i) (hz : i.zero = some z)
    (hsize : i.size = size) (hby : i.bytes = bytes) (hzs : z.cells.size = size) (hsz : 0 < size)
    (A : Option Addr) (n c : Nat) (xs : List Value) (hs : a.eval s = .slice A n c) (hown : Own w e size A n c xs)
    (G : Foot) (A2 : Option Addr) (m c2 : Nat) (hA2 : A2 = none → c2 = 0) (news : List Value) (hx : a.eval x = .slice A2 m c2) (hr : Rg w G size A2 m news) (h1 : ∀ u ∈ news, u.oneCell' = true)
    (h63 : n + m ≤ maxLen) (hbytes : (n + m) * bytes ≤ 140737488355328)
    (h : ∀ A' c' w', Own w' e size A' (n + m) c' (xs ++ news) → Chg (sf A) w w' → Fresh w (sf A) (sf A') → K (a.put o.dst (.slice A' (n + m) c')) w') : o.wp P a w K Q := by
  obtain ⟨A', c', w', hrun, h2, h3, h4⟩ := run_app (P := P) w t o.type e i z size bytes ht hi hz hsize hby hzs hsz A n c xs hown G A2 m c2 hA2 news hr h1 h63 hbytes
  unfold Oper.wp execOp
  simp only [ho, resolve, invoke, builtin, Sem.run_bind, Sem.run_pure, Result.andThen_ok, List.map_toArray, List.map_cons, List.map_nil, hs, hx, hrun]
  exact h A' c' w' h2 h3 h4

theorem wpList_app {ops : Array Oper} {rest : List Oper} {o : Oper} {a : Act} {Q : Exit → Act → World → Prop} (hgd : o.guard = none) (s x : Operand) (t : TypeId)
    (ho : o.op = .call { callee := .builtin .append, args := #[s, x], argTypes := #[t, t] })
    (e : TypeId) (i : TypeInfo) (z : Value) (size bytes : Nat) (ht : P.underlying t = some (.slice e)) (hi : P.info? e = some i) (hz : i.zero = some z)
    (hsize : i.size = size) (hby : i.bytes = bytes) (hzs : z.cells.size = size) (hsz : 0 < size)
    (A : Option Addr) (n c : Nat) (xs : List Value) (hs : a.eval s = .slice A n c) (hown : Own w e size A n c xs)
    (G : Foot) (A2 : Option Addr) (m c2 : Nat) (hA2 : A2 = none → c2 = 0) (news : List Value) (hx : a.eval x = .slice A2 m c2) (hr : Rg w G size A2 m news) (h1 : ∀ u ∈ news, u.oneCell' = true)
    (h63 : n + m ≤ maxLen) (hbytes : (n + m) * bytes ≤ 140737488355328)
    (h : ∀ A' c' w', Own w' e size A' (n + m) c' (xs ++ news) → Chg (sf A) w w' → Fresh w (sf A) (sf A') → wpList P ops Q rest (a.put o.dst (.slice A' (n + m) c')) w') : wpList P ops Q (o :: rest) a w :=
  wpList_plain hgd fun _ hK => wp_app w s x t ho e i z size bytes ht hi hz hsize hby hzs hsz A n c xs hs hown G A2 m c2 hA2 news hx hr h1 h63 hbytes fun A' c' w' h2 h3 h4 => hK _ _ (h A' c' w' h2 h3 h4)

theorem step_app {ops : Array Oper} {o : Oper} {a : Act} {K : Act → World → Prop} {Q : Exit → Act → World → Prop} {E : Prop} (hgd : o.guard = none) (s x : Operand) (t : TypeId)
    (ho : o.op = .call { callee := .builtin .append, args := #[s, x], argTypes := #[t, t] })
    (e : TypeId) (i : TypeInfo) (z : Value) (size bytes : Nat) (ht : P.underlying t = some (.slice e)) (hi : P.info? e = some i) (hz : i.zero = some z)
    (hsize : i.size = size) (hby : i.bytes = bytes) (hzs : z.cells.size = size) (hsz : 0 < size)
    (A : Option Addr) (n c : Nat) (xs : List Value) (hs : a.eval s = .slice A n c) (hown : Own w e size A n c xs)
    (G : Foot) (A2 : Option Addr) (m c2 : Nat) (hA2 : A2 = none → c2 = 0) (news : List Value) (hx : a.eval x = .slice A2 m c2) (hr : Rg w G size A2 m news) (h1 : ∀ u ∈ news, u.oneCell' = true)
    (h63 : n + m ≤ maxLen) (hbytes : (n + m) * bytes ≤ 140737488355328)
    (h : ∀ A' c' w', Own w' e size A' (n + m) c' (xs ++ news) → Chg (sf A) w w' → Fresh w (sf A) (sf A') → K (a.put o.dst (.slice A' (n + m) c')) w') :
    if Region.wanted o (yielded ops a.tmps) = true then Oper.wp P o a w K Q else E := by
  have hw : Region.wanted o (yielded ops a.tmps) = true := by simp [Region.wanted, hgd]
  rw [if_pos hw]
  exact wp_app w s x t ho e i z size bytes ht hi hz hsize hby hzs hsz A n c xs hs hown G A2 m c2 hA2 news hx hr h1 h63 hbytes h
end
end Go.Proofs.Ytafepficapdepaa.foot
