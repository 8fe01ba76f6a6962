/- Slices of byte slices: what they hold; an argument opened. No condition beyond those that each lemma states. -/
import Derived.Test.YthoclemgiopjpaaFoot
import Derived.Deep.Matrix
namespace Go.Proofs.Ythoclemgiopjpaa.foot
open Go.RowKit Go.Joins Go.ChangeShapes Go.WideShapes Go.ChangeAt Go.Proofs.Ythoclemgiopjpaa.kit Go.Proofs.Ythoclemgiopjpaa.mem
set_option linter.unusedVariables false

/-- a value that is a slice of these bytes, in blocks of G -/
def Body (w : World) (G : Foot) (v : Value) (x : List UInt8) : Prop :=
  ∃ A c, v = .slice A x.length c ∧ (A = none → c = 0) ∧ x.length ≤ c ∧ c ≤ maxLen ∧ Rg w G 1 A x.length (bv x)
/-- values that are slices of these bytes -/
def Bodies (w : World) (G : Foot) : List Value → List (List UInt8) → Prop
  | [], [] => True
  | v :: vs, x :: l => Body w G v x ∧ Bodies w G vs l
  | _, _ => False
section
variable {F G H : Foot} {w w' : World} {v : Value} {x : List UInt8} {vs : List Value} {l : List (List UInt8)}
theorem Body.chg (h : Body w G v x) (hc : Chg F w w') (hd : ∀ k, k < w.heap.size → G k → ¬ F k) : Body w' G v x := by
  obtain ⟨A, c, h1, h2, h3, h4, h5⟩ := h
  exact ⟨A, c, h1, h2, h3, h4, h5.chg hc hd⟩
theorem Body.mono (h : Body w G v x) (hG : ∀ k, k < w.heap.size → G k → H k) : Body w H v x := by
  obtain ⟨A, c, h1, h2, h3, h4, h5⟩ := h
  exact ⟨A, c, h1, h2, h3, h4, h5.mono hG⟩
theorem Bodies.chg : ∀ {vs : List Value} {l : List (List UInt8)}, Bodies w G vs l → Chg F w w' → (∀ k, k < w.heap.size → G k → ¬ F k) → Bodies w' G vs l
  | [], [], _, _, _ => trivial
  | _ :: _, _ :: _, h, hc, hd => ⟨h.1.chg hc hd, Bodies.chg h.2 hc hd⟩
  | [], _ :: _, h, _, _ => h.elim
  | _ :: _, [], h, _, _ => h.elim
theorem Bodies.mono : ∀ {vs : List Value} {l : List (List UInt8)}, Bodies w G vs l → (∀ k, k < w.heap.size → G k → H k) → Bodies w H vs l
  | [], [], _, _ => trivial
  | _ :: _, _ :: _, h, hG => ⟨h.1.mono hG, Bodies.mono h.2 hG⟩
  | [], _ :: _, h, _ => h.elim
  | _ :: _, [], h, _ => h.elim
theorem Bodies.bel (h : Bodies w G vs l) (hb : Below w.heap.size w w') : Bodies w' G vs l := h.chg (F := fun _ => False) (Chg.of_below hb _) (fun _ _ _ e => e)
theorem Bodies.len : ∀ {vs : List Value} {l : List (List UInt8)}, Bodies w G vs l → vs.length = l.length
  | [], [], _ => rfl
  | _ :: _, _ :: _, h => by simp [Bodies.len h.2]
  | [], _ :: _, h => h.elim
  | _ :: _, [], h => h.elim
theorem Bodies.snoc : ∀ {vs : List Value} {l : List (List UInt8)}, Bodies w G vs l → Body w G v x → Bodies w G (vs ++ [v]) (l ++ [x])
  | [], [], _, hx => ⟨hx, trivial⟩
  | _ :: _, _ :: _, h, hx => ⟨h.1, Bodies.snoc h.2 hx⟩
  | [], _ :: _, h, _ => h.elim
  | _ :: _, [], h, _ => h.elim
theorem Bodies.app {vs' : List Value} {l' : List (List UInt8)} : ∀ {vs : List Value} {l : List (List UInt8)}, Bodies w G vs l → Bodies w G vs' l' → Bodies w G (vs ++ vs') (l ++ l')
  | [], [], _, hx => hx
  | _ :: _, _ :: _, h, hx => ⟨h.1, Bodies.app h.2 hx⟩
  | [], _ :: _, h, _ => h.elim
  | _ :: _, [], h, _ => h.elim
theorem Bodies.at_ : ∀ {vs : List Value} {l : List (List UInt8)}, Bodies w G vs l → ∀ {k : Nat} (hk : k < l.length), ∃ v, vs[k]? = some v ∧ Body w G v l[k]
  | [], [], _, k, hk => by simp at hk
  | v :: _, _ :: _, h, 0, hk => ⟨v, rfl, h.1⟩
  | _ :: vs, x :: l, h, k + 1, hk => by
    obtain ⟨v, e, hb⟩ := Bodies.at_ h.2 (k := k) (by simpa using hk)
    exact ⟨v, by simpa using e, by simpa using hb⟩
  | [], _ :: _, h, _, _ => h.elim
  | _ :: _, [], h, _, _ => h.elim
theorem Bodies.of_at : ∀ {vs : List Value} {l : List (List UInt8)}, vs.length = l.length → (∀ k (hk : k < l.length), ∃ v, vs[k]? = some v ∧ Body w G v l[k]) → Bodies w G vs l
  | [], [], _, _ => trivial
  | v :: vs, x :: l, hl, h => ⟨by
      obtain ⟨v', e, hb⟩ := h 0 (by simp)
      simp at e
      subst e
      exact hb, Bodies.of_at (by simpa using hl) fun k hk => by
        obtain ⟨v', e, hb⟩ := h (k + 1) (by simpa using hk)
        exact ⟨v', by simpa using e, by simpa using hb⟩⟩
  | [], _ :: _, hl, _ => by simp at hl
  | _ :: _, [], hl, _ => by simp at hl
theorem Bodies.one (h : Bodies w G vs l) : ∀ u ∈ vs, u.oneCell' = true := by
  intro u hu
  obtain ⟨k, hk, e⟩ := List.mem_iff_getElem.1 hu
  obtain ⟨v, e2, A, c, h1, _⟩ := h.at_ (k := k) (by rw [← h.len]; exact hk)
  rw [List.getElem?_eq_getElem hk, e] at e2
  cases e2
  rw [h1]; rfl
theorem Bodies.drop : ∀ {vs : List Value} {l : List (List UInt8)} (k : Nat), Bodies w G vs l → Bodies w G (vs.drop k) (l.drop k)
  | vs, l, 0, h => h
  | [], [], k + 1, _ => trivial
  | _ :: _, _ :: _, k + 1, h => Bodies.drop k h.2
  | [], _ :: _, _ + 1, h => h.elim
  | _ :: _, [], _ + 1, h => h.elim
theorem Bodies.take : ∀ {vs : List Value} {l : List (List UInt8)} (k : Nat), Bodies w G vs l → Bodies w G (vs.take k) (l.take k)
  | vs, l, 0, h => by simp [Bodies]
  | [], [], k + 1, _ => trivial
  | _ :: _, _ :: _, k + 1, h => ⟨h.1, Bodies.take k h.2⟩
  | [], _ :: _, _ + 1, h => h.elim
  | _ :: _, [], _ + 1, h => h.elim
end

/-- a slice of byte slices that is read -/
def Ls (w : World) (G : Foot) (A : Option Addr) (l : List (List UInt8)) : Prop := ∃ vs, Rg w G 1 A l.length vs ∧ Bodies w G vs l
section
variable {F G H : Foot} {w w' : World} {A : Option Addr} {l : List (List UInt8)}
theorem Ls.chg (h : Ls w G A l) (hc : Chg F w w') (hd : ∀ k, k < w.heap.size → G k → ¬ F k) : Ls w' G A l := by
  obtain ⟨vs, h1, h2⟩ := h
  exact ⟨vs, h1.chg hc hd, h2.chg hc hd⟩
theorem Ls.mono (h : Ls w G A l) (hG : ∀ k, k < w.heap.size → G k → H k) : Ls w H A l := by
  obtain ⟨vs, h1, h2⟩ := h
  exact ⟨vs, h1.mono hG, h2.mono hG⟩
theorem Ls.bel (h : Ls w G A l) (hb : Below w.heap.size w w') : Ls w' G A l := h.chg (F := fun _ => False) (Chg.of_below hb _) (fun _ _ _ e => e)
/-- the k-th: where it lies, and that it reads -/
theorem Ls.at_ (h : Ls w G A l) {k : Nat} (hk : k < l.length) : ∃ b off Ak ck, A = some ⟨b, off, none⟩ ∧ G b ∧ b < w.heap.size ∧ w.cell? ⟨b, off + k, none⟩ = some (.slice Ak l[k].length ck) ∧ (Ak = none → ck = 0) ∧ l[k].length ≤ ck ∧ ck ≤ maxLen ∧ Rg w G 1 Ak l[k].length (bv l[k]) := by
  obtain ⟨vs, h1, h2⟩ := h
  obtain ⟨b, off, e, hb, hl, hc⟩ := h1.2 (by omega)
  obtain ⟨v, e2, Ak, ck, e3, h3, h4, h5, h6⟩ := h2.at_ hk
  subst e3
  exact ⟨b, off, Ak, ck, e, hb, hl, hc k _ e2, h3, h4, h5, h6⟩
theorem Ls.lt (h : Ls w G A l) (hn : 0 < l.length) : ∃ ad, A = some ad ∧ G ad.block ∧ ad.block < w.heap.size := by
  obtain ⟨vs, h1, _⟩ := h
  exact h1.lt hn
end

section
variable {H : Type} {enc : TypeId × Value → H} {P : Program} {w : World} {base : Nat} {held : Bool}
/-- a slice of byte slices that came in -/
theorem open_bodies {r : Reach} {b0 : Nat} {t e q : TypeId} {v : Value} {d : DataW H} {p : List MemPlace} (ht : P.underlying t = some (.slice e)) (he : P.underlying e = some (.slice q)) (hq : P.underlying q = some (.int .u8))
    (ce : P.cellsOf e = 1) (cq : P.cellsOf q = 1) (hv : Value.okWide P w r b0 t v) (h : DataW.Trod enc P w base (fun _ => true) held t v d p) :
    ∃ A c, ∃ l : List (List UInt8), v = .slice A l.length c ∧ (A = none → c = 0) ∧ l.length ≤ c ∧ c ≤ maxLen ∧ Ls w (fun _ => True) A l := by
  obtain ⟨a1, len, cap, rfl⟩ := okWide_slice ht hv
  obtain ⟨fuel, hf⟩ := h
  rcases Go.Deep.open_int_rows ht he hq ce cq hf with ⟨hcs, _⟩ | ⟨a, len', cap', A, L, C, Z, hcs, _, hl, hm, _, hi⟩
  · simp [Value.cells] at hcs
    obtain ⟨rfl, rfl, rfl⟩ := hcs
    exact ⟨none, 0, [], rfl, fun _ => rfl, Nat.le_refl _, Nat.zero_le _, [], Rg.nil _ _ _ _, trivial⟩
  · simp [Value.cells] at hcs
    obtain ⟨rfl, rfl, rfl⟩ := hcs
    let x : Nat → List UInt8 := fun r => ((Z r).take (L r)).map fun n => UInt8.ofNat n.toNat
    have hx : ∀ r, r < cap → (x r).length = L r := fun r hr => by
      obtain ⟨_, h1, _, h2, _⟩ := hi r hr
      simp [x]; omega
    have hlen : ((List.range len).map x).length = len := by simp
    refine ⟨some a, cap, (List.range len).map x, by rw [hlen], (fun h => by cases h), by rw [hlen]; exact hl, hm, (List.range len).map fun r => .slice (A r) (L r) (C r), ?_, ?_⟩
    · rw [hlen]
      refine ⟨by simp, fun hn => ?_⟩
      have h0 := (hi 0 (by omega)).1
      obtain ⟨ab, ao, spot⟩ := a
      have hspot : spot = none := by simpa [Addr.add] using World.cell?_spot h0
      subst hspot
      refine ⟨ab, ao, rfl, trivial, ?_, fun j u hu => ?_⟩
      · have := World.block_lt_of_cell? w _ h0
        simpa [Addr.add] using this
      · rw [List.getElem?_map] at hu
        rcases Nat.lt_or_ge j len with hj | hj
        · rw [List.getElem?_range hj] at hu
          simp at hu
          subst hu
          have := (hi j (by omega)).1
          rwa [Addr.add_lit] at this
        · rw [List.getElem?_eq_none (by simpa using hj)] at hu; cases hu
    · refine Bodies.of_at (by simp) fun k hk => ?_
      have hk' : k < len := by simpa using hk
      obtain ⟨_, h1, h2, h3, h4, h5, h6⟩ := hi k (by omega)
      refine ⟨.slice (A k) (L k) (C k), by rw [List.getElem?_map, List.getElem?_range hk']; rfl, A k, C k, ?_, h5, ?_, h2, ?_⟩
      · simp [hx k (by omega)]
      · simp [hx k (by omega)]; exact h1
      · have e : ((List.range len).map x)[k] = x k := by simp
        rw [e, hx k (by omega)]
        refine ⟨by rw [bv_len, hx k (by omega), Nat.mul_one], fun hn => ?_⟩
        rcases hA : A k with _ | a'
        · have := h5 hA; omega
        · have hc := (h6 a' hA).2
          have hc0 := hc 0 (by omega)
          obtain ⟨ab, ao, spot⟩ := a'
          have hspot : spot = none := by simpa [Addr.add] using World.cell?_spot hc0
          subst hspot
          refine ⟨ab, ao, rfl, trivial, ?_, fun j u hu => ?_⟩
          · have := World.block_lt_of_cell? w _ hc0
            simpa [Addr.add] using this
          · rcases Nat.lt_or_ge j (L k) with hj | hj
            · have hcj := hc j (by omega)
              rw [Addr.add_lit] at hcj
              rw [hcj]
              simp only [bv, x, List.map_map, List.getElem?_map] at hu
              rw [List.getElem?_take_of_lt hj, List.getElem?_eq_getElem (by omega)] at hu
              simp at hu
              rw [← hu]
              have hlz : j < (Z k).length := by omega
              have hw := wf_u8 (h4 _ (List.getElem_mem hlz))
              rw [List.getD_eq_getElem?_getD, List.getElem?_eq_getElem hlz]
              simp
              omega
            · rw [List.getElem?_eq_none (by rw [bv_len, hx k (by omega)]; exact hj)] at hu; cases hu
end
end Go.Proofs.Ythoclemgiopjpaa.foot
