/- What slices.Clone, IndexFunc, DeleteFunc do to rows of prefixes. Conditions as each lemma states. -/
import Derived.Test.YtajilbapjpfloaaSortCmp
import Derived.Lib.LazyBuf
import Derived.Lib.SliceRun
import Derived.OwnWalk
namespace Go.Proofs.Ytajilbapjpfloaa.srt
open Go.RowKit Go.Proofs.Ytajilbapjpfloaa.kit Go.Proofs.Ytajilbapjpfloaa.pfx Go.Proofs.Ytajilbapjpfloaa.mem Go.Proofs.Ytajilbapjpfloaa.foot
set_option linter.unusedVariables false
set_option linter.unusedSimpArgs false

/-- prefixes as cells -/
def fv (l : List Pf) : List Value := l.flatMap fun p => [.int .u32 (p.1 : Int), .int .i64 p.2]
theorem fv_len (l : List Pf) : (fv l).length = l.length * 2 := by
  induction l with
  | nil => rfl
  | cons p l ih => simp [fv] at ih ⊢; omega
theorem fv_cons (p : Pf) (l : List Pf) : fv (p :: l) = .int .u32 (p.1 : Int) :: .int .i64 p.2 :: fv l := by simp [fv]
theorem fv_app (l r : List Pf) : fv (l ++ r) = fv l ++ fv r := by simp [fv]
theorem fv_one (l : List Pf) : ∀ u ∈ fv l, u.oneCell' = true := by
  intro u hu
  simp only [fv, List.mem_flatMap] at hu
  obtain ⟨p, _, hu⟩ := hu
  simp at hu
  rcases hu with rfl | rfl <;> rfl
theorem fv_at : ∀ (l : List Pf) (k : Nat) (p : Pf), l[k]? = some p → (fv l)[k * 2]? = some (.int .u32 (p.1 : Int)) ∧ (fv l)[k * 2 + 1]? = some (.int .i64 p.2)
  | x :: l, 0, p, h => by cases h; simp [fv]
  | x :: l, k + 1, p, h => by
    have ih := fv_at l k p (by simpa using h)
    rw [fv_cons, show (k + 1) * 2 = k * 2 + 1 + 1 from by omega, show k * 2 + 1 + 1 + 1 = (k * 2 + 1) + 1 + 1 from rfl]
    simpa using ih
theorem fv_take : ∀ (l : List Pf) (k : Nat), fv (l.take k) = (fv l).take (k * 2)
  | [], k => by simp [fv]
  | x :: l, 0 => by simp [fv]
  | x :: l, k + 1 => by
    rw [List.take_succ_cons, fv_cons, fv_cons, fv_take l k, show (k + 1) * 2 = k * 2 + 1 + 1 from by omega]
    simp
theorem fv_drop : ∀ (l : List Pf) (k : Nat), fv (l.drop k) = (fv l).drop (k * 2)
  | [], k => by simp [fv]
  | x :: l, 0 => by simp [fv]
  | x :: l, k + 1 => by
    rw [List.drop_succ_cons, fv_cons, fv_drop l k, show (k + 1) * 2 = k * 2 + 1 + 1 from by omega]
    simp
theorem fv_set : ∀ (l : List Pf) (k : Nat) (p : Pf), fv (l.set k p) = ((fv l).set (k * 2) (.int .u32 (p.1 : Int))).set (k * 2 + 1) (.int .i64 p.2)
  | [], k, p => by simp [fv]
  | x :: l, 0, p => by simp [fv]
  | x :: l, k + 1, p => by
    rw [List.set_cons_succ, fv_cons, fv_cons, fv_set l k p, show (k + 1) * 2 = k * 2 + 1 + 1 from by omega, show k * 2 + 1 + 1 + 1 = (k * 2 + 1) + 1 + 1 from rfl]
    simp

theorem info_pf : (Try.prog.info? 69).map (fun i => (i.zero, i.size, i.bytes)) = some (some (.agg #[.int .u32 0, .int .i64 0]), 2, 16) := by kernel_rfl

/-- a row's elements, as cells -/
theorem own_cells {w : World} {g off n c : Nat} {l : List Pf} (h : Own w 69 2 (some ⟨g, off, none⟩) n c (fv l)) (k : Nat) (p : Pf) (hk : l[k]? = some p) :
    w.cell? ⟨g, off + k * 2, none⟩ = some (.int .u32 (p.1 : Int)) ∧ w.cell? ⟨g, off + k * 2 + 1, none⟩ = some (.int .i64 p.2) := by
  have hlt := (List.getElem?_eq_some_iff.1 hk).1
  have hn : 0 < n := by have := h.1; rw [fv_len] at this; omega
  obtain ⟨b, o, e, _, _, hc⟩ := h.rg.2 hn
  cases e
  obtain ⟨h1, h2⟩ := fv_at l k p hk
  exact ⟨hc _ _ h1, by rw [Nat.add_assoc]; exact hc _ _ h2⟩
theorem own_len {w : World} {A : Option Addr} {n c : Nat} {l : List Pf} (h : Own w 69 2 A n c (fv l)) : l.length = n := by
  have := h.1
  rw [fv_len] at this
  omega
theorem own_set {w : World} {g off n c : Nat} {l : List Pf} (h : Own w 69 2 (some ⟨g, off, none⟩) n c (fv l)) (k : Nat) (hk : k < l.length) (p : Pf) :
    Own ((w.setCell ⟨g, off + k * 2, none⟩ (.int .u32 (p.1 : Int))).setCell ⟨g, off + k * 2 + 1, none⟩ (.int .i64 p.2)) 69 2 (some ⟨g, off, none⟩) n c (fv (l.set k p)) := by
  have hn := own_len h
  rw [fv_set]
  have h1 := h.put (k * 2) (by omega) (.int .u32 (p.1 : Int))
  have h2 := h1.put (k * 2 + 1) (by omega) (.int .i64 p.2)
  rw [← Nat.add_assoc] at h2
  exact h2
theorem own_lt {w : World} {g off n c : Nat} {xs : List Value} (h : Own w 69 2 (some ⟨g, off, none⟩) n c xs) : g < w.heap.size := h.lt g ⟨_, rfl, rfl⟩

theorem own_puts {g off n c : Nat} : ∀ (ys : List Value) (s : Nat) (xs : List Value) (w : World), Own w 69 2 (some ⟨g, off, none⟩) n c xs → s + ys.length ≤ n * 2 →
    ∃ xs', Own (w.setCells g (off + s) ys) 69 2 (some ⟨g, off, none⟩) n c xs' ∧ (∀ k, k ≤ s → xs'.take k = xs.take k) ∧ Chg (fun k => k = g) w (w.setCells g (off + s) ys)
  | [], s, xs, w, h, _ => ⟨xs, h, fun _ _ => rfl, Chg.refl _ _⟩
  | y :: ys, s, xs, w, h, hs => by
    simp only [List.length_cons] at hs
    obtain ⟨xs', h1, h2, h3⟩ := own_puts ys (s + 1) (xs.set s y) _ (h.put s (by omega) y) (by omega)
    refine ⟨xs', h1, fun k hk => ?_, ((Chg.refl (fun k => k = g) w).put (p := ⟨g, off + s, none⟩) (.inl rfl) y).trans h3 fun _ _ e => e⟩
    rw [h2 k (by omega), List.take_set_of_le hk]

/-- clear of the rest -/
theorem run_clear2 {w : World} {g off n c : Nat} {l : List Pf} (h : Own w 69 2 (some ⟨g, off, none⟩) n c (fv l)) (i : Nat) (hi : i < n) (m c2 : Nat) (hm : i + m = n) :
    ∃ w', (∀ ty, (Builtin.clear_ #[62] ty #[.slice (some ⟨g, off + i * 2, none⟩) m c2]).run Try.prog w = .ok (.tuple #[]) w') ∧ Own w' 69 2 (some ⟨g, off, none⟩) i c (fv (l.take i)) ∧ Chg (fun k => k = g) w w' := by
  obtain ⟨i0, hi0, hz0, hz1, hz2⟩ := info_parts info_pf
  have hv : ∀ w, (zeroValue 69).run Try.prog w = .ok (.agg #[.int .u32 0, .int .i64 0]) w := fun w => by
    simp [zeroValue, typeInfo, hi0, hz0]
  obtain ⟨m', rfl⟩ : ∃ m', m = m' + 1 := ⟨m - 1, by omega⟩
  obtain ⟨Z, hZ⟩ : ∃ Z, Z = (Builtin.zeroCells #[.int .u32 0, .int .i64 0] (m' + 1)).toList := ⟨_, rfl⟩
  have hZl : Z.length = (m' + 1) * 2 := by rw [hZ]; simp [Builtin.zeroCells]
  have hZ1 : ∀ v ∈ Z, v.oneCell' = true := by
    rw [hZ]
    intro v hv
    simp only [Builtin.zeroCells, Array.toList_map, Array.toList_range, List.mem_map, List.mem_range] at hv
    obtain ⟨k, _, rfl⟩ := hv
    rcases (show k % 2 = 0 ∨ k % 2 = 1 from by omega) with e | e <;> simp [e, Value.oneCell']
  have hcell : ∀ j, j < Z.length → (w.cell? ⟨g, off + i * 2 + j, none⟩).isSome = true := fun j hj => by
    obtain ⟨b, o, e, _, _, hc⟩ := h.rg.2 (by omega)
    cases e
    have hlt : i * 2 + j < (fv l).length := by rw [h.1]; omega
    have := hc (i * 2 + j) _ (List.getElem?_eq_getElem hlt)
    rw [← Nat.add_assoc] at this
    rw [this]
    rfl
  have hst := run_storeCells_cells (P := Try.prog) g (off + i * 2) Z 0 w (by simpa using hcell) (fun j hj => h.free _) hZ1
  simp only [Nat.add_zero] at hst
  obtain ⟨xs', h1, h2, h3⟩ := own_puts Z (i * 2) (fv l) w h (by omega)
  refine ⟨w.setCells g (off + i * 2) Z, fun ty => ?_, ?_, h3⟩
  · simp [Builtin.clear_, run_underlying Try.underlying62, hv, Value.cells]
    rw [← hZ, hst]
    rfl
  · have := h1.take (k := i) (by omega)
    rw [h2 (i * 2) (Nat.le_refl _), ← fv_take] at this
    exact this

theorem Clone_any {G : Foot} (A : Option Addr) (n c : Nat) (l : List Pf) (w : World) (hn : n ≤ 1000000000) (hA : A = none → c = 0) (hl : l.length = n) (h : Rg w G 2 A n (fv l)) :
    Calls Try.prog 79 #[.slice A n c] w fun e w' => ∃ A' c', e = .returned (.slice A' n c') ∧ Own w' 69 2 A' n c' (fv l) ∧ (∀ k, sf A' k → w.heap.size ≤ k) ∧ Below w.heap.size w w' := by
  have hq := fun (w : World) (a : Option Addr) (n c : Nat) => Lib.run_eql_slice_nil (P := Try.prog) w 62 69 a n c 0 0 Try.underlying62
  rcases A with _ | ad
  · have hc := hA rfl
    subst hc
    have hn0 : n = 0 := by
      rcases Nat.eq_zero_or_pos n with h0 | h0
      · exact h0
      · obtain ⟨b, off, e, _⟩ := h.2 h0; cases e
    subst hn0
    have hl0 : l = [] := List.length_eq_zero_iff.1 hl
    subst hl0
    clear h hA hl
    go_enter Try.func79, Try.ntmps79
    go_wp2
    go_ret
    exact ⟨none, 0, rfl, Own.none_ _ _ _, fun k hk => absurd hk (sf_none k), Below.refl _ _⟩
  · obtain ⟨i0, hi, hz0, hz1, hz2⟩ := info_parts info_pf
    have HR := Lib.hid (h.bel ((Below.refl _ _).alloc (Nat.le_refl _) (.cells #[] 69)))
    have HO : Hid (Own (w.alloc (.cells #[] 69)) 69 2 (some ⟨w.heap.size, 0, none⟩) 0 0 []) := Own.made w _ 2 0 0 #[] [] (Nat.le_refl _) (Nat.zero_le _) rfl rfl rfl
    have HB : Hid (Below w.heap.size w (w.alloc (.cells #[] 69))) := (Below.refl _ _).alloc (Nat.le_refl _) _
    clear h hA
    go_enter Try.func79, Try.ntmps79
    go_wp2_with (at_builtin; refine wpList_app _ rfl (.tmp 5) (.tmp 6) _ rfl 69 i0 _ 2 16 Try.underlying62 hi hz0 hz1 hz2 rfl (by omega) (some ⟨w.heap.size, 0, none⟩) 0 0 [] rfl HO.out _ (some ad) n c (by intro h; cases h) (fv l) rfl HR.out (fv_one l) (by unfold maxLen; omega) (by omega) ?_; intro A4 c4 w4 ho4 hc4 hf4; have H4 := Lib.hid (And.intro ho4 (And.intro hc4 hf4)); clear ho4 hc4 hf4)
    go_ret
    obtain ⟨ho4, hc4, hf4⟩ := H4.out
    refine ⟨A4, c4, by simp, by simpa using ho4, fun k hk => ?_, HB.out.trans (hc4.below (fun k hk => ?_) (by simp))⟩
    · rcases hf4 k hk with g | g
      · obtain ⟨ad, e, rfl⟩ := g; cases e; exact Nat.le_refl _
      · have : w.heap.size + 1 ≤ k := by simpa using g
        omega
    · obtain ⟨ad, e, rfl⟩ := hk; cases e; exact Nat.le_refl _
end Go.Proofs.Ytajilbapjpfloaa.srt
