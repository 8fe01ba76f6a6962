/- What slices.Clone, IndexFunc, DeleteFunc do to rows of prefixes. Conditions as each lemma states. What slices.Compact leaves in a row of prefixes of the call's own. Condition: at most 10^9 elements. -/
import Derived.Test.YtbljhjfaimnieaaGreatSortCmp
import Derived.Lib.LazyBuf
import Derived.Lib.SliceRun
import Derived.OwnWalk
namespace Go.Proofs.YtbljhjfaimnieaaGreat.srt
open Go.RowKit Go.Proofs.YtbljhjfaimnieaaGreat.kit Go.Proofs.YtbljhjfaimnieaaGreat.pfx Go.Proofs.YtbljhjfaimnieaaGreat.mem Go.Proofs.YtbljhjfaimnieaaGreat.foot
set_option linter.unusedVariables false
set_option linter.unusedSimpArgs false

/-- prefixes as cells -/
def fv (l : List Pf) : List Value := l.flatMap fun p => [.int .u32 (p.1 : Int), .int .i64 p.2]
theorem fv_len (l : List Pf) : (fv l).length = l.length * 2 := by
  induction l with
  | nil => rfl
  | cons p l ih => simp [fv] at ih ⊢; omega
theorem fv_cons (p : Pf) (l : List Pf) : fv (p :: l) = .int .u32 (p.1 : Int) :: .int .i64 p.2 :: fv l := by simp [fv]
theorem fv_one (l : List Pf) : ∀ u ∈ fv l, u.oneCell' = true := by
  intro u hu
  simp only [fv, List.mem_flatMap] at hu
  obtain ⟨p, _, hu⟩ := hu
  simp at hu
  rcases hu with rfl | rfl <;> rfl
theorem fv_at : ∀ (l : List Pf) (k : Nat) (p : Pf), l[k]? = some p → (fv l)[k * 2]? = some (.int .u32 (p.1 : Int)) ∧ (fv l)[k * 2 + 1]? = some (.int .i64 p.2)
  | x :: l, 0, p, h => by cases h; simp [fv]
  | x :: l, k + 1, p, h => by
    have ih := fv_at l k p (by simpa using h)
    rw [fv_cons, show (k + 1) * 2 = k * 2 + 1 + 1 from by omega, show k * 2 + 1 + 1 + 1 = (k * 2 + 1) + 1 + 1 from rfl]
    simpa using ih
theorem fv_take : ∀ (l : List Pf) (k : Nat), fv (l.take k) = (fv l).take (k * 2)
  | [], k => by simp [fv]
  | x :: l, 0 => by simp [fv]
  | x :: l, k + 1 => by
    rw [List.take_succ_cons, fv_cons, fv_cons, fv_take l k, show (k + 1) * 2 = k * 2 + 1 + 1 from by omega]
    simp
theorem fv_drop : ∀ (l : List Pf) (k : Nat), fv (l.drop k) = (fv l).drop (k * 2)
  | [], k => by simp [fv]
  | x :: l, 0 => by simp [fv]
  | x :: l, k + 1 => by
    rw [List.drop_succ_cons, fv_cons, fv_drop l k, show (k + 1) * 2 = k * 2 + 1 + 1 from by omega]
    simp
theorem fv_set : ∀ (l : List Pf) (k : Nat) (p : Pf), fv (l.set k p) = ((fv l).set (k * 2) (.int .u32 (p.1 : Int))).set (k * 2 + 1) (.int .i64 p.2)
  | [], k, p => by simp [fv]
  | x :: l, 0, p => by simp [fv]
  | x :: l, k + 1, p => by
    rw [List.set_cons_succ, fv_cons, fv_cons, fv_set l k p, show (k + 1) * 2 = k * 2 + 1 + 1 from by omega, show k * 2 + 1 + 1 + 1 = (k * 2 + 1) + 1 + 1 from rfl]
    simp

theorem info_pf : (Tryz.prog.info? 56).map (fun i => (i.zero, i.size, i.bytes)) = some (some (.agg #[.int .u32 0, .int .i64 0]), 2, 16) := by kernel_rfl

/-- a row's elements, as cells -/
theorem own_cells {w : World} {g off n c : Nat} {l : List Pf} (h : foot.Own w 56 2 (some ⟨g, off, none⟩) n c (fv l)) (k : Nat) (p : Pf) (hk : l[k]? = some p) :
    w.cell? ⟨g, off + k * 2, none⟩ = some (.int .u32 (p.1 : Int)) ∧ w.cell? ⟨g, off + k * 2 + 1, none⟩ = some (.int .i64 p.2) := by
  have hlt := (List.getElem?_eq_some_iff.1 hk).1
  have hn : 0 < n := by have := h.1; rw [fv_len] at this; omega
  obtain ⟨b, o, e, _, _, hc⟩ := h.rg.2 hn
  cases e
  obtain ⟨h1, h2⟩ := fv_at l k p hk
  exact ⟨hc _ _ h1, by rw [Nat.add_assoc]; exact hc _ _ h2⟩
theorem own_len {w : World} {A : Option Addr} {n c : Nat} {l : List Pf} (h : foot.Own w 56 2 A n c (fv l)) : l.length = n := by
  have := h.1
  rw [fv_len] at this
  omega
theorem own_set {w : World} {g off n c : Nat} {l : List Pf} (h : foot.Own w 56 2 (some ⟨g, off, none⟩) n c (fv l)) (k : Nat) (hk : k < l.length) (p : Pf) :
    foot.Own ((w.setCell ⟨g, off + k * 2, none⟩ (.int .u32 (p.1 : Int))).setCell ⟨g, off + k * 2 + 1, none⟩ (.int .i64 p.2)) 56 2 (some ⟨g, off, none⟩) n c (fv (l.set k p)) := by
  have hn := own_len h
  rw [fv_set]
  have h1 := h.put (k * 2) (by omega) (.int .u32 (p.1 : Int))
  have h2 := h1.put (k * 2 + 1) (by omega) (.int .i64 p.2)
  rw [← Nat.add_assoc] at h2
  exact h2
theorem own_lt {w : World} {g off n c : Nat} {xs : List Value} (h : foot.Own w 56 2 (some ⟨g, off, none⟩) n c xs) : g < w.heap.size := h.lt g ⟨_, rfl, rfl⟩

theorem own_puts {g off n c : Nat} : ∀ (ys : List Value) (s : Nat) (xs : List Value) (w : World), foot.Own w 56 2 (some ⟨g, off, none⟩) n c xs → s + ys.length ≤ n * 2 →
    ∃ xs', foot.Own (w.setCells g (off + s) ys) 56 2 (some ⟨g, off, none⟩) n c xs' ∧ (∀ k, k ≤ s → xs'.take k = xs.take k) ∧ Chg (fun k => k = g) w (w.setCells g (off + s) ys)
  | [], s, xs, w, h, _ => ⟨xs, h, fun _ _ => rfl, Chg.refl _ _⟩
  | y :: ys, s, xs, w, h, hs => by
    simp only [List.length_cons] at hs
    obtain ⟨xs', h1, h2, h3⟩ := own_puts ys (s + 1) (xs.set s y) _ (h.put s (by omega) y) (by omega)
    refine ⟨xs', h1, fun k hk => ?_, ((Chg.refl (fun k => k = g) w).put (p := ⟨g, off + s, none⟩) (.inl rfl) y).trans h3 fun _ _ e => e⟩
    rw [h2 k (by omega), List.take_set_of_le hk]

/-- clear of the rest -/
theorem run_clear2 {w : World} {g off n c : Nat} {l : List Pf} (h : foot.Own w 56 2 (some ⟨g, off, none⟩) n c (fv l)) (i : Nat) (hi : i < n) (m c2 : Nat) (hm : i + m = n) :
    ∃ w', (∀ ty, (Builtin.clear_ #[38] ty #[.slice (some ⟨g, off + i * 2, none⟩) m c2]).run Tryz.prog w = .ok (.tuple #[]) w') ∧ foot.Own w' 56 2 (some ⟨g, off, none⟩) i c (fv (l.take i)) ∧ Chg (fun k => k = g) w w' := by
  obtain ⟨i0, hi0, hz0, hz1, hz2⟩ := info_parts info_pf
  have hv : ∀ w, (zeroValue 56).run Tryz.prog w = .ok (.agg #[.int .u32 0, .int .i64 0]) w := fun w => by
    simp [zeroValue, typeInfo, hi0, hz0]
  obtain ⟨m', rfl⟩ : ∃ m', m = m' + 1 := ⟨m - 1, by omega⟩
  obtain ⟨Z, hZ⟩ : ∃ Z, Z = (Builtin.zeroCells #[.int .u32 0, .int .i64 0] (m' + 1)).toList := ⟨_, rfl⟩
  have hZl : Z.length = (m' + 1) * 2 := by rw [hZ]; simp [Builtin.zeroCells]
  have hZ1 : ∀ v ∈ Z, v.oneCell' = true := by
    rw [hZ]
    intro v hv
    simp only [Builtin.zeroCells, Array.toList_map, Array.toList_range, List.mem_map, List.mem_range] at hv
    obtain ⟨k, _, rfl⟩ := hv
    rcases (show k % 2 = 0 ∨ k % 2 = 1 from by omega) with e | e <;> simp [e, Value.oneCell']
  have hcell : ∀ j, j < Z.length → (w.cell? ⟨g, off + i * 2 + j, none⟩).isSome = true := fun j hj => by
    obtain ⟨b, o, e, _, _, hc⟩ := h.rg.2 (by omega)
    cases e
    have hlt : i * 2 + j < (fv l).length := by rw [h.1]; omega
    have := hc (i * 2 + j) _ (List.getElem?_eq_getElem hlt)
    rw [← Nat.add_assoc] at this
    rw [this]
    rfl
  have hst := run_storeCells_cells (P := Tryz.prog) g (off + i * 2) Z 0 w (by simpa using hcell) (fun j hj => h.free _) hZ1
  simp only [Nat.add_zero] at hst
  obtain ⟨xs', h1, h2, h3⟩ := own_puts Z (i * 2) (fv l) w h (by omega)
  refine ⟨w.setCells g (off + i * 2) Z, fun ty => ?_, ?_, h3⟩
  · simp [Builtin.clear_, run_underlying Tryz.underlying38, hv, Value.cells]
    rw [← hZ, hst]
    rfl
  · have := h1.take (k := i) (by omega)
    rw [h2 (i * 2) (Nat.le_refl _), ← fv_take] at this
    exact this

theorem Clone_any {G : Foot} (A : Option Addr) (n c : Nat) (l : List Pf) (w : World) (hn : n ≤ 1000000000) (hA : A = none → c = 0) (hl : l.length = n) (h : Rg w G 2 A n (fv l)) :
    Calls Tryz.prog 62 #[.slice A n c] w fun e w' => ∃ A' c', e = .returned (.slice A' n c') ∧ foot.Own w' 56 2 A' n c' (fv l) ∧ (∀ k, sf A' k → w.heap.size ≤ k) ∧ Below w.heap.size w w' := by
  have hq := fun (w : World) (a : Option Addr) (n c : Nat) => Lib.run_eql_slice_nil (P := Tryz.prog) w 38 56 a n c 0 0 Tryz.underlying38
  rcases A with _ | ad
  · have hc := hA rfl
    subst hc
    have hn0 : n = 0 := by
      rcases Nat.eq_zero_or_pos n with h0 | h0
      · exact h0
      · obtain ⟨b, off, e, _⟩ := h.2 h0; cases e
    subst hn0
    have hl0 : l = [] := List.length_eq_zero_iff.1 hl
    subst hl0
    clear h hA hl
    go_enter Tryz.func62, Tryz.ntmps62
    go_wp2
    go_ret
    exact ⟨none, 0, rfl, foot.Own.none_ _ _ _, fun k hk => absurd hk (sf_none k), Below.refl _ _⟩
  · obtain ⟨i0, hi, hz0, hz1, hz2⟩ := info_parts info_pf
    have HR := Lib.hid (h.bel ((Below.refl _ _).alloc (Nat.le_refl _) (.cells #[] 56)))
    have HO : Hid (foot.Own (w.alloc (.cells #[] 56)) 56 2 (some ⟨w.heap.size, 0, none⟩) 0 0 []) := foot.Own.made w _ 2 0 0 #[] [] (Nat.le_refl _) (Nat.zero_le _) rfl rfl rfl
    have HB : Hid (Below w.heap.size w (w.alloc (.cells #[] 56))) := (Below.refl _ _).alloc (Nat.le_refl _) _
    clear h hA
    go_enter Tryz.func62, Tryz.ntmps62
    go_wp2_with (at_builtin; refine wpList_app _ rfl (.tmp 5) (.tmp 6) _ rfl 56 i0 _ 2 16 Tryz.underlying38 hi hz0 hz1 hz2 rfl (by omega) (some ⟨w.heap.size, 0, none⟩) 0 0 [] rfl HO.out _ (some ad) n c (by intro h; cases h) (fv l) rfl HR.out (fv_one l) (by unfold maxLen; omega) (by omega) ?_; intro A4 c4 w4 ho4 hc4 hf4; have H4 := Lib.hid (And.intro ho4 (And.intro hc4 hf4)); clear ho4 hc4 hf4)
    go_ret
    obtain ⟨ho4, hc4, hf4⟩ := H4.out
    refine ⟨A4, c4, by simp, by simpa using ho4, fun k hk => ?_, HB.out.trans (hc4.below (fun k hk => ?_) (by simp))⟩
    · rcases hf4 k hk with g | g
      · obtain ⟨ad, e, rfl⟩ := g; cases e; exact Nat.le_refl _
      · have : w.heap.size + 1 ≤ k := by simpa using g
        omega
    · obtain ⟨ad, e, rfl⟩ := hk; cases e; exact Nat.le_refl _
end Go.Proofs.YtbljhjfaimnieaaGreat.srt

namespace Go.Proofs.YtbljhjfaimnieaaGreat.srt
open Go.RowKit Go.Proofs.YtbljhjfaimnieaaGreat.kit Go.Proofs.YtbljhjfaimnieaaGreat.pfx Go.Proofs.YtbljhjfaimnieaaGreat.mem Go.Proofs.YtbljhjfaimnieaaGreat.foot
set_option linter.unusedVariables false
set_option linter.unusedSimpArgs false

theorem once_step {l : List Pf} {j : Nat} {x y : Pf} (hx : l[j + 1]? = some x) (hy : l[j]? = some y) : once (l.take (j + 1 + 1)) = if x = y then once (l.take (j + 1)) else once (l.take (j + 1)) ++ [x] := by
  have e : l.take (j + 1 + 1) = l.take (j + 1) ++ [x] := by rw [List.take_add_one, hx]; rfl
  have hl : (l.take (j + 1)).getLast? = some y := by
    rw [List.take_add_one, hy]
    simp
  rw [e, once_snoc, hl]
  by_cases h : x = y
  · rw [if_pos (by rw [h]), if_pos h]
  · rw [if_neg (by intro e; exact h (Option.some.inj e).symm), if_neg h]
theorem once_one {l : List Pf} : once (l.take 1) = l.take 1 := by
  rcases l with _ | ⟨x, l⟩
  · rfl
  · rfl
structure CI (l : List Pf) (k j : Nat) (r : List Pf) : Prop where
  lt : k < j
  front : r.take k = once (l.take j)
  back : ∀ t, j ≤ t + 1 → r[t]? = l[t]?
theorem CI.keep {l r : List Pf} {k j : Nat} {x y : Pf} (h : CI l k (j + 1) r) (hx : l[j + 1]? = some x) (hy : l[j]? = some y) (hne : x ≠ y) (hr : r.length = l.length) : CI l (k + 1) (j + 1 + 1) (r.set k x) := by
  have hj := (List.getElem?_eq_some_iff.1 hx).1
  have hlt := h.lt
  refine ⟨by omega, ?_, fun t ht => ?_⟩
  · rw [once_step hx hy, if_neg hne, ← h.front, List.take_add_one, List.take_set_of_le (Nat.le_refl k)]
    simp [List.getElem?_set]
    omega
  · rw [List.getElem?_set_ne (by omega)]
    exact h.back t (by omega)
theorem CI.skip {l r : List Pf} {k j : Nat} {x y : Pf} (h : CI l k (j + 1) r) (hx : l[j + 1]? = some x) (hy : l[j]? = some y) (he : x = y) : CI l k (j + 1 + 1) r := by
  have hlt := h.lt
  exact ⟨by omega, by rw [once_step hx hy, if_pos he, ← h.front], fun t ht => h.back t (by omega)⟩

set_option maxHeartbeats 4000000 in
theorem Compact_any {A : Option Addr} {n c : Nat} {l : List Pf} {w : World} (hn : n ≤ 1000000000) (ho : foot.Own w 56 2 A n c (fv l)) :
    Calls Tryz.prog 69 #[.slice A n c] w fun e w' => e = .returned (.slice A (once l).length c) ∧ foot.Own w' 56 2 A (once l).length c (fv (once l)) ∧ Chg (sf A) w w' := by
  have hl := own_len ho
  have HO := Lib.hid ho
  have HL := Lib.hid hl
  by_cases h2 : n < 2
  · have HE : Hid (once l = l) := by
      rcases l with _ | ⟨x, _ | ⟨y, l⟩⟩
      · rfl
      · rfl
      · simp at hl; omega
    clear ho hl
    go_enter Tryz.func69, Tryz.ntmps69
    go_wp2_with fail
    go_ret
    rw [HE.out, HL.out]
    exact ⟨rfl, HO.out, Chg.refl _ _⟩
  · obtain ⟨b, off, rfl⟩ : ∃ b off, A = some ⟨b, off, none⟩ := by
      obtain ⟨b, off, e, _⟩ := ho.rg.2 (by omega)
      exact ⟨b, off, e⟩
    clear ho hl
    go_enter Tryz.func69, Tryz.ntmps69
    go_wp2_with fail
    go_loopw [3, 4, 5] (fun v3 _ _ wr => ∃ (q m : Nat), q + 1 ≤ n ∧ v3 = .int .i64 ((q + 1 : Nat) : Int) ∧ once (l.take (q + 1)) = l.take (q + 1) ∧ wr = w.drewN m) (fun v3 _ _ _ => n - (intOf v3).toNat)
    case atStart => exact ⟨0, 0, by omega, rfl, once_one, rfl⟩
    case round =>
      obtain ⟨q, m, hq, rfl, hon, rfl⟩ := hrel
      have HOn := Lib.hid hon
      clear hon
      by_cases hlt : q + 1 < n
      · obtain ⟨x, hx⟩ : ∃ x, l[q + 1]? = some x := ⟨l[q + 1]'(by have := HL.out; omega), List.getElem?_eq_getElem _⟩
        obtain ⟨y, hy⟩ : ∃ y, l[q]? = some y := ⟨l[q]'(by have := HL.out; omega), List.getElem?_eq_getElem _⟩
        have cx := own_cells HO.out (q + 1) x hx
        have cy := own_cells HO.out q y hy
        have x0 := cx.1
        have x1 := cx.2
        have y0 := cy.1
        have y1 := cy.2
        have HX := Lib.hid hx
        have HY := Lib.hid hy
        clear cx cy hx hy
        have d1 : ((q + 1 : Nat) : Int) < (n : Int) := by omega
        by_cases hxy : x = y
        · subst hxy
          have hcap := HO.out.cap
          have hcne : ¬ c = q + 1 := by omega
          go_wp2_with fail
          go_quiet (fail)
          go_wp2_with fail
          have hCI : CI l (q + 1) (q + 1 + 1) l := ⟨by omega, by rw [once_step HX.out HY.out, if_pos rfl, HOn.out], fun _ _ => rfl⟩
          have HCI := Lib.hid hCI
          clear hCI x0 x1 y0 y1 d1
          go_loopw [3, 5] (fun v3 v5 wr => ∃ (k i : Nat) (r : List Pf), q + 1 + (i + 1) ≤ n ∧ v3 = .int .i64 k ∧ v5 = .int .i64 ((i + 1 : Nat) : Int) ∧ CI l k (q + 1 + i + 1) r ∧ foot.Own wr 56 2 (some ⟨b, off, none⟩) n c (fv r) ∧ Chg (sf (some ⟨b, off, none⟩)) w wr) (fun _ v5 _ => n - (intOf v5).toNat)
          case atStart => exact ⟨q + 1, 0, l, by omega, by go_num, rfl, HCI.out, HO.out.bel (below_drewN (Below.refl _ _) _), Chg.of_below (below_drewN (Below.refl _ _) _) _⟩
          case round =>
            obtain ⟨k, i, r, hi, rfl, rfl, hci, hor, hcr⟩ := hrel
            have HR := Lib.hid (And.intro hci (And.intro hor hcr))
            have hk := hci.lt
            have HRl := Lib.hid (own_len hor)
            clear hci hor hcr
            by_cases hlt2 : q + 1 + (i + 1) < n
            · obtain ⟨z, hz⟩ : ∃ z, l[q + 1 + i + 1]? = some z := ⟨l[q + 1 + i + 1]'(by have := HL.out; omega), List.getElem?_eq_getElem _⟩
              obtain ⟨y, hy⟩ : ∃ y, l[q + 1 + i]? = some y := ⟨l[q + 1 + i]'(by have := HL.out; omega), List.getElem?_eq_getElem _⟩
              have cz := own_cells HR.out.2.1 (q + 1 + i + 1) z (by rw [HR.out.1.back _ (by omega)]; exact hz)
              have cy := own_cells HR.out.2.1 (q + 1 + i) y (by rw [HR.out.1.back _ (by omega)]; exact hy)
              rw [show off + (q + 1 + i + 1) * 2 = off + (q + 1) * 2 + (i + 1) * 2 from by omega] at cz
              rw [show off + (q + 1 + i) * 2 = off + (q + 1) * 2 + i * 2 from by omega] at cy
              have z0 := cz.1
              have z1 := cz.2
              have y0 := cy.1
              have y1 := cy.2
              have HZ := Lib.hid hz
              have HY2 := Lib.hid hy
              clear cz cy hz hy
              have d2 : ((i + 1 : Nat) : Int) < ((n - (q + 1) : Nat) : Int) := by omega
              by_cases hzy : z = y
              · subst hzy
                go_wp2_with fail
                go_quiet (fail)
                go_wp2_with fail
                go_roundw
                case rel => exact ⟨k, i + 1, r, by omega, rfl, by go_num, HR.out.1.skip HZ.out HY2.out rfl, HR.out.2.1.bel (below_drewN (Below.refl _ _) _), HR.out.2.2.trans (Chg.of_below (below_drewN (Below.refl _ _) _) _) fun _ _ e => e⟩
                case measure => simp [intOf]; omega
              · have HNe := Lib.hid hzy
                have q0 := (own_cells HR.out.2.1 k (r[k]'(by have := HRl.out; omega)) (List.getElem?_eq_getElem _)).1
                have q1 := (own_cells HR.out.2.1 k (r[k]'(by have := HRl.out; omega)) (List.getElem?_eq_getElem _)).2
                have qf := fun t => HR.out.2.1.free t
                have ql := own_lt HR.out.2.1
                have d3 : (k : Int) < (n : Int) := by omega
                rcases (show z.1 ≠ y.1 ∨ (z.1 = y.1 ∧ z.2 ≠ y.2) from by
                  rcases Nat.decEq z.1 y.1 with h | h
                  · exact .inl h
                  · exact .inr ⟨h, fun h2 => hzy (Prod.ext h h2)⟩) with h | ⟨h, h'⟩
                case' inl =>
                  have e1 : ((z.1 : Int) == (y.1 : Int)) = false := by rw [beq_eq_false_iff_ne]; omega
                case' inr =>
                  have e0 : (z.1 : Int) = (y.1 : Int) := by rw [h]
                  have e1 : (z.2 == y.2) = false := by rw [beq_eq_false_iff_ne]; exact h'
                  have HZ0 := Lib.hid e0
                all_goals
                  clear hzy
                  go_wp2_with fail
                  go_quiet (fail)
                  go_wp2_with fail
                  have hset := own_set (HR.out.2.1.bel (below_drewN (Below.refl wr.heap.size wr) nq)) k (by have := HRl.out; omega) z
                  have hchg := ((HR.out.2.2.drewN nq).put (p := ⟨b, off + k * 2, none⟩) (.inl ⟨_, rfl, rfl⟩) (.int .u32 (z.1 : Int))).put (p := ⟨b, off + k * 2 + 1, none⟩) (.inl ⟨_, rfl, rfl⟩) (.int .i64 z.2)
                  try rw [HZ0.out] at hset hchg
                  have HSet := Lib.hid (And.intro hset hchg)
                  clear hset hchg
                  go_roundw
                  case rel => exact ⟨k + 1, i + 1, r.set k z, by omega, by go_num, by go_num, HR.out.1.keep HZ.out HY2.out HNe.out (by rw [HRl.out, HL.out]), HSet.out.1, HSet.out.2⟩
                  case measure => simp [intOf]; omega
            · have hin : q + 1 + (i + 1) = n := by omega
              have d2 : ¬ ((i + 1 : Nat) : Int) < ((n - (q + 1) : Nat) : Int) := by omega
              have hkn : k < n := by omega
              have hck : ¬ c = k := by omega
              have hcl := run_clear2 HR.out.2.1 k hkn (n - k) (c - k) (by omega)
              obtain ⟨w9, hrun, ho9, hc9⟩ := hcl
              have H9 := Lib.hid (And.intro ho9 hc9)
              have HIn := Lib.hid hin
              clear ho9 hc9 hin
              go_wp2_with fail
              go_ret
              have e2 : r.take k = once l := by
                have h := HR.out.1.front
                rwa [List.take_of_length_le (l := l) (by rw [HL.out]; have := HIn.out; omega)] at h
              have e3 : (once l).length = k := by rw [← e2, List.length_take]; have := HRl.out; omega
              obtain ⟨ho9, hc9⟩ := H9.out
              rw [e2] at ho9
              rw [e3]
              exact ⟨rfl, ho9, HR.out.2.2.trans hc9 fun _ _ e => ⟨_, rfl, e.symm⟩⟩
        · have HNe := Lib.hid hxy
          rcases (show x.1 ≠ y.1 ∨ (x.1 = y.1 ∧ x.2 ≠ y.2) from by
            rcases Nat.decEq x.1 y.1 with h | h
            · exact .inl h
            · exact .inr ⟨h, fun h2 => hxy (Prod.ext h h2)⟩) with h | ⟨h, h'⟩
          case' inl =>
            have e1 : ((x.1 : Int) == (y.1 : Int)) = false := by rw [beq_eq_false_iff_ne]; omega
          case' inr =>
            have e0 : (x.1 : Int) = (y.1 : Int) := by rw [h]
            have e1 : (x.2 == y.2) = false := by rw [beq_eq_false_iff_ne]; exact h'
          all_goals
            clear hxy
            go_wp2_with fail
            go_quiet (fail)
            go_wp2_with fail
            go_roundw
            case rel =>
              refine ⟨q + 1, _, by omega, by go_num, ?_, rfl⟩
              rw [once_step HX.out HY.out, if_neg HNe.out, HOn.out, List.take_add_one (i := q + 1), HX.out]
              rfl
            case measure => simp [intOf]; omega
      · have hqn : q + 1 = n := by omega
        have HE : Hid (once l = l) := by
          have h := HOn.out
          rwa [List.take_of_length_le (by rw [HL.out]; omega)] at h
        have d1 : ¬ ((q + 1 : Nat) : Int) < (n : Int) := by omega
        have HQ := Lib.hid hqn
        clear hqn
        go_wp2_with fail
        go_ret
        rw [HE.out, HL.out]
        exact ⟨rfl, HO.out.bel (below_drewN (Below.refl _ _) _), Chg.of_below (below_drewN (Below.refl _ _) _) _⟩
end Go.Proofs.YtbljhjfaimnieaaGreat.srt
