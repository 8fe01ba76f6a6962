/- What slices.Compact leaves in a row of prefixes of the call's own. Condition: at most 10^9 elements. -/
import Derived.Test.YtajilbapjpfloaaSortOps
namespace Go.Proofs.Ytajilbapjpfloaa.srt
open Go.RowKit Go.Proofs.Ytajilbapjpfloaa.kit Go.Proofs.Ytajilbapjpfloaa.pfx Go.Proofs.Ytajilbapjpfloaa.mem Go.Proofs.Ytajilbapjpfloaa.foot
set_option linter.unusedVariables false
set_option linter.unusedSimpArgs false

theorem once_step {l : List Pf} {j : Nat} {x y : Pf} (hx : l[j + 1]? = some x) (hy : l[j]? = some y) : once (l.take (j + 1 + 1)) = if x = y then once (l.take (j + 1)) else once (l.take (j + 1)) ++ [x] := by
  have e : l.take (j + 1 + 1) = l.take (j + 1) ++ [x] := by rw [List.take_add_one, hx]; rfl
  have hl : (l.take (j + 1)).getLast? = some y := by
    rw [List.take_add_one, hy]
    simp
  rw [e, once_snoc, hl]
  by_cases h : x = y
  · rw [if_pos (by rw [h]), if_pos h]
  · rw [if_neg (by intro e; exact h (Option.some.inj e).symm), if_neg h]
theorem once_one {l : List Pf} : once (l.take 1) = l.take 1 := by
  rcases l with _ | ⟨x, l⟩
  · rfl
  · rfl
structure CI (l : List Pf) (k j : Nat) (r : List Pf) : Prop where
  lt : k < j
  front : r.take k = once (l.take j)
  back : ∀ t, j ≤ t + 1 → r[t]? = l[t]?
theorem CI.keep {l r : List Pf} {k j : Nat} {x y : Pf} (h : CI l k (j + 1) r) (hx : l[j + 1]? = some x) (hy : l[j]? = some y) (hne : x ≠ y) (hr : r.length = l.length) : CI l (k + 1) (j + 1 + 1) (r.set k x) := by
  have hj := (List.getElem?_eq_some_iff.1 hx).1
  have hlt := h.lt
  refine ⟨by omega, ?_, fun t ht => ?_⟩
  · rw [once_step hx hy, if_neg hne, ← h.front, List.take_add_one, List.take_set_of_le (Nat.le_refl k)]
    simp [List.getElem?_set]
    omega
  · rw [List.getElem?_set_ne (by omega)]
    exact h.back t (by omega)
theorem CI.skip {l r : List Pf} {k j : Nat} {x y : Pf} (h : CI l k (j + 1) r) (hx : l[j + 1]? = some x) (hy : l[j]? = some y) (he : x = y) : CI l k (j + 1 + 1) r := by
  have hlt := h.lt
  exact ⟨by omega, by rw [once_step hx hy, if_pos he, ← h.front], fun t ht => h.back t (by omega)⟩

set_option maxHeartbeats 4000000 in
theorem Compact_any {A : Option Addr} {n c : Nat} {l : List Pf} {w : World} (hn : n ≤ 1000000000) (ho : Own w 69 2 A n c (fv l)) :
    Calls Try.prog 83 #[.slice A n c] w fun e w' => e = .returned (.slice A (once l).length c) ∧ Own w' 69 2 A (once l).length c (fv (once l)) ∧ Chg (sf A) w w' := by
  have hl := own_len ho
  have HO := Lib.hid ho
  have HL := Lib.hid hl
  by_cases h2 : n < 2
  · have HE : Hid (once l = l) := by
      rcases l with _ | ⟨x, _ | ⟨y, l⟩⟩
      · rfl
      · rfl
      · simp at hl; omega
    clear ho hl
    go_enter Try.func83, Try.ntmps83
    go_wp2_with fail
    go_ret
    rw [HE.out, HL.out]
    exact ⟨rfl, HO.out, Chg.refl _ _⟩
  · obtain ⟨b, off, rfl⟩ : ∃ b off, A = some ⟨b, off, none⟩ := by
      obtain ⟨b, off, e, _⟩ := ho.rg.2 (by omega)
      exact ⟨b, off, e⟩
    clear ho hl
    go_enter Try.func83, Try.ntmps83
    go_wp2_with fail
    go_loopw [3, 4, 5] (fun v3 _ _ wr => ∃ (q m : Nat), q + 1 ≤ n ∧ v3 = .int .i64 ((q + 1 : Nat) : Int) ∧ once (l.take (q + 1)) = l.take (q + 1) ∧ wr = w.drewN m) (fun v3 _ _ _ => n - (intOf v3).toNat)
    case atStart => exact ⟨0, 0, by omega, rfl, once_one, rfl⟩
    case round =>
      obtain ⟨q, m, hq, rfl, hon, rfl⟩ := hrel
      have HOn := Lib.hid hon
      clear hon
      by_cases hlt : q + 1 < n
      · obtain ⟨x, hx⟩ : ∃ x, l[q + 1]? = some x := ⟨l[q + 1]'(by have := HL.out; omega), List.getElem?_eq_getElem _⟩
        obtain ⟨y, hy⟩ : ∃ y, l[q]? = some y := ⟨l[q]'(by have := HL.out; omega), List.getElem?_eq_getElem _⟩
        have cx := own_cells HO.out (q + 1) x hx
        have cy := own_cells HO.out q y hy
        have x0 := cx.1
        have x1 := cx.2
        have y0 := cy.1
        have y1 := cy.2
        have HX := Lib.hid hx
        have HY := Lib.hid hy
        clear cx cy hx hy
        have d1 : ((q + 1 : Nat) : Int) < (n : Int) := by omega
        by_cases hxy : x = y
        · subst hxy
          have hcap := HO.out.cap
          have hcne : ¬ c = q + 1 := by omega
          go_wp2_with fail
          go_quiet (fail)
          go_wp2_with fail
          have hCI : CI l (q + 1) (q + 1 + 1) l := ⟨by omega, by rw [once_step HX.out HY.out, if_pos rfl, HOn.out], fun _ _ => rfl⟩
          have HCI := Lib.hid hCI
          clear hCI x0 x1 y0 y1 d1
          go_loopw [3, 5] (fun v3 v5 wr => ∃ (k i : Nat) (r : List Pf), q + 1 + (i + 1) ≤ n ∧ v3 = .int .i64 k ∧ v5 = .int .i64 ((i + 1 : Nat) : Int) ∧ CI l k (q + 1 + i + 1) r ∧ Own wr 69 2 (some ⟨b, off, none⟩) n c (fv r) ∧ Chg (sf (some ⟨b, off, none⟩)) w wr) (fun _ v5 _ => n - (intOf v5).toNat)
          case atStart => exact ⟨q + 1, 0, l, by omega, by go_num, rfl, HCI.out, HO.out.bel (below_drewN (Below.refl _ _) _), Chg.of_below (below_drewN (Below.refl _ _) _) _⟩
          case round =>
            obtain ⟨k, i, r, hi, rfl, rfl, hci, hor, hcr⟩ := hrel
            have HR := Lib.hid (And.intro hci (And.intro hor hcr))
            have hk := hci.lt
            have HRl := Lib.hid (own_len hor)
            clear hci hor hcr
            by_cases hlt2 : q + 1 + (i + 1) < n
            · obtain ⟨z, hz⟩ : ∃ z, l[q + 1 + i + 1]? = some z := ⟨l[q + 1 + i + 1]'(by have := HL.out; omega), List.getElem?_eq_getElem _⟩
              obtain ⟨y, hy⟩ : ∃ y, l[q + 1 + i]? = some y := ⟨l[q + 1 + i]'(by have := HL.out; omega), List.getElem?_eq_getElem _⟩
              have cz := own_cells HR.out.2.1 (q + 1 + i + 1) z (by rw [HR.out.1.back _ (by omega)]; exact hz)
              have cy := own_cells HR.out.2.1 (q + 1 + i) y (by rw [HR.out.1.back _ (by omega)]; exact hy)
              rw [show off + (q + 1 + i + 1) * 2 = off + (q + 1) * 2 + (i + 1) * 2 from by omega] at cz
              rw [show off + (q + 1 + i) * 2 = off + (q + 1) * 2 + i * 2 from by omega] at cy
              have z0 := cz.1
              have z1 := cz.2
              have y0 := cy.1
              have y1 := cy.2
              have HZ := Lib.hid hz
              have HY2 := Lib.hid hy
              clear cz cy hz hy
              have d2 : ((i + 1 : Nat) : Int) < ((n - (q + 1) : Nat) : Int) := by omega
              by_cases hzy : z = y
              · subst hzy
                go_wp2_with fail
                go_quiet (fail)
                go_wp2_with fail
                go_roundw
                case rel => exact ⟨k, i + 1, r, by omega, rfl, by go_num, HR.out.1.skip HZ.out HY2.out rfl, HR.out.2.1.bel (below_drewN (Below.refl _ _) _), HR.out.2.2.trans (Chg.of_below (below_drewN (Below.refl _ _) _) _) fun _ _ e => e⟩
                case measure => simp [intOf]; omega
              · have HNe := Lib.hid hzy
                have q0 := (own_cells HR.out.2.1 k (r[k]'(by have := HRl.out; omega)) (List.getElem?_eq_getElem _)).1
                have q1 := (own_cells HR.out.2.1 k (r[k]'(by have := HRl.out; omega)) (List.getElem?_eq_getElem _)).2
                have qf := fun t => HR.out.2.1.free t
                have ql := own_lt HR.out.2.1
                have d3 : (k : Int) < (n : Int) := by omega
                rcases (show z.1 ≠ y.1 ∨ (z.1 = y.1 ∧ z.2 ≠ y.2) from by
                  rcases Nat.decEq z.1 y.1 with h | h
                  · exact .inl h
                  · exact .inr ⟨h, fun h2 => hzy (Prod.ext h h2)⟩) with h | ⟨h, h'⟩
                case' inl =>
                  have e1 : ((z.1 : Int) == (y.1 : Int)) = false := by rw [beq_eq_false_iff_ne]; omega
                case' inr =>
                  have e0 : (z.1 : Int) = (y.1 : Int) := by rw [h]
                  have e1 : (z.2 == y.2) = false := by rw [beq_eq_false_iff_ne]; exact h'
                  have HZ0 := Lib.hid e0
                all_goals
                  clear hzy
                  go_wp2_with fail
                  go_quiet (fail)
                  go_wp2_with fail
                  have hset := own_set (HR.out.2.1.bel (below_drewN (Below.refl wr.heap.size wr) nq)) k (by have := HRl.out; omega) z
                  have hchg := ((HR.out.2.2.drewN nq).put (p := ⟨b, off + k * 2, none⟩) (.inl ⟨_, rfl, rfl⟩) (.int .u32 (z.1 : Int))).put (p := ⟨b, off + k * 2 + 1, none⟩) (.inl ⟨_, rfl, rfl⟩) (.int .i64 z.2)
                  try rw [HZ0.out] at hset hchg
                  have HSet := Lib.hid (And.intro hset hchg)
                  clear hset hchg
                  go_roundw
                  case rel => exact ⟨k + 1, i + 1, r.set k z, by omega, by go_num, by go_num, HR.out.1.keep HZ.out HY2.out HNe.out (by rw [HRl.out, HL.out]), HSet.out.1, HSet.out.2⟩
                  case measure => simp [intOf]; omega
            · have hin : q + 1 + (i + 1) = n := by omega
              have d2 : ¬ ((i + 1 : Nat) : Int) < ((n - (q + 1) : Nat) : Int) := by omega
              have hkn : k < n := by omega
              have hck : ¬ c = k := by omega
              have hcl := run_clear2 HR.out.2.1 k hkn (n - k) (c - k) (by omega)
              obtain ⟨w9, hrun, ho9, hc9⟩ := hcl
              have H9 := Lib.hid (And.intro ho9 hc9)
              have HIn := Lib.hid hin
              clear ho9 hc9 hin
              go_wp2_with fail
              go_ret
              have e2 : r.take k = once l := by
                have h := HR.out.1.front
                rwa [List.take_of_length_le (l := l) (by rw [HL.out]; have := HIn.out; omega)] at h
              have e3 : (once l).length = k := by rw [← e2, List.length_take]; have := HRl.out; omega
              obtain ⟨ho9, hc9⟩ := H9.out
              rw [e2] at ho9
              rw [e3]
              exact ⟨rfl, ho9, HR.out.2.2.trans hc9 fun _ _ e => ⟨_, rfl, e.symm⟩⟩
        · have HNe := Lib.hid hxy
          rcases (show x.1 ≠ y.1 ∨ (x.1 = y.1 ∧ x.2 ≠ y.2) from by
            rcases Nat.decEq x.1 y.1 with h | h
            · exact .inl h
            · exact .inr ⟨h, fun h2 => hxy (Prod.ext h h2)⟩) with h | ⟨h, h'⟩
          case' inl =>
            have e1 : ((x.1 : Int) == (y.1 : Int)) = false := by rw [beq_eq_false_iff_ne]; omega
          case' inr =>
            have e0 : (x.1 : Int) = (y.1 : Int) := by rw [h]
            have e1 : (x.2 == y.2) = false := by rw [beq_eq_false_iff_ne]; exact h'
          all_goals
            clear hxy
            go_wp2_with fail
            go_quiet (fail)
            go_wp2_with fail
            go_roundw
            case rel =>
              refine ⟨q + 1, _, by omega, by go_num, ?_, rfl⟩
              rw [once_step HX.out HY.out, if_neg HNe.out, HOn.out, List.take_add_one (i := q + 1), HX.out]
              rfl
            case measure => simp [intOf]; omega
      · have hqn : q + 1 = n := by omega
        have HE : Hid (once l = l) := by
          have h := HOn.out
          rwa [List.take_of_length_le (by rw [HL.out]; omega)] at h
        have d1 : ¬ ((q + 1 : Nat) : Int) < (n : Int) := by omega
        have HQ := Lib.hid hqn
        clear hqn
        go_wp2_with fail
        go_ret
        rw [HE.out, HL.out]
        exact ⟨rfl, HO.out.bel (below_drewN (Below.refl _ _) _), Chg.of_below (below_drewN (Below.refl _ _) _) _⟩
end Go.Proofs.Ytajilbapjpfloaa.srt
