/- What confluenceref23.At and Cut return. Condition: at most 100000 rows. -/
import Derived.Test.YtbhhkjkjihenoaaClockRun
import Derived.Test.YtbhhkjkjihenoaaSplice
import Derived.Deep.RegionHeld3
namespace Go.Proofs.Ytbhhkjkjihenoaa.clk
open Go.RowKit Go.Proofs.Ytbhhkjkjihenoaa.kit Go.Proofs.Ytbhhkjkjihenoaa.mem Go.Proofs.Ytbhhkjkjihenoaa.foot Go.Proofs.Ytbhhkjkjihenoaa.maps
set_option linter.unusedVariables false
set_option linter.unusedSimpArgs false

theorem rAt_found {R : KV} {k : Int} {i : Nat} (hi : i < R.length) (he : R[i].1 = k) (hn : ∀ j (h : j < i), R[j].1 ≠ k) : rAt R k = i := by
  have h : rIdx R k = some i := List.findIdx?_eq_some_iff_getElem.2 ⟨hi, by simpa using he, fun j hj => by simpa using hn j hj⟩
  unfold rAt
  rw [h]
theorem rAt_miss {R : KV} {k : Int} (hn : ∀ j (h : j < R.length), R[j].1 ≠ k) : rAt R k = -1 := by
  have h : rIdx R k = none := by
    unfold rIdx
    rw [List.findIdx?_eq_none_iff]
    intro x hx
    obtain ⟨j, hj, rfl⟩ := List.getElem_of_mem hx
    simpa using hn j hj
  unfold rAt
  rw [h]
/-- a row's cells -/
theorem row_cell {B : Nat} {w : World} {A : Option Addr} {c : Nat} {R : KV} (h : Row3 B w 2 A R.length c (pv2 R)) {k : Nat} (hk : k < R.length) :
    ∃ b off, A = some ⟨b, off, none⟩ ∧ b < w.heap.size ∧ w.cell? ⟨b, off + k * 2, none⟩ = some (.int .i64 R[k].1) ∧ w.cell? ⟨b, off + k * 2 + 1, none⟩ = some (.int .i64 R[k].2) := by
  obtain ⟨x0, x1⟩ := pv2_at R k hk
  obtain ⟨b, off, e, hb, _, c0⟩ := h.cell hk (by omega) x0
  obtain ⟨b', off', e', _, _, c1⟩ := h.cell hk (by omega) x1
  rw [e] at e'
  cases e'
  exact ⟨b, off, e, hb, c0, c1⟩

set_option maxRecDepth 100000 in
theorem refAt_any (B : Nat) (R : KV) (A : Option Addr) (c : Nat) (k : Int) (w : World) (hl : R.length ≤ 100000) (hr : Row3 B w 2 A R.length c (pv2 R)) :
    Calls Try.prog 51 #[.slice A R.length c, .int .i64 k] w fun e w' => e = .returned (.int .i64 (rAt R k)) ∧ Below w.heap.size w w' := by
  have HR := Lib.hid hr
  clear hr
  obtain ⟨z, hz⟩ : ∃ z, z = rAt R k := ⟨_, rfl⟩
  have HZ := Lib.hid hz
  rw [← hz]
  clear hz
  go_enter Try.func51, Try.ntmps51
  go_wp2_with fail
  go_loopw [5] (fun v5 wr => ∃ i : Nat, i ≤ R.length ∧ v5 = .int .i64 i ∧ (∀ j (h : j < R.length), j < i → R[j].1 ≠ k) ∧ Below w.heap.size w wr) (fun v5 _ => R.length - (intOf v5).toNat)
  case atStart => exact ⟨0, by omega, rfl, fun j _ h => by omega, Below.refl _ _⟩
  case round =>
    obtain ⟨i, hi, rfl, hn, hb⟩ := hrel
    have HN := Lib.hid hn
    have HB := Lib.hid hb
    clear hn hb
    by_cases hlt : i < R.length
    · obtain ⟨b, off, rfl, hbl, c0, _⟩ := row_cell HR.out hlt
      have q0 := (HB.out.cell (p := ⟨b, off + i * 2, none⟩) hbl).trans c0
      have hlt' : (i : Int) < (R.length : Int) := by omega
      clear c0
      by_cases hk : R[i].1 = k
      · have e1 : (R[i].1 == k) = true := by simpa using hk
        have HE : Hid (z = (i : Int)) := HZ.out.trans (rAt_found hlt hk fun j hj => HN.out j (by omega) hj)
        generalize R[i].1 = y at *
        go_wp2_with fail
        go_ret
        exact ⟨by rw [HE.out]; rfl, HB.out⟩
      · have e1 : (R[i].1 == k) = false := by simpa using hk
        have HN2 : Hid (∀ j (h : j < R.length), j < i + 1 → R[j].1 ≠ k) := fun j h hj => by
          by_cases e : j = i
          · subst e; exact hk
          · exact HN.out j h (by omega)
        generalize R[i].1 = y at *
        go_wp2_with fail
        go_roundw
        case rel => exact ⟨i + 1, by omega, by go_num, HN2.out, HB.out⟩
        case measure => simp [intOf]; omega
    · obtain rfl : i = R.length := by omega
      have HE : Hid (z = -1) := HZ.out.trans (rAt_miss fun j hj => HN.out j hj hj)
      go_wp2_with fail
      go_ret
      exact ⟨by rw [HE.out]; rfl, HB.out⟩

theorem info_row : (Try.prog.info? 117).map (fun i => (i.zero, i.size, i.bytes)) = some (some (.agg #[.int .i64 0, .int .i64 0]), 2, 16) := by kernel_rfl
theorem rcut_lo (A : Option Addr) (c l n : Nat) (hA : A = none → c = 0) (hc : l ≤ c) (hm : c ≤ maxLen) (hn : n ≤ l) (w : World) :
    (Instr.slice 104 (.slice A l c) none (some (.int .i64 n)) none).run Try.prog w = .ok (.slice A n c) w := by
  unfold maxLen at hm
  rcases A with _ | ad
  · have := hA rfl
    subst this
    obtain rfl : l = 0 := by omega
    obtain rfl : n = 0 := by omega
    have h : ∀ w, (Instr.slice 104 (.slice none 0 0) none (some (.int .i64 0)) none).run Try.prog w = .ok (.slice none 0 0) w := fun w => by kernel_rfl
    exact h w
  · have h1 : (n : Int) ≤ (c : Int) := by omega
    go_simp
theorem rcut_hi (A : Option Addr) (c l n : Nat) (hA : A = none → c = 0) (hc : l ≤ c) (hm : c ≤ maxLen) (hn : n ≤ l) :
    ∃ A' c', (A' = none → c' = 0) ∧ l - n ≤ c' ∧ c' ≤ maxLen ∧ (∀ w, (Instr.slice 104 (.slice A l c) (some (.int .i64 n)) none none).run Try.prog w = .ok (.slice A' (l - n) c') w) ∧ (∀ w G (x : List Value), Rg w G 2 A l x → Rg w G 2 A' (l - n) (x.drop (n * 2))) := by
  have hm' := hm
  unfold maxLen at hm
  rcases A with _ | ad
  · have := hA rfl
    subst this
    obtain rfl : l = 0 := by omega
    obtain rfl : n = 0 := by omega
    exact ⟨none, 0, fun _ => rfl, Nat.le_refl _, Nat.zero_le _, fun w => by kernel_rfl, fun w G x h => by simpa using h⟩
  · by_cases hz : n = c
    · subst hz
      obtain rfl : l = n := by omega
      refine ⟨some ad, 0, (fun h => by cases h), by omega, Nat.zero_le _, fun w => ?_, fun w G x h => ?_⟩
      · go_simp
      · rw [List.drop_of_length_le (by rw [h.1]; exact Nat.le_refl _), Nat.sub_self]; exact Rg.nil _ _ _ _
    · refine ⟨some (ad.add (n * 2)), c - n, (fun h => by cases h), by omega, by unfold maxLen; omega, fun w => ?_, fun w G x h => h.skip hn⟩
      have h1 : (n : Int) ≤ (l : Int) := by omega
      go_simp
      intro h; exact absurd h.symm hz
theorem pv2_take : ∀ (l : List (Int × Int)) (n : Nat), (pv2 l).take (n * 2) = pv2 (l.take n)
  | [], n => by simp [pv2]
  | p :: l, 0 => by simp [pv2]
  | p :: l, n + 1 => by
    have ih := pv2_take l n
    rw [show pv2 (p :: l) = .int .i64 p.1 :: .int .i64 p.2 :: pv2 l from rfl, show (n + 1) * 2 = n * 2 + 1 + 1 from by omega, List.take_succ_cons, List.take_succ_cons, ih]
    rfl
theorem pv2_drop : ∀ (l : List (Int × Int)) (n : Nat), (pv2 l).drop (n * 2) = pv2 (l.drop n)
  | [], n => by simp [pv2]
  | p :: l, 0 => by simp [pv2]
  | p :: l, n + 1 => by
    have ih := pv2_drop l n
    rw [show pv2 (p :: l) = .int .i64 p.1 :: .int .i64 p.2 :: pv2 l from rfl, show (n + 1) * 2 = n * 2 + 1 + 1 from by omega, List.drop_succ_cons, List.drop_succ_cons, ih]
    rfl

/-- rows handed back -/
def RowsP (B : Nat) (w : World) (R : KV) (e : Ending) (w' : World) : Prop := ∃ A c, e = .returned (.slice A R.length c) ∧ Row3 B w' 2 A R.length c (pv2 R) ∧ Below w.heap.size w w'
theorem rows_of {B c : Nat} {w w' : World} {e : TypeId} {A : Option Addr} {R : KV} {n : Nat} {xs : List Value} (h : Acc w e 2 w' A n c xs) (hB : B ≤ w.heap.size) (hn : n = R.length) (hx : xs = pv2 R) : RowsP B w R (.returned (.slice A n c)) w' := by
  subst hn hx
  exact ⟨A, c, rfl, h.row hB, h.bel⟩

set_option maxRecDepth 100000 in
set_option maxHeartbeats 2000000 in
theorem refCut_some (B : Nat) (R : KV) (A : Option Addr) (c : Nat) (k : Int) (i : Nat) (w : World) (hl : R.length ≤ 100000) (hi : rAt R k = i) (hil : i < R.length) (hr : Row3 B w 2 A R.length c (pv2 R)) (hB : B ≤ w.heap.size) :
    Calls Try.prog 52 #[.slice A R.length c, .int .i64 k] w (RowsP B w (R.take i ++ R.drop (i + 1))) := by
  have HAt := Lib.hid (refAt_any B R A c k w hl hr)
  rw [hi] at HAt
  obtain ⟨i0, hi0, hz0, hz1, hz2⟩ := info_parts info_row
  have Hi := Lib.hid hi0
  have Hz0 := Lib.hid hz0
  have Hz1 := Lib.hid hz1
  have Hz2 := Lib.hid hz2
  have HR := Lib.hid hr
  have klo := rcut_lo A c R.length i hr.nil hr.cap hr.max (by omega)
  obtain ⟨A2, c2, h2a, h2b, h2c, khi, h2r⟩ := rcut_hi A c R.length (i + 1) hr.nil hr.cap hr.max (by omega)
  rw [show (((i + 1 : Nat)) : Int) = (i : Int) + 1 from by omega] at khi
  have H2 := Lib.hid (And.intro h2a (And.intro h2b h2c))
  have H2r := Lib.hid h2r
  have HE : Hid (∀ w' A' c', Acc w 117 2 w' A' (0 + i + (R.length - (i + 1))) c' ([] ++ (pv2 R).take (i * 2) ++ (pv2 R).drop ((i + 1) * 2)) → RowsP B w (R.take i ++ R.drop (i + 1)) (.returned (.slice A' (i + (R.length - (i + 1))) c')) w') := fun w' A' c' h => by rw [Nat.zero_add] at h; exact rows_of h hB (by simp; omega) (by rw [pv2_app, pv2_take, pv2_drop]; simp)
  clear hr hi h2a h2b h2c h2r hi0 hz0 hz1 hz2
  generalize RowsP B w (R.take i ++ R.drop (i + 1)) = Q at *
  go_enter Try.func52, Try.ntmps52
  go_wp2_with fail
  refine HAt.out.mono ?_; rintro e w1 ⟨rfl, hb1⟩
  have HB1 := Lib.hid hb1
  have HA0 : Hid (Acc w 117 2 ((w1.alloc (.cells #[] 117)).drew) (some ⟨w1.heap.size, 0, none⟩) 0 0 []) := Acc.start ((HB1.out.alloc HB1.out.size _).drew) (Bk.new w1 _ _) HB1.out.size
  clear hb1
  have hi1 : (i : Int) < R.length := by omega
  have hl1 : (R.length : Int) ≤ 100000 := by omega
  go_wp2_with fail
  have hw : IntKind.i64.wrap ((i : Int) + 1) = (i : Int) + 1 := by rw [IntKind.wrap_i64]; omega
  go_region_held3 (fun _ => True) (exact trivial) (first
    | (refine step_app _ (by rfl) (.tmp 12) (.tmp 15) _ (by rfl) 117 i0 _ 2 16 Try.underlying104 Hi.out Hz0.out Hz1.out Hz2.out rfl (by omega) (some ⟨w1.heap.size, 0, none⟩) 0 0 [] (by rfl) HA0.out.own _ A i c HR.out.nil ((pv2 R).take (i * 2)) (by rfl) (HA0.out.rg (HR.out.rg.take (Nat.le_of_lt hil))) (fun u hu => pv2_one R u (List.mem_of_mem_take hu)) (by unfold maxLen; omega) (by omega) ?_; intro A3 c3 w3 ho3 hc3 hf3; go_must (have HA3 := Lib.hid (HA0.out.app ho3 hc3 hf3)); clear ho3 hc3 hf3)
    | (refine step_app _ (by rfl) (.tmp 16) (.tmp 20) _ (by rfl) 117 i0 _ 2 16 Try.underlying104 Hi.out Hz0.out Hz1.out Hz2.out rfl (by omega) A3 (0 + i) c3 ([] ++ (pv2 R).take (i * 2)) (by rfl) HA3.out.own _ A2 (R.length - (i + 1)) c2 H2.out.1 ((pv2 R).drop ((i + 1) * 2)) (by rfl) (H2r.out _ _ _ (HA3.out.rg HR.out.rg)) (fun u hu => pv2_one R u (List.mem_of_mem_drop hu)) (by unfold maxLen; omega) (by omega) ?_; intro A4 c4 w4 ho4 hc4 hf4; go_must (have HA4 := Lib.hid (HA3.out.app ho4 hc4 hf4)); clear ho4 hc4 hf4))
  all_goals
    go_wp2_with fail
    exact HE.out _ _ _ HA4.out
theorem refCut_none (B : Nat) (R : KV) (A : Option Addr) (c : Nat) (k : Int) (w : World) (hl : R.length ≤ 100000) (hi : rAt R k = -1) (hr : Row3 B w 2 A R.length c (pv2 R)) :
    Calls Try.prog 52 #[.slice A R.length c, .int .i64 k] w (RowsP B w R) := by
  have HAt := Lib.hid (refAt_any B R A c k w hl hr)
  rw [hi] at HAt
  have HE : Hid (∀ w', Below w.heap.size w w' → RowsP B w R (.returned (.slice A R.length c)) w') := fun w' hb => ⟨A, c, rfl, hr.bel hb, hb⟩
  clear hr hi
  go_enter Try.func52, Try.ntmps52
  go_wp2_with fail
  refine HAt.out.mono ?_; rintro e w1 ⟨rfl, hb1⟩
  have HB1 := Lib.hid hb1
  clear hb1
  go_wp2_with fail
  go_ret
  exact HE.out _ HB1.out
theorem refCut_any (B : Nat) (R : KV) (A : Option Addr) (c : Nat) (k : Int) (w : World) (hl : R.length ≤ 100000) (hR : Rising R) (hr : Row3 B w 2 A R.length c (pv2 R)) (hB : B ≤ w.heap.size) :
    Calls Try.prog 52 #[.slice A R.length c, .int .i64 k] w (RowsP B w (rCut R k)) := by
  rcases hi : rIdx R k with _ | i
  · rw [rCut_none hi]
    exact refCut_none B R A c k w hl (by unfold rAt; rw [hi]) hr
  · obtain ⟨hil, _⟩ := rIdx_lt hi
    rw [rCut_some hR hi]
    exact refCut_some B R A c k i w hl (by unfold rAt; rw [hi]) hil hr hB
end Go.Proofs.Ytbhhkjkjihenoaa.clk
