/- What confluenceref14.Cut returns. Condition: at most a million rows. -/
import Derived.Test.YtbhhkjkjihenoaaTrieRef
namespace Go.Proofs.Ytbhhkjkjihenoaa.tri
open Go.RowKit Go.Proofs.Ytbhhkjkjihenoaa.kit Go.Proofs.Ytbhhkjkjihenoaa.mem Go.Proofs.Ytbhhkjkjihenoaa.foot Go.Proofs.Ytbhhkjkjihenoaa.pfx
set_option linter.unusedVariables false
set_option linter.unusedSimpArgs false

theorem info_row : (Try.prog.info? 47).map (fun i => (i.zero, i.size, i.bytes)) = some (some (.agg #[.int .u32 0, .int .i64 0, .int .i64 0]), 3, 24) := by kernel_rfl
theorem rcut_lo (A : Option Addr) (c l n : Nat) (hA : A = none → c = 0) (hc : l ≤ c) (hm : c ≤ maxLen) (hn : n ≤ l) (w : World) :
    (Instr.slice 25 (.slice A l c) none (some (.int .i64 n)) none).run Try.prog w = .ok (.slice A n c) w := by
  unfold maxLen at hm
  rcases A with _ | ad
  · have := hA rfl
    subst this
    obtain rfl : l = 0 := by omega
    obtain rfl : n = 0 := by omega
    have h : ∀ w, (Instr.slice 25 (.slice none 0 0) none (some (.int .i64 0)) none).run Try.prog w = .ok (.slice none 0 0) w := fun w => by kernel_rfl
    exact h w
  · have h1 : (n : Int) ≤ (c : Int) := by omega
    go_simp
theorem rcut_hi (A : Option Addr) (c l n : Nat) (hA : A = none → c = 0) (hc : l ≤ c) (hm : c ≤ maxLen) (hn : n ≤ l) :
    ∃ A' c', (A' = none → c' = 0) ∧ l - n ≤ c' ∧ c' ≤ maxLen ∧ (∀ w, (Instr.slice 25 (.slice A l c) (some (.int .i64 n)) none none).run Try.prog w = .ok (.slice A' (l - n) c') w) ∧ (∀ w G (x : List Value), Rg w G 3 A l x → Rg w G 3 A' (l - n) (x.drop (n * 3))) := by
  have hm' := hm
  unfold maxLen at hm
  rcases A with _ | ad
  · have := hA rfl
    subst this
    obtain rfl : l = 0 := by omega
    obtain rfl : n = 0 := by omega
    exact ⟨none, 0, fun _ => rfl, Nat.le_refl _, Nat.zero_le _, fun w => by kernel_rfl, fun w G x h => by simpa using h⟩
  · by_cases hz : n = c
    · subst hz
      obtain rfl : l = n := by omega
      refine ⟨some ad, 0, (fun h => by cases h), by omega, Nat.zero_le _, fun w => ?_, fun w G x h => ?_⟩
      · go_simp
      · rw [List.drop_of_length_le (by rw [h.1]; exact Nat.le_refl _), Nat.sub_self]; exact Rg.nil _ _ _ _
    · refine ⟨some (ad.add (n * 3)), c - n, (fun h => by cases h), by omega, by unfold maxLen; omega, fun w => ?_, fun w G x h => h.skip hn⟩
      have h1 : (n : Int) ≤ (l : Int) := by omega
      go_simp
      intro h; exact absurd h.symm hz

/-- rows handed back: read where the given ones lie, or in new memory -/
def RowsP (B : Nat) (w : World) (A : Option Addr) (l : Rows) (e : Ending) (w' : World) : Prop := ∃ A' c', e = .returned (.slice A' l.length c') ∧ Row3 B w' 3 A' l.length c' (rv l) ∧ (∀ x, sf A' x → sf A x ∨ w.heap.size ≤ x) ∧ Below w.heap.size w w'
theorem _root_.Go.Proofs.Ytbhhkjkjihenoaa.foot.Acc.rows {B c : Nat} {w w' : World} {e : TypeId} {A A' : Option Addr} {l : Rows} {n : Nat} {xs : List Value} (h : Acc w e 3 w' A' n c xs) (hB : B ≤ w.heap.size) (hn : n = l.length) (hx : xs = rv l) : RowsP B w A l (.returned (.slice A' n c)) w' := by
  subst hn hx
  exact ⟨A', c, rfl, h.row hB, fun x hx => .inr (h.low x hx), h.bel⟩

set_option maxRecDepth 100000 in
set_option maxHeartbeats 2000000 in
theorem refCut_some (B : Nat) (l : Rows) (A : Option Addr) (c : Nat) (a : Nat) (n : Int) (o : Option Key) (i : Nat) (w : World) (hl : l.length ≤ 1000000) (hs : Short l) (ha : a < 4294967296) (ho : o = kyOf a n) (hi : idx l o = some i) (hil : i < l.length) (hr : Row3 B w 3 A l.length c (rv l)) (hB : B ≤ w.heap.size) :
    Calls Try.prog 65 #[.slice A l.length c, .agg #[.int .u32 a, .int .i64 n]] w (RowsP B w A (l.take i ++ l.drop (i + 1))) := by
  have HB0 : Hid (Below w.heap.size w (w.alloc (.cells #[.int .u32 (a : Int), .int .i64 n] 30))) := (Below.refl _ _).alloc (Nat.le_refl _) _
  have HAt := Lib.hid (At_any B l A c a n o (i : Int) _ hl hs ha ho (by rw [atI, hi]) (hr.bel HB0.out))
  obtain ⟨i0, hi0, hz0, hz1, hz2⟩ := info_parts info_row
  have Hi := Lib.hid hi0
  have Hz0 := Lib.hid hz0
  have Hz1 := Lib.hid hz1
  have Hz2 := Lib.hid hz2
  have HR := Lib.hid hr
  have klo := rcut_lo A c l.length i hr.nil hr.cap hr.max (by omega)
  obtain ⟨A2, c2, h2a, h2b, h2c, khi, h2r⟩ := rcut_hi A c l.length (i + 1) hr.nil hr.cap hr.max (by omega)
  rw [show (((i + 1 : Nat)) : Int) = (i : Int) + 1 from by omega] at khi
  have H2 := Lib.hid (And.intro h2a (And.intro h2b h2c))
  have H2r := Lib.hid h2r
  have HE : Hid (∀ w' A' c', Acc w 47 3 w' A' (0 + i + (l.length - (i + 1))) c' ([] ++ (rv l).take (i * 3) ++ (rv l).drop ((i + 1) * 3)) → RowsP B w A (l.take i ++ l.drop (i + 1)) (.returned (.slice A' (i + (l.length - (i + 1))) c')) w') := fun w' A' c' h => by rw [Nat.zero_add] at h; exact h.rows hB (by simp; omega) (by rw [rv_app, rv_take, rv_drop]; simp)
  clear hr hi hs ho h2a h2b h2c h2r hi0 hz0 hz1 hz2
  generalize RowsP B w A (l.take i ++ l.drop (i + 1)) = Q at *
  go_enter Try.func65, Try.ntmps65
  go_wp2_with fail
  refine HAt.out.mono ?_; rintro e w1 ⟨rfl, hb1⟩
  have HB1 := Lib.hid (HB0.out.trans (hb1.mono HB0.out.size))
  have HA0 : Hid (Acc w 47 3 ((w1.alloc (.cells #[] 47)).drew) (some ⟨w1.heap.size, 0, none⟩) 0 0 []) := Acc.start ((HB1.out.alloc HB1.out.size _).drew) (Bk.new w1 _ _) HB1.out.size
  clear hb1
  have hi1 : (i : Int) < l.length := by omega
  have hl1 : (l.length : Int) ≤ 1000000 := by omega
  go_wp2_with fail
  have hw : IntKind.i64.wrap ((i : Int) + 1) = (i : Int) + 1 := by rw [IntKind.wrap_i64]; omega
  go_region_held3 (fun _ => True) (exact trivial) (first
    | (refine step_app _ (by rfl) (.tmp 12) (.tmp 15) _ (by rfl) 47 i0 _ 3 24 Try.underlying25 Hi.out Hz0.out Hz1.out Hz2.out rfl (by omega) (some ⟨w1.heap.size, 0, none⟩) 0 0 [] (by rfl) HA0.out.own _ A i c HR.out.nil ((rv l).take (i * 3)) (by rfl) (HA0.out.rg (HR.out.rg.take (Nat.le_of_lt hil))) (fun u hu => rv_one l u (List.mem_of_mem_take hu)) (by unfold maxLen; omega) (by omega) ?_; intro A3 c3 w3 ho3 hc3 hf3; go_must (have HA3 := Lib.hid (HA0.out.app ho3 hc3 hf3)); clear ho3 hc3 hf3)
    | (refine step_app _ (by rfl) (.tmp 16) (.tmp 20) _ (by rfl) 47 i0 _ 3 24 Try.underlying25 Hi.out Hz0.out Hz1.out Hz2.out rfl (by omega) A3 (0 + i) c3 ([] ++ (rv l).take (i * 3)) (by rfl) HA3.out.own _ A2 (l.length - (i + 1)) c2 H2.out.1 ((rv l).drop ((i + 1) * 3)) (by rfl) (H2r.out _ _ _ (HA3.out.rg HR.out.rg)) (fun u hu => rv_one l u (List.mem_of_mem_drop hu)) (by unfold maxLen; omega) (by omega) ?_; intro A4 c4 w4 ho4 hc4 hf4; go_must (have HA4 := Lib.hid (HA3.out.app ho4 hc4 hf4)); clear ho4 hc4 hf4))
  all_goals
    go_wp2_with fail
    exact HE.out _ _ _ HA4.out
theorem refCut_none (B : Nat) (l : Rows) (A : Option Addr) (c : Nat) (a : Nat) (n : Int) (o : Option Key) (w : World) (hl : l.length ≤ 1000000) (hs : Short l) (ha : a < 4294967296) (ho : o = kyOf a n) (hi : idx l o = none) (hr : Row3 B w 3 A l.length c (rv l)) :
    Calls Try.prog 65 #[.slice A l.length c, .agg #[.int .u32 a, .int .i64 n]] w (RowsP B w A l) := by
  have HB0 : Hid (Below w.heap.size w (w.alloc (.cells #[.int .u32 (a : Int), .int .i64 n] 30))) := (Below.refl _ _).alloc (Nat.le_refl _) _
  have HAt := Lib.hid (At_any B l A c a n o (-1) _ hl hs ha ho (by rw [atI, hi]) (hr.bel HB0.out))
  have HE : Hid (∀ w', Below w.heap.size w w' → RowsP B w A l (.returned (.slice A l.length c)) w') := fun w' hb => ⟨A, c, rfl, hr.bel hb, fun x hx => .inl hx, hb⟩
  clear hr hi hs ho
  go_enter Try.func65, Try.ntmps65
  go_wp2_with fail
  refine HAt.out.mono ?_; rintro e w1 ⟨rfl, hb1⟩
  have HB1 := Lib.hid (HB0.out.trans (hb1.mono HB0.out.size))
  clear hb1
  go_wp2_with fail
  go_ret
  exact HE.out _ HB1.out
/-- in plain words -/
theorem idx_lt {l : Rows} {o : Option Key} {i : Nat} (h : idx l o = some i) : ∃ hi : i < l.length, o = some l[i].1 := by
  cases o with
  | none => simp [idx] at h
  | some p =>
    unfold idx at h
    dsimp only at h
    obtain ⟨h1, h2, _⟩ := List.findIdx?_eq_some_iff_getElem.1 h
    exact ⟨h1, by simp at h2; rw [h2]⟩
def refCutL (l : Rows) (o : Option Key) : Rows := match idx l o with | some i => l.take i ++ l.drop (i + 1) | none => l
theorem refCut_any (B : Nat) (l : Rows) (A : Option Addr) (c : Nat) (a : Nat) (n : Int) (o : Option Key) (w : World) (hl : l.length ≤ 1000000) (hs : Short l) (ha : a < 4294967296) (ho : o = kyOf a n) (hr : Row3 B w 3 A l.length c (rv l)) (hB : B ≤ w.heap.size) :
    Calls Try.prog 65 #[.slice A l.length c, .agg #[.int .u32 a, .int .i64 n]] w (RowsP B w A (refCutL l o)) := by
  unfold refCutL
  rcases hi : idx l o with _ | i
  · exact refCut_none B l A c a n o w hl hs ha ho hi hr
  · obtain ⟨hil, _⟩ := idx_lt hi
    exact refCut_some B l A c a n o i w hl hs ha ho hi hil hr hB
end Go.Proofs.Ytbhhkjkjihenoaa.tri
