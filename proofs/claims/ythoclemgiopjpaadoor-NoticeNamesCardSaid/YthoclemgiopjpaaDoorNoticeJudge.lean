/- Whether two notices are alike, whether one is none, whether one is good by the document. No condition beyond those that each lemma states. -/
import Derived.Test.YthoclemgiopjpaaDoorNoticeLives
namespace Go.Proofs.YthoclemgiopjpaaDoor.notice
open Go.RowKit Go.Proofs.YthoclemgiopjpaaDoor.kit Go.Proofs.YthoclemgiopjpaaDoor.mem Go.Proofs.YthoclemgiopjpaaDoor.foot Go.Proofs.YthoclemgiopjpaaDoor.octet Go.Proofs.YthoclemgiopjpaaDoor.told
set_option linter.unusedVariables false
set_option linter.unusedSimpArgs false

theorem rGood_any (c s : Int) (A : Option Addr) (n k : Nat) (w : World) :
    Calls Tryd.prog 15 #[.agg #[.int .i64 c, .int .i64 s, .slice A n k]] w fun e w' => e = .returned (.bool (goodB c s n)) ∧ Below w.heap.size w w' := by
  have HG : Hid (goodB c s n = (decide (0 < c) && decide (c < 256) && decide (0 ≤ s) && decide (s < 256) && decide ((n : Int) ≤ 4075))) := by
    unfold goodB
    rw [Hid, Bool.eq_iff_iff]
    simp
    omega
  generalize hd1 : decide (0 < c) = d1 at *
  generalize hd2 : decide (c < 256) = d2 at *
  generalize hd3 : decide (0 ≤ s) = d3 at *
  generalize hd4 : decide (s < 256) = d4 at *
  have hcases : d1 = false ∨ (d1 = true ∧ d2 = false) ∨ (d1 = true ∧ d2 = true ∧ d3 = false) ∨ (d1 = true ∧ d2 = true ∧ d3 = true ∧ d4 = false) ∨ (d1 = true ∧ d2 = true ∧ d3 = true ∧ d4 = true) := by
    cases d1 <;> cases d2 <;> cases d3 <;> cases d4 <;> simp
  rcases hcases with rfl | ⟨rfl, rfl⟩ | ⟨rfl, rfl, rfl⟩ | ⟨rfl, rfl, rfl, rfl⟩ | ⟨rfl, rfl, rfl, rfl⟩
  all_goals
    go_enter Tryd.func15, Tryd.ntmps15
    go_wp2_with fail
    go_ret
    exact ⟨by rw [HG.out]; first | rfl | simp, (Below.refl _ _).alloc (Nat.le_refl _) _⟩

theorem Equal_bs (A B : Option Addr) (c d X Y : Nat) (x y : List UInt8) (w : World) (hx : Bs w X A x) (hy : Bs w Y B y) :
    Calls Tryd.prog 29 #[.slice A x.length c, .slice B y.length d] w fun e w' => e = .returned (.bool (decide (x = y))) ∧ w = w' := by
  have h1 := run_str (c := c) hx
  have h2 := run_str (c := d) hy
  clear hx hy
  go_enter Tryd.func29, Tryd.ntmps29
  go_wp2_with fail
  go_ret
  exact ⟨by simp; rw [Bool.eq_iff_iff]; simp, rfl⟩

/-- whether two notices are alike -/
def sameB (c s c' s' : Int) (x y : List UInt8) : Bool := (c == c') && (s == s') && decide (x = y)
/-- whether one is none -/
def noneB (c s : Int) (x : List UInt8) : Bool := (c == 0) && (s == 0) && decide (x = [])

theorem none_same (c s : Int) (x : List UInt8) : sameB c s 0 0 x [] = noneB c s x := rfl

theorem Same_any (c s c' s' : Int) (A A' : Option Addr) (k k' X Y : Nat) (x y : List UInt8) (w : World) (hX : X ≤ w.heap.size) (hY : Y ≤ w.heap.size) (hx : Bs w X A x) (hy : Bs w Y A' y) :
    Calls Tryd.prog 16 #[.agg #[.int .i64 c, .int .i64 s, .slice A x.length k], .agg #[.int .i64 c', .int .i64 s', .slice A' y.length k']] w fun e w' => e = .returned (.bool (sameB c s c' s' x y)) ∧ Below w.heap.size w w' := by
  have hb := ((Below.refl w.heap.size w).alloc (Nat.le_refl _) (.cells #[.int .i64 c, .int .i64 s, .slice A x.length k] 24)).alloc (by simp) (.cells #[.int .i64 c', .int .i64 s', .slice A' y.length k'] 24)
  have HE := Lib.hid (Equal_bs A A' k k' X Y x y _ (hx.below hb hX) (hy.below hb hY))
  have HB := Lib.hid hb
  have HG : Hid (sameB c s c' s' x y = ((c == c') && (s == s') && decide (x = y))) := rfl
  clear hb hx hy
  have hcases : (c ≠ c' ∧ (c == c') = false) ∨ (c = c' ∧ s ≠ s' ∧ (s == s') = false) ∨ (c = c' ∧ s = s') := by
    by_cases h1 : c = c'
    · by_cases h2 : s = s'
      · exact .inr (.inr ⟨h1, h2⟩)
      · exact .inr (.inl ⟨h1, h2, by simp [h2]⟩)
    · exact .inl ⟨h1, by simp [h1]⟩
  rcases hcases with ⟨h1, h2⟩ | ⟨rfl, h1, h2⟩ | ⟨rfl, rfl⟩
  · go_enter Tryd.func16, Tryd.ntmps16
    go_wp2_with fail
    go_ret
    exact ⟨by rw [HG.out]; simp [h1], HB.out⟩
  · go_enter Tryd.func16, Tryd.ntmps16
    go_wp2_with fail
    go_ret
    exact ⟨by rw [HG.out]; simp [h1], HB.out⟩
  · go_enter Tryd.func16, Tryd.ntmps16
    go_wp2_with fail
    refine HE.out.mono ?_; rintro e w1 ⟨rfl, rfl⟩
    go_wp2_with fail
    go_ret
    exact ⟨by rw [HG.out]; simp, HB.out⟩

theorem Told_any (c s c' s' : Int) (A A' : Option Addr) (k k' X Y : Nat) (x y : List UInt8) (w : World) (hX : X ≤ w.heap.size) (hY : Y ≤ w.heap.size) (hx : Bs w X A x) (hy : Bs w Y A' y) :
    Calls Tryd.prog 8 #[.agg #[.int .i64 c, .int .i64 s, .slice A x.length k], .agg #[.int .i64 c', .int .i64 s', .slice A' y.length k']] w fun e w' => e = .returned (.bool (sameB c s c' s' x y)) ∧ Below w.heap.size w w' := by
  have hb := ((Below.refl w.heap.size w).alloc (Nat.le_refl _) (.cells #[.int .i64 c, .int .i64 s, .slice A x.length k] 24)).alloc (by simp) (.cells #[.int .i64 c', .int .i64 s', .slice A' y.length k'] 24)
  have s1 := run_str (c := k) (hx.below hb hX)
  have s2 := run_str (c := k') (hy.below hb hY)
  have HB := Lib.hid hb
  have HG : Hid (sameB c s c' s' x y = ((c == c') && (s == s') && decide (x = y))) := rfl
  clear hb hx hy
  have hcases : (c ≠ c' ∧ (c == c') = false) ∨ (c = c' ∧ s ≠ s' ∧ (s == s') = false) ∨ (c = c' ∧ s = s') := by
    by_cases h1 : c = c'
    · by_cases h2 : s = s'
      · exact .inr (.inr ⟨h1, h2⟩)
      · exact .inr (.inl ⟨h1, h2, by simp [h2]⟩)
    · exact .inl ⟨h1, by simp [h1]⟩
  rcases hcases with ⟨h1, h2⟩ | ⟨rfl, h1, h2⟩ | ⟨rfl, rfl⟩
  · go_enter Tryd.func8, Tryd.ntmps8
    go_wp2_with fail
    go_ret
    exact ⟨by rw [HG.out]; simp [h1], HB.out⟩
  · go_enter Tryd.func8, Tryd.ntmps8
    go_wp2_with fail
    go_ret
    exact ⟨by rw [HG.out]; simp [h1], HB.out⟩
  · go_enter Tryd.func8, Tryd.ntmps8
    go_wp2_with fail
    go_ret
    exact ⟨by rw [HG.out]; simp; rw [Bool.eq_iff_iff]; simp, HB.out⟩

theorem None_any (c s : Int) (A : Option Addr) (k : Nat) (x : List UInt8) (w : World) :
    Calls Tryd.prog 17 #[.agg #[.int .i64 c, .int .i64 s, .slice A x.length k]] w fun e w' => e = .returned (.bool (noneB c s x)) ∧ Below w.heap.size w w' := by
  have hn : decide (x = []) = ((x.length : Int) == 0) := by
    rw [Bool.eq_iff_iff]; simp
  have HG : Hid (noneB c s x = ((c == 0) && (s == 0) && ((x.length : Int) == 0))) := by unfold noneB; rw [hn]; rfl
  clear hn
  have hcases : (c ≠ 0 ∧ (c == 0) = false) ∨ (c = 0 ∧ s ≠ 0 ∧ (s == 0) = false) ∨ (c = 0 ∧ s = 0) := by
    by_cases h1 : c = 0
    · by_cases h2 : s = 0
      · exact .inr (.inr ⟨h1, h2⟩)
      · exact .inr (.inl ⟨h1, h2, by simp [h2]⟩)
    · exact .inl ⟨h1, by simp [h1]⟩
  rcases hcases with ⟨h1, h2⟩ | ⟨rfl, h1, h2⟩ | ⟨rfl, rfl⟩
  all_goals
    go_enter Tryd.func17, Tryd.ntmps17
    go_wp2_with fail
    go_ret
    exact ⟨by rw [HG.out]; first | rfl | (simp; done) | (simp [h1]; done), (Below.refl _ _).alloc (Nat.le_refl _) _⟩
end Go.Proofs.YthoclemgiopjpaaDoor.notice
