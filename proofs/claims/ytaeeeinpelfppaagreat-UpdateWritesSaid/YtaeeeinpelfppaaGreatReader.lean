/- What octet's Reader does: take, number, U8, U16, U32, Take, Part, Rest, Left, Bad, New. Condition: at most 2^40 bytes. -/
import Derived.Test.YtaeeeinpelfppaaGreatWriter
import Derived.WalkMore
import Derived.ScopeJumps
namespace Go.Proofs.YtaeeeinpelfppaaGreat.octet
open Go.RowKit Go.Proofs.YtaeeeinpelfppaaGreat.kit Go.Proofs.YtaeeeinpelfppaaGreat.mem
set_option linter.unusedVariables false

/-- block r is a reader with these bytes left -/
def Rdr (w : World) (r : Nat) (l : List UInt8) (bad : Bool) : Prop :=
  ∃ A c, Bk w r 83 #[.slice A l.length c, .bool bad] ∧ (A = none → c = 0) ∧ l.length ≤ c ∧ c ≤ maxLen ∧ Bs w r A l

section
variable {w w' : World} {r : Nat} {l : List UInt8} {bad : Bool}
theorem Rdr.lt (h : Rdr w r l bad) : r < w.heap.size := by obtain ⟨A, c, hk, _⟩ := h; exact hk.lt
theorem Rdr.below (h : Rdr w r l bad) {B : Nat} (hb : Below B w w') (hB : r < B) : Rdr w' r l bad := by
  obtain ⟨A, c, h1, h2, h3, h4, h5⟩ := h
  exact ⟨A, c, h1.below hb hB, h2, h3, h4, h5.below hb (by omega)⟩
theorem Rdr.drewN (h : Rdr w r l bad) (n : Nat) : Rdr (w.drewN n) r l bad := h
theorem Rdr.grown (h : Rdr w r l bad) {g : Nat} (hg : w.grownBy w' (some g)) (hr : r < g) : Rdr w' r l bad := by
  have hb : Below g w w' → Rdr w' r l bad := fun hb => h.below hb hr
  rcases Nat.lt_or_ge w.heap.size g with h1 | h1
  · exact h.below (B := w.heap.size) ((Below.refl _ _).grown hg (Nat.le_refl _) (fun k hk => by cases hk; omega)) h.lt
  · exact hb ((Below.refl _ _).grown hg h1 (fun k hk => by cases hk; exact Nat.le_refl _))
end

/-- what take hands back -/
def Taken (l : List UInt8) (ok : Bool) (r : Nat) (w : World) (e : Ending) (w' : World) : Prop :=
  ∃ A, e = .returned (.tuple #[.slice A l.length l.length, .bool ok]) ∧ (A = none → l.length = 0) ∧ Bs w' r A l

theorem take_yes (r : Nat) (l : List UInt8) (n : Nat) (w : World) (hr : Rdr w r l false) (hn : n ≤ l.length) :
    Calls Tryz.prog 53 #[.pointer (some ⟨r, 0, none⟩), .int .i64 n] w fun e w' => Taken (l.take n) true r w e w' ∧ Rdr w' r (l.drop n) false ∧ w.grownBy w' (some r) := by
  obtain ⟨A, c, hk, hA, hlc, hcm, hs⟩ := hr
  have k0 := hk.cell 0
  have k1 := hk.cell 1
  have f0 := hk.free 0
  have f1 := hk.free 1
  simp at k0 k1
  unfold maxLen at hcm
  have d1 : decide ((n : Int) < 0) = false := by simp
  have d2 : decide ((l.length : Int) < (n : Int)) = false := by simp; omega
  have Hk := Lib.hid hk
  have Hs := Lib.hid hs
  clear hk hs
  rcases A with _ | ad
  · have hc := hA rfl
    subst hc
    obtain rfl : n = 0 := by omega
    have hl0 : l = [] := List.eq_nil_of_length_eq_zero (by omega)
    subst hl0
    clear hA
    have hs1 : ∀ w, (Instr.slice 22 (.slice none 0 0) none (some (.int .i64 0)) (some (.int .i64 0))).run Tryz.prog w = .ok (.slice none 0 0) w := fun w => by kernel_rfl
    have hs2 : ∀ w, (Instr.slice 22 (.slice none 0 0) (some (.int .i64 0)) none none).run Tryz.prog w = .ok (.slice none 0 0) w := fun w => by kernel_rfl
    go_enter Tryz.func53, Tryz.ntmps53
    go_wp2_with fail
    go_step3
    go_wp2_with fail
    rw [Exit.noGoto_ret]
    go_ret2
    exact ⟨⟨none, rfl, fun _ => rfl, Rd.nil _ _ _ _⟩, ⟨none, 0, Hk.out.put 0 _, fun _ => rfl, Nat.le_refl _, by unfold maxLen; omega, Rd.nil _ _ _ _⟩, grown_setCell (World.grownBy.refl _ _) (.inl rfl) _⟩
  · clear hA
    go_enter Tryz.func53, Tryz.ntmps53
    go_wp2_with fail
    go_step3
    go_wp2_with fail
    all_goals go_ret2
    · have hn' : n = l.length := by omega
      subst hn'
      refine ⟨⟨some ad, by simp, (fun h => by cases h), ?_⟩, ⟨some ad, 0, ?_, (fun h => by cases h), by simp, by unfold maxLen; omega, ?_⟩, grown_setCell (World.grownBy.refl _ _) (.inl rfl) _⟩
      · rw [List.take_length]; exact Hs.out.setCell (Nat.le_refl _) _
      · have := Hk.out.put 0 (.slice (some ad) (l.length - l.length) 0)
        simpa using this
      · rw [List.drop_length]; exact Rd.nil _ _ _ _
    · have e1 : (l.take n).length = n := by simp; omega
      have e2 : (l.drop n).length = l.length - n := by simp
      refine ⟨⟨some ad, by rw [e1]; rfl, (fun h => by cases h), ?_⟩, ⟨some (ad.add n), c - n, ?_, (fun h => by cases h), by rw [e2]; omega, by unfold maxLen; omega, ?_⟩, grown_setCell (World.grownBy.refl _ _) (.inl rfl) _⟩
      · have := Rd.take (Hs.out.setCell (p := ⟨r, 0, none⟩) (Nat.le_refl r) (.slice (some (ad.add n)) (l.length - n) (c - n))) (k := n) hn
        rw [Nat.mul_one, ← bv_take] at this
        unfold Bs; rw [e1]; exact this
      · rw [e2]; exact Hk.out.put 0 _
      · have := Rd.skip (Hs.out.setCell (p := ⟨r, 0, none⟩) (Nat.le_refl r) (.slice (some (ad.add n)) (l.length - n) (c - n))) (k := n) hn
        rw [← bv_drop] at this
        unfold Bs; rw [e2]; exact this

theorem spoilt_end {w : World} {r : Nat} {a b : Value} (hk : Bk w r 83 #[a, b]) :
    Taken [] false r w (.returned (.tuple #[.slice none 0 0, .bool false])) ((w.setCell ⟨r, 0, none⟩ (.slice none 0 0)).setCell ⟨r, 1, none⟩ (.bool true)) ∧ Rdr ((w.setCell ⟨r, 0, none⟩ (.slice none 0 0)).setCell ⟨r, 1, none⟩ (.bool true)) r [] true ∧ w.grownBy ((w.setCell ⟨r, 0, none⟩ (.slice none 0 0)).setCell ⟨r, 1, none⟩ (.bool true)) (some r) := by
  have g1 := grown_setCell (World.grownBy.refl w (some r)) (p := ⟨r, 0, none⟩) (.inl rfl) (.slice none 0 0)
  have g2 := grown_setCell g1 (p := ⟨r, 1, none⟩) (.inl rfl) (.bool true)
  have k2 := (hk.put 0 (.slice none 0 0)).put 1 (.bool true)
  refine ⟨⟨none, rfl, fun _ => rfl, Rd.nil _ _ _ _⟩, ⟨none, 0, ?_, fun _ => rfl, Nat.le_refl _, by unfold maxLen; omega, Rd.nil _ _ _ _⟩, g2⟩
  simpa using k2

theorem take_no (r : Nat) (l : List UInt8) (bad : Bool) (n : Int) (w : World) (hr : Rdr w r l bad) (hn : bad = true ∨ n < 0 ∨ (l.length : Int) < n) :
    Calls Tryz.prog 53 #[.pointer (some ⟨r, 0, none⟩), .int .i64 n] w fun e w' => Taken [] false r w e w' ∧ Rdr w' r [] true ∧ w.grownBy w' (some r) := by
  obtain ⟨A, c, hk, hA, hlc, hcm, hs⟩ := hr
  have k0 := hk.cell 0
  have k1 := hk.cell 1
  have f0 := hk.free 0
  have f1 := hk.free 1
  simp at k0 k1
  unfold maxLen at hcm
  have Fin := Lib.hid (spoilt_end hk)
  clear hk hs hA
  go_enter Tryz.func53, Tryz.ntmps53
  go_wp2_with fail
  refine wp_scope_jumps 0 (fun a' w' => w' = w ∧ ∃ u1 u2 u3 u4 u5 u6 u7 u8 u9 u10 u11 u12 u13 u14 u15 u16 u17 u18 u19 u20 u21 u22 u23 u24 u25 u26 u27 u28 u29 u30 u31 u32 u33 u34 u35 u36 u37 u38 u39 u40 u41 u42 u43 u44 u45 u46 u47 u48 : Value, a' = { tmps := #[.pointer (some ⟨r, 0, none⟩), u1, u2, u3, u4, u5, u6, u7, u8, u9, u10, u11, u12, u13, u14, u15, u16, u17, u18, u19, u20, u21, u22, u23, u24, u25, u26, u27, u28, u29, u30, u31, u32, u33, u34, u35, u36, u37, u38, u39, u40, u41, u42, u43, u44, u45, u46, u47, u48], defers := [] }) (fun _ _ => 0) rfl ?_ ?_
  · cases bad
    · by_cases h1 : n < 0
      · clear hn
        have d1 : decide (n < 0) = true := by simpa using h1
        go_wp2_with fail
        go_step3
        exact ⟨rfl, rfl, _, _, _, _, _, _, _, _, _, _, _, _, _, _, _, _, _, _, _, _, _, _, _, _, _, _, _, _, _, _, _, _, _, _, _, _, _, _, _, _, _, _, _, _, _, _, _, _, rfl⟩
      · have d1 : decide (n < 0) = false := by simpa using h1
        have d2 : decide ((l.length : Int) < n) = true := by rcases hn with h | h | h <;> simp_all
        clear hn
        go_wp2_with fail
        go_step3
        exact ⟨rfl, rfl, _, _, _, _, _, _, _, _, _, _, _, _, _, _, _, _, _, _, _, _, _, _, _, _, _, _, _, _, _, _, _, _, _, _, _, _, _, _, _, _, _, _, _, _, _, _, _, _, rfl⟩
    · clear hn
      go_wp2_with fail
      go_step3
      exact ⟨rfl, rfl, _, _, _, _, _, _, _, _, _, _, _, _, _, _, _, _, _, _, _, _, _, _, _, _, _, _, _, _, _, _, _, _, _, _, _, _, _, _, _, _, _, _, _, _, _, _, _, _, rfl⟩
  · rintro a' w' ⟨rfl, u1, u2, u3, u4, u5, u6, u7, u8, u9, u10, u11, u12, u13, u14, u15, u16, u17, u18, u19, u20, u21, u22, u23, u24, u25, u26, u27, u28, u29, u30, u31, u32, u33, u34, u35, u36, u37, u38, u39, u40, u41, u42, u43, u44, u45, u46, u47, u48, rfl⟩
    go_wp2_with fail
    simp only [Exit.jump]
    go_ret2
    exact Fin.out
end Go.Proofs.YtaeeeinpelfppaaGreat.octet
