/- What confluenceref05.At returns; rows of keys and counts in memory. Condition: at most 10^5 rows. -/
import Derived.Test.YtafepficapdepaaTallyMath
import Derived.Test.YtafepficapdepaaSplice
import Derived.Deep.RegionHeld3
namespace Go.Proofs.Ytafepficapdepaa.tally
open Go.RowKit Go.Proofs.Ytafepficapdepaa.kit Go.Proofs.Ytafepficapdepaa.mem Go.Proofs.Ytafepficapdepaa.foot Go.Proofs.Ytafepficapdepaa.maps
set_option linter.unusedVariables false
set_option linter.unusedSimpArgs false
/-- rows as cells -/
def kv3 : KC → List Value
  | [] => []
  | r :: R => .int .u32 r.1 :: .int .i64 r.2.1 :: .int .i64 r.2.2 :: kv3 R
theorem kv3_len : ∀ R : KC, (kv3 R).length = R.length * 3
  | [] => rfl
  | r :: R => by simp [kv3, kv3_len R]; omega
theorem kv3_app : ∀ R S : KC, kv3 (R ++ S) = kv3 R ++ kv3 S
  | [], S => rfl
  | r :: R, S => by simp [kv3, kv3_app R S]
theorem kv3_at : ∀ (R : KC) (k : Nat) (hk : k < R.length), (kv3 R)[k * 3]? = some (.int .u32 R[k].1) ∧ (kv3 R)[k * 3 + 1]? = some (.int .i64 R[k].2.1) ∧ (kv3 R)[k * 3 + 2]? = some (.int .i64 R[k].2.2)
  | r :: R, 0, _ => by simp [kv3]
  | r :: R, k + 1, hk => by
    have := kv3_at R k (by simpa using hk)
    rw [show (k + 1) * 3 = k * 3 + 1 + 1 + 1 by omega, show k * 3 + 1 + 1 + 1 + 1 = k * 3 + 1 + 1 + 1 + 1 from rfl]
    simpa [kv3] using this
theorem kv3_one : ∀ (R : KC), ∀ u ∈ kv3 R, u.oneCell' = true
  | [], u, hu => by simp [kv3] at hu
  | r :: R, u, hu => by
    simp only [kv3, List.mem_cons] at hu
    rcases hu with rfl | rfl | rfl | hu
    · rfl
    · rfl
    · rfl
    · exact kv3_one R u hu
theorem kv3_take : ∀ (l : KC) (n : Nat), (kv3 l).take (n * 3) = kv3 (l.take n)
  | [], n => by simp [kv3]
  | p :: l, 0 => by simp [kv3]
  | p :: l, n + 1 => by
    have ih := kv3_take l n
    rw [show (n + 1) * 3 = n * 3 + 1 + 1 + 1 from by omega]
    simp [kv3, ih]
theorem kv3_drop : ∀ (l : KC) (n : Nat), (kv3 l).drop (n * 3) = kv3 (l.drop n)
  | [], n => by simp [kv3]
  | p :: l, 0 => by simp [kv3]
  | p :: l, n + 1 => by
    have ih := kv3_drop l n
    rw [show (n + 1) * 3 = n * 3 + 1 + 1 + 1 from by omega]
    simp [kv3, ih]
/-- a row's counts written anew -/
theorem kv3_set : ∀ (R : KC) (k : Nat) (hk : k < R.length) (a b : Int), ((kv3 R).set (k * 3 + 1) (.int .i64 a)).set (k * 3 + 2) (.int .i64 b) = kv3 (R.set k (R[k].1, a, b))
  | r :: R, 0, _, a, b => by simp [kv3]
  | r :: R, k + 1, hk, a, b => by
    have := kv3_set R k (by simpa using hk) a b
    rw [show (k + 1) * 3 + 1 = k * 3 + 1 + 1 + 1 + 1 by omega, show (k + 1) * 3 + 2 = k * 3 + 2 + 1 + 1 + 1 by omega]
    simp [kv3, this]
/-- a row's cells -/
theorem row_cell {B : Nat} {w : World} {A : Option Addr} {c : Nat} {R : KC} (h : Row3 B w 3 A R.length c (kv3 R)) {k : Nat} (hk : k < R.length) :
    ∃ b off, A = some ⟨b, off, none⟩ ∧ b < w.heap.size ∧ w.cell? ⟨b, off + k * 3, none⟩ = some (.int .u32 R[k].1) ∧ w.cell? ⟨b, off + k * 3 + 1, none⟩ = some (.int .i64 R[k].2.1) ∧ w.cell? ⟨b, off + k * 3 + 2, none⟩ = some (.int .i64 R[k].2.2) := by
  obtain ⟨x0, x1, x2⟩ := kv3_at R k hk
  obtain ⟨b, off, e, hb, _, c0⟩ := h.cell (j := 0) hk (by omega) x0
  obtain ⟨b', off', e', _, _, c1⟩ := h.cell (j := 1) hk (by omega) x1
  obtain ⟨b2, off2, e2, _, _, c2⟩ := h.cell (j := 2) hk (by omega) x2
  rw [e] at e' e2
  cases e'
  cases e2
  exact ⟨b, off, e, hb, c0, c1, c2⟩
set_option maxRecDepth 100000 in
theorem refAt_any (B : Nat) (R : KC) (A : Option Addr) (c : Nat) (k : Int) (w : World) (hl : R.length ≤ 100000) (hr : Row3 B w 3 A R.length c (kv3 R)) :
    Calls Try.prog 19 #[.slice A R.length c, .int .u32 k] w fun e w' => e = .returned (.int .i64 (rAt R k)) ∧ Below w.heap.size w w' := by
  have HR := Lib.hid hr
  clear hr
  obtain ⟨z, hz⟩ : ∃ z, z = rAt R k := ⟨_, rfl⟩
  have HZ := Lib.hid hz
  rw [← hz]
  clear hz
  go_enter Try.func19, Try.ntmps19
  go_wp2_with fail
  go_loopw [5] (fun v5 wr => ∃ i : Nat, i ≤ R.length ∧ v5 = .int .i64 i ∧ (∀ j (h : j < R.length), j < i → R[j].1 ≠ k) ∧ Below w.heap.size w wr) (fun v5 _ => R.length - (intOf v5).toNat)
  case atStart => exact ⟨0, by omega, rfl, fun j _ h => by omega, Below.refl _ _⟩
  case round =>
    obtain ⟨i, hi, rfl, hn, hb⟩ := hrel
    have HN := Lib.hid hn
    have HB := Lib.hid hb
    clear hn hb
    by_cases hlt : i < R.length
    · obtain ⟨b, off, rfl, hbl, c0, _, _⟩ := row_cell HR.out hlt
      have q0 := (HB.out.cell (p := ⟨b, off + i * 3, none⟩) hbl).trans c0
      have hlt' : (i : Int) < (R.length : Int) := by omega
      clear c0
      by_cases hk : R[i].1 = k
      · have e1 : (R[i].1 == k) = true := by simpa using hk
        have HE : Hid (z = (i : Int)) := HZ.out.trans (rAt_found hlt hk fun j hj => HN.out j (by omega) hj)
        generalize R[i].1 = y at *
        go_wp2_with fail
        go_ret
        exact ⟨by rw [HE.out]; rfl, HB.out⟩
      · have e1 : (R[i].1 == k) = false := by simpa using hk
        have HN2 : Hid (∀ j (h : j < R.length), j < i + 1 → R[j].1 ≠ k) := fun j h hj => by
          by_cases e : j = i
          · subst e; exact hk
          · exact HN.out j h (by omega)
        generalize R[i].1 = y at *
        go_wp2_with fail
        go_roundw
        case rel => exact ⟨i + 1, by omega, by go_num, HN2.out, HB.out⟩
        case measure => simp [intOf]; omega
    · obtain rfl : i = R.length := by omega
      have HE : Hid (z = -1) := HZ.out.trans (rAt_miss fun j hj => HN.out j hj hj)
      go_wp2_with fail
      go_ret
      exact ⟨by rw [HE.out]; rfl, HB.out⟩

theorem info_row : (Try.prog.info? 58).map (fun i => (i.zero, i.size, i.bytes)) = some (some (.agg #[.int .u32 0, .int .i64 0, .int .i64 0]), 3, 24) := by kernel_rfl
theorem rcut_lo (A : Option Addr) (c l n : Nat) (hA : A = none → c = 0) (hc : l ≤ c) (hm : c ≤ maxLen) (hn : n ≤ l) (w : World) :
    (Instr.slice 52 (.slice A l c) none (some (.int .i64 n)) none).run Try.prog w = .ok (.slice A n c) w := by
  unfold maxLen at hm
  rcases A with _ | ad
  · have := hA rfl
    subst this
    obtain rfl : l = 0 := by omega
    obtain rfl : n = 0 := by omega
    have h : ∀ w, (Instr.slice 52 (.slice none 0 0) none (some (.int .i64 0)) none).run Try.prog w = .ok (.slice none 0 0) w := fun w => by kernel_rfl
    exact h w
  · have h1 : (n : Int) ≤ (c : Int) := by omega
    go_simp
theorem rcut_hi (A : Option Addr) (c l n : Nat) (hA : A = none → c = 0) (hc : l ≤ c) (hm : c ≤ maxLen) (hn : n ≤ l) :
    ∃ A' c', (A' = none → c' = 0) ∧ l - n ≤ c' ∧ c' ≤ maxLen ∧ (∀ w, (Instr.slice 52 (.slice A l c) (some (.int .i64 n)) none none).run Try.prog w = .ok (.slice A' (l - n) c') w) ∧ (∀ w G (x : List Value), Rg w G 3 A l x → Rg w G 3 A' (l - n) (x.drop (n * 3))) := by
  have hm' := hm
  unfold maxLen at hm
  rcases A with _ | ad
  · have := hA rfl
    subst this
    obtain rfl : l = 0 := by omega
    obtain rfl : n = 0 := by omega
    exact ⟨none, 0, fun _ => rfl, Nat.le_refl _, Nat.zero_le _, fun w => by kernel_rfl, fun w G x h => by simpa using h⟩
  · by_cases hz : n = c
    · subst hz
      obtain rfl : l = n := by omega
      refine ⟨some ad, 0, (fun h => by cases h), by omega, Nat.zero_le _, fun w => ?_, fun w G x h => ?_⟩
      · go_simp
      · rw [List.drop_of_length_le (by rw [h.1]; exact Nat.le_refl _), Nat.sub_self]; exact Rg.nil _ _ _ _
    · refine ⟨some (ad.add (n * 3)), c - n, (fun h => by cases h), by omega, by unfold maxLen; omega, fun w => ?_, fun w G x h => h.skip hn⟩
      have h1 : (n : Int) ≤ (l : Int) := by omega
      go_simp
      intro h; exact absurd h.symm hz
/-- rows handed back -/
def RowsP (B : Nat) (w : World) (R : KC) (e : Ending) (w' : World) : Prop := ∃ A c, e = .returned (.slice A R.length c) ∧ Row3 B w' 3 A R.length c (kv3 R) ∧ Below w.heap.size w w'
theorem rows_of {B c : Nat} {w w' : World} {e : TypeId} {A : Option Addr} {R : KC} {n : Nat} {xs : List Value} (h : Acc w e 3 w' A n c xs) (hB : B ≤ w.heap.size) (hn : n = R.length) (hx : xs = kv3 R) : RowsP B w R (.returned (.slice A n c)) w' := by
  subst hn hx
  exact ⟨A, c, rfl, h.row hB, h.bel⟩

end Go.Proofs.Ytafepficapdepaa.tally
