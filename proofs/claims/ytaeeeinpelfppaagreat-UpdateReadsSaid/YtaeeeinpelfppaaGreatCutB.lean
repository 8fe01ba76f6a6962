/- b[:n], b[m:n], b[n:] of bytes read through a slice, nil or not, within its length. No condition. -/
import Derived.Test.YtaeeeinpelfppaaGreatAttrNext
namespace Go.Proofs.YtaeeeinpelfppaaGreat.attr
open Go.RowKit Go.Proofs.YtaeeeinpelfppaaGreat.kit Go.Proofs.YtaeeeinpelfppaaGreat.mem Go.Proofs.YtaeeeinpelfppaaGreat.foot Go.Proofs.YtaeeeinpelfppaaGreat.octet
set_option linter.unusedVariables false
section
variable {w : World} {G : Foot} {A : Option Addr} {c : Nat} {l : List UInt8}
theorem Bn.part {ad : Addr} (h : Bn w G (some ad) c l) {lo hi : Nat} (h1 : lo ≤ hi) (h2 : hi ≤ l.length) : Bn w G (some (ad.add lo)) (c - lo) ((l.drop lo).take (hi - lo)) := by
  have hc := h.cap
  have hm := h.max
  refine ⟨(fun e => by cases e), by rw [List.length_take, List.length_drop]; omega, by omega, ?_⟩
  have h3 := (Rg.skip h.rg (k := lo) (by omega)).take (k := hi - lo) (by omega)
  have e : (l.drop lo).take (hi - lo) = (l.drop lo).take (hi - lo) := rfl
  rw [Nat.mul_one] at h3
  have e2 : bv ((l.drop lo).take (hi - lo)) = ((bv l).drop lo).take ((hi - lo) * 1) := by simp [bv, List.map_take, List.map_drop]
  rw [e2, show ((l.drop lo).take (hi - lo)).length = hi - lo by rw [List.length_take, List.length_drop]; omega]
  exact h3
theorem cutB_lo (h : Bn w G A c l) {n : Nat} (hn : n ≤ l.length) :
    (∀ w', (Instr.slice 22 (.slice A l.length c) none (some (.int .i64 n)) none).run Tryz.prog w' = .ok (.slice A n c) w') ∧ (∀ w', Bn w' G A c l → Bn w' G A c (l.take n)) := by
  have hc := h.cap
  have hm := h.max
  have hA := h.nil
  refine ⟨fun w' => ?_, fun w' h => ?_⟩
  · unfold maxLen at hm
    rcases A with _ | ad
    · obtain rfl := hA rfl
      have h0 : l.length = 0 := by omega
      obtain rfl : n = 0 := by omega
      rw [h0]
      have h : ∀ w, (Instr.slice 22 (.slice none 0 0) none (some (.int .i64 0)) none).run Tryz.prog w = .ok (.slice none 0 0) w := fun w => by kernel_rfl
      exact h w'
    · have h1 : (n : Int) ≤ (c : Int) := by omega
      go_simp
  · have h1 := h.rg.take (k := n) hn
    rw [Nat.mul_one] at h1
    exact ⟨h.nil, by rw [List.length_take]; omega, h.max, by rw [show bv (l.take n) = (bv l).take n by simp [bv, List.map_take], show (l.take n).length = n by rw [List.length_take]; omega]; exact h1⟩
theorem cutB_hi (h : Bn w G A c l) {n : Nat} (hn : n ≤ l.length) :
    ∃ A' c', (∀ w', (Instr.slice 22 (.slice A l.length c) (some (.int .i64 n)) none none).run Tryz.prog w' = .ok (.slice A' (l.length - n) c') w') ∧ (∀ w', Bn w' G A c l → Bn w' G A' c' (l.drop n)) := by
  have hc := h.cap
  have hm := h.max
  have hA := h.nil
  have hm' := hm
  unfold maxLen at hm
  rcases A with _ | ad
  · obtain rfl := hA rfl
    have h0 : l.length = 0 := by omega
    obtain rfl : n = 0 := by omega
    refine ⟨none, 0, fun w' => ?_, fun w' h => h⟩
    rw [h0]
    have h : ∀ w, (Instr.slice 22 (.slice none 0 0) (some (.int .i64 0)) none none).run Tryz.prog w = .ok (.slice none 0 0) w := fun w => by kernel_rfl
    exact h w'
  · by_cases hz : n = c
    · have e0 : l.length = n := by omega
      refine ⟨some ad, 0, fun w' => ?_, fun w' h => ?_⟩
      · rw [e0, hz]
        go_simp
      · rw [List.drop_of_length_le (by omega)]
        exact ⟨(fun e => by cases e), Nat.le_refl _, Nat.zero_le _, Rg.nil _ _ _ _⟩
    · refine ⟨some (ad.add n), c - n, fun w' => ?_, fun w' h => ?_⟩
      · have h1 : (n : Int) ≤ (l.length : Int) := by omega
        go_simp
        intro h; exact absurd h.symm hz
      · have h1 := h.part (lo := n) (hi := l.length) hn (Nat.le_refl _)
        rwa [List.take_of_length_le (by rw [List.length_drop]; omega)] at h1
theorem cutB_mid (h : Bn w G A c l) {lo hi : Nat} (h1 : lo ≤ hi) (h2 : hi ≤ l.length) :
    ∃ A' c', (∀ w', (Instr.slice 22 (.slice A l.length c) (some (.int .i64 lo)) (some (.int .i64 hi)) none).run Tryz.prog w' = .ok (.slice A' (hi - lo) c') w') ∧ (∀ w', Bn w' G A c l → Bn w' G A' c' ((l.drop lo).take (hi - lo))) := by
  have hc := h.cap
  have hm := h.max
  have hA := h.nil
  have hm' := hm
  unfold maxLen at hm
  rcases A with _ | ad
  · obtain rfl := hA rfl
    have h0 : l.length = 0 := by omega
    obtain rfl : lo = 0 := by omega
    obtain rfl : hi = 0 := by omega
    refine ⟨none, 0, fun w' => ?_, fun w' h => by simpa using ⟨(fun _ => rfl), Nat.le_refl _, Nat.zero_le _, Rg.nil _ _ _ _⟩⟩
    rw [h0]
    have h : ∀ w, (Instr.slice 22 (.slice none 0 0) (some (.int .i64 0)) (some (.int .i64 0)) none).run Tryz.prog w = .ok (.slice none 0 0) w := fun w => by kernel_rfl
    exact h w'
  · by_cases hz : lo = c
    · have e1 : lo = l.length := by omega
      have e2 : hi = l.length := by omega
      refine ⟨some ad, 0, fun w' => ?_, fun w' h => ?_⟩
      · have e3 : hi = lo := by omega
        rw [e3, hz, show l.length = c by omega]
        go_simp
      · rw [show hi - lo = 0 by omega, List.take_zero]
        exact ⟨(fun e => by cases e), Nat.le_refl _, Nat.zero_le _, Rg.nil _ _ _ _⟩
    · refine ⟨some (ad.add lo), c - lo, fun w' => ?_, fun w' h => h.part h1 h2⟩
      have a1 : (lo : Int) ≤ (hi : Int) := by omega
      have a2 : (hi : Int) ≤ (c : Int) := by omega
      have a3 : ¬ c = lo := by omega
      have a4 : c - lo ≠ 0 := by omega
      go_simp
      try (intro h; omega)
end
end Go.Proofs.YtaeeeinpelfppaaGreat.attr
