/- What confluenceref01.Cmp, confluencelaw07.Few, confluenceref07.Same and Sort return, for rows of prefixes. Conditions as each lemma states. -/
import Derived.Test.YtbljhjfaimnieaaGreatNlriSort
import Derived.Test.YtbljhjfaimnieaaGreatPfxRef0
import Derived.Test.YtbljhjfaimnieaaGreatGround
import Derived.Deep.RegionHeld3
import Derived.Deep.QuietTactic
import Derived.OwnWalk
namespace Go.Proofs.YtbljhjfaimnieaaGreat.srt
open Go.RowKit Go.Proofs.YtbljhjfaimnieaaGreat.kit Go.Proofs.YtbljhjfaimnieaaGreat.pfx Go.Proofs.YtbljhjfaimnieaaGreat.mem Go.Proofs.YtbljhjfaimnieaaGreat.foot
set_option linter.unusedVariables false
set_option linter.unusedSimpArgs false

theorem fv_take2 (l : List Pf) (n : Nat) : (fv l).take (n * 2) = fv (l.take n) := (fv_take l n).symm
theorem fv_drop2 (l : List Pf) (n : Nat) : (fv l).drop (n * 2) = fv (l.drop n) := (fv_drop l n).symm

theorem fv_two {w : World} {G : Foot} {b off n : Nat} {l : List Pf} (h : Rg w G 2 (some ⟨b, off, none⟩) n (fv l)) {i : Nat} {p : Pf} (hp : l[i]? = some p) (hn : 0 < n) :
    w.cell? ⟨b, off + i * 2, none⟩ = some (.int .u32 (p.1 : Int)) ∧ w.cell? ⟨b, off + i * 2 + 1, none⟩ = some (.int .i64 p.2) ∧ b < w.heap.size := by
  obtain ⟨b', off', e, _, hl, hc⟩ := h.2 hn
  cases e
  have hq := fv_at l i p hp
  exact ⟨hc _ _ hq.1, by rw [Nat.add_assoc]; exact hc _ _ hq.2, hl⟩

theorem scut_lo (A : Option Addr) (c l n : Nat) (hA : A = none → c = 0) (hc : l ≤ c) (hm : c ≤ maxLen) (hn : n ≤ l) (w : World) :
    (Instr.slice 38 (.slice A l c) none (some (.int .i64 n)) none).run Tryz.prog w = .ok (.slice A n c) w := by
  unfold maxLen at hm
  rcases A with _ | ad
  · have := hA rfl
    subst this
    obtain rfl : l = 0 := by omega
    obtain rfl : n = 0 := by omega
    have h : ∀ w, (Instr.slice 38 (.slice none 0 0) none (some (.int .i64 0)) none).run Tryz.prog w = .ok (.slice none 0 0) w := fun w => by kernel_rfl
    exact h w
  · have h1 : (n : Int) ≤ (c : Int) := by omega
    go_simp
theorem scut_hi (A : Option Addr) (c l n : Nat) (hA : A = none → c = 0) (hc : l ≤ c) (hm : c ≤ maxLen) (hn : n ≤ l) :
    ∃ A' c', (A' = none → c' = 0) ∧ l - n ≤ c' ∧ c' ≤ maxLen ∧ (∀ w, (Instr.slice 38 (.slice A l c) (some (.int .i64 n)) none none).run Tryz.prog w = .ok (.slice A' (l - n) c') w) ∧ (∀ w G (x : List Value), Rg w G 2 A l x → Rg w G 2 A' (l - n) (x.drop (n * 2))) := by
  have hm' := hm
  unfold maxLen at hm
  rcases A with _ | ad
  · have := hA rfl
    subst this
    obtain rfl : l = 0 := by omega
    obtain rfl : n = 0 := by omega
    exact ⟨none, 0, fun _ => rfl, Nat.le_refl _, Nat.zero_le _, fun w => by kernel_rfl, fun w G x h => by simpa using h⟩
  · by_cases hz : n = c
    · subst hz
      obtain rfl : l = n := by omega
      refine ⟨some ad, 0, (fun h => by cases h), by omega, Nat.zero_le _, fun w => ?_, fun w G x h => ?_⟩
      · go_simp
      · rw [List.drop_of_length_le (by rw [h.1]; exact Nat.le_refl _), Nat.sub_self]; exact Rg.nil _ _ _ _
    · refine ⟨some (ad.add (n * 2)), c - n, (fun h => by cases h), by omega, by unfold maxLen; omega, fun w => ?_, fun w G x h => h.skip hn⟩
      have h1 : (n : Int) ≤ (l : Int) := by omega
      go_simp
      intro h; exact absurd h.symm hz
end Go.Proofs.YtbljhjfaimnieaaGreat.srt
