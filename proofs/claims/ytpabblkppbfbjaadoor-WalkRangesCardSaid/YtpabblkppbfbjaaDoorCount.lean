/- How many addresses lists of blocks, and parts, have. Plain Lean. -/
import Derived.Test.YtpabblkppbfbjaaDoorPartsMath
namespace Go.Proofs.YtpabblkppbfbjaaDoor.wlk
set_option linter.unusedVariables false

/-- how many below N -/
def cnt (f : Nat → Bool) : Nat → Nat
  | 0 => 0
  | n + 1 => cnt f n + if f n = true then 1 else 0
theorem cnt_congr {f g : Nat → Bool} : ∀ (N : Nat), (∀ n, n < N → f n = g n) → cnt f N = cnt g N
  | 0, _ => rfl
  | n + 1, h => by
    unfold cnt
    rw [cnt_congr n fun k hk => h k (by omega), h n (by omega)]
theorem cnt_or {f g : Nat → Bool} : ∀ (N : Nat), (∀ n, n < N → ¬ (f n = true ∧ g n = true)) → cnt (fun n => f n || g n) N = cnt f N + cnt g N
  | 0, _ => rfl
  | n + 1, h => by
    have ih := cnt_or n fun k hk => h k (by omega)
    have h1 := h n (by omega)
    simp only [cnt]
    rw [ih]
    by_cases e1 : f n = true <;> by_cases e2 : g n = true
    · exact absurd ⟨e1, e2⟩ h1
    · simp [e1, e2]; omega
    · simp [e1, e2]; omega
    · simp [e1, e2]
theorem cnt_one (a s : Nat) : ∀ (N : Nat), cnt (fun n => decide (a ≤ n ∧ n < a + s)) N = min N (a + s) - a
  | 0 => by simp [cnt]
  | n + 1 => by
    simp only [cnt]
    rw [cnt_one a s n]
    by_cases h : a ≤ n ∧ n < a + s
    · rw [if_pos (by simpa using h)]; omega
    · rw [if_neg (by simpa using h)]; omega
theorem cnt_none : ∀ (N : Nat), cnt (fun _ => false) N = 0
  | 0 => rfl
  | n + 1 => by simp only [cnt]; rw [cnt_none n]; simp
/-- pieces: where each begins, and how many -/
def ivB (l : List (Nat × Nat)) (n : Nat) : Bool := l.any fun p => decide (p.1 ≤ n ∧ n < p.1 + p.2)
theorem ivB_iff (l : List (Nat × Nat)) (n : Nat) : ivB l n = true ↔ ∃ p ∈ l, p.1 ≤ n ∧ n < p.1 + p.2 := by simp [ivB]
theorem cnt_iv (N : Nat) : ∀ (l : List (Nat × Nat)), l.Pairwise (fun p q => p.1 + p.2 ≤ q.1) → (∀ p ∈ l, p.1 + p.2 ≤ N) → cnt (ivB l) N = (l.map (·.2)).sum
  | [], _, _ => cnt_none N
  | p :: l, h, hN => by
    obtain ⟨h1, h2⟩ := List.pairwise_cons.1 h
    have ih := cnt_iv N l h2 fun q hq => hN q (by simp [hq])
    have e : ivB (p :: l) = fun n => (fun n => decide (p.1 ≤ n ∧ n < p.1 + p.2)) n || ivB l n := by
      funext n
      simp [ivB]
    have hp := hN p (by simp)
    rw [e, cnt_or N, cnt_one, ih]
    · simp only [List.map_cons, List.sum_cons]; omega
    · rintro n hn ⟨h3, h4⟩
      have h3 : p.1 ≤ n ∧ n < p.1 + p.2 := by simpa using h3
      obtain ⟨q, hq, h5⟩ := (ivB_iff l n).1 h4
      have := h1 q hq
      omega
/-- blocks as pieces -/
def bi (x : Blk) : Nat × Nat := (x.1, 2 ^ x.2)
def pi2 (p : Prt) : Nat × Nat := (p.1, p.2 + 1 - p.1)
theorem cov_iv (l : List Blk) (n : Nat) : ivB (l.map bi) n = true ↔ Cov l n := by
  rw [ivB_iff]
  unfold Cov InB
  constructor
  · rintro ⟨p, hp, h⟩
    obtain ⟨x, hx, rfl⟩ := List.mem_map.1 hp
    exact ⟨x, hx, h⟩
  · rintro ⟨x, hx, h⟩
    exact ⟨bi x, List.mem_map_of_mem hx, h⟩
theorem inP_iv (l : List Prt) (h : ∀ p ∈ l, PartOk p) (n : Nat) : ivB (l.map pi2) n = true ↔ InP l n := by
  rw [ivB_iff]
  unfold InP
  constructor
  · rintro ⟨x, hx, h1⟩
    obtain ⟨p, hp, rfl⟩ := List.mem_map.1 hx
    have := h p hp
    unfold PartOk at this
    simp only [pi2] at h1
    exact ⟨p, hp, by omega⟩
  · rintro ⟨p, hp, h1⟩
    have := h p hp
    unfold PartOk at this
    refine ⟨pi2 p, List.mem_map_of_mem hp, ?_⟩
    simp only [pi2]
    omega
/-- how many addresses blocks have -/
def blkSum (l : List Blk) : Nat := (l.map fun x => 2 ^ x.2).sum
theorem blkSum_cnt {l : List Blk} (h : Chain l) (hN : ∀ x ∈ l, x.1 + 2 ^ x.2 ≤ 4294967296) : blkSum l = cnt (ivB (l.map bi)) 4294967296 := by
  rw [cnt_iv 4294967296 (l.map bi)]
  · unfold blkSum
    rw [List.map_map]
    rfl
  · rw [List.pairwise_map]
    exact h
  · intro p hp
    obtain ⟨x, hx, rfl⟩ := List.mem_map.1 hp
    exact hN x hx
theorem sizeP2_cnt {l : List Prt} (h : Parts l) : sizeP2 l = cnt (ivB (l.map pi2)) 4294967296 := by
  rw [cnt_iv 4294967296 (l.map pi2)]
  · unfold sizeP2
    rw [List.map_map]
    rfl
  · rw [List.pairwise_map]
    refine List.Pairwise.imp_of_mem ?_ h.apart
    intro p q hp hq hpq
    have := h.ok p hp
    unfold PartOk at this
    simp only [pi2]
    omega
  · intro p hp
    obtain ⟨x, hx, rfl⟩ := List.mem_map.1 hp
    have := h.ok x hx
    unfold PartOk at this
    simp only [pi2]
    omega
/-- the same addresses: as many -/
theorem blk_part {l : List Blk} {r : List Prt} (h : Chain l) (hN : ∀ x ∈ l, x.1 + 2 ^ x.2 ≤ 4294967296) (hr : Parts r) (hc : ∀ n, Cov l n ↔ InP r n) : blkSum l = sizeP2 r := by
  rw [blkSum_cnt h hN, sizeP2_cnt hr]
  refine cnt_congr _ fun n _ => ?_
  rw [Bool.eq_iff_iff, cov_iv, inP_iv r hr.ok]
  exact hc n
/-- of two that have none in common -/
theorem blk_part2 {l m : List Blk} {r : List Prt} (h : Chain l) (hN : ∀ x ∈ l, x.1 + 2 ^ x.2 ≤ 4294967296) (h2 : Chain m) (hN2 : ∀ x ∈ m, x.1 + 2 ^ x.2 ≤ 4294967296) (hr : Parts r)
    (hc : ∀ n, (Cov l n ∨ Cov m n) ↔ InP r n) (hd : ∀ n, ¬ (Cov l n ∧ Cov m n)) : blkSum l + blkSum m = sizeP2 r := by
  rw [blkSum_cnt h hN, blkSum_cnt h2 hN2, sizeP2_cnt hr, ← cnt_or]
  · refine cnt_congr _ fun n _ => ?_
    rw [Bool.eq_iff_iff, Bool.or_eq_true, cov_iv, cov_iv, inP_iv r hr.ok]
    exact hc n
  · rintro n _ ⟨h3, h4⟩
    exact hd n ⟨(cov_iv l n).1 h3, (cov_iv m n).1 h4⟩
end Go.Proofs.YtpabblkppbfbjaaDoor.wlk
