/- Which prefixes walk.Steps lists, said by what covers what; how many. Plain Lean. -/
import Derived.Test.YtpabblkppbfbjaaWalkLives
import Derived.Test.YtpabblkppbfbjaaWalkStepsTop
import Derived.Test.YtpabblkppbfbjaaPfxRef
namespace Go.Proofs.Ytpabblkppbfbjaa.wlk
open Go.RowKit Go.Proofs.Ytpabblkppbfbjaa.kit Go.Proofs.Ytpabblkppbfbjaa.pfx Go.Proofs.Ytpabblkppbfbjaa.mem Go.Proofs.Ytpabblkppbfbjaa.foot Go.Proofs.Ytpabblkppbfbjaa.tri Go.Proofs.Ytpabblkppbfbjaa.srt
set_option linter.unusedVariables false
set_option linter.unusedSimpArgs false

theorem mem_steps : ∀ (d : Nat) (k x : Key), k.length ≤ 32 → (x ∈ stepsK d k ↔ k <+: x ∧ x.length ≤ k.length + d ∧ x.length ≤ 32)
  | 0, k, x, h => by
    simp only [stepsK, List.mem_singleton]
    constructor
    · rintro rfl; exact ⟨List.prefix_refl _, by omega, h⟩
    · rintro ⟨h1, h2, _⟩
      exact (h1.eq_of_length (by have := h1.length_le; omega)).symm
  | d + 1, k, x, h => by
    unfold stepsK
    split
    · rename_i hk
      have I1 := mem_steps d (k ++ [false]) x (by simp; omega)
      have I2 := mem_steps d (k ++ [true]) x (by simp; omega)
      rw [List.mem_cons, List.mem_append, I1, I2]
      simp only [List.length_append, List.length_singleton]
      constructor
      · rintro (rfl | ⟨h1, h2, h3⟩ | ⟨h1, h2, h3⟩)
        · exact ⟨List.prefix_refl _, by omega, h⟩
        · exact ⟨(List.prefix_append _ _).trans h1, by omega, h3⟩
        · exact ⟨(List.prefix_append _ _).trans h1, by omega, h3⟩
      · rintro ⟨⟨t, rfl⟩, h2, h3⟩
        rcases t with _ | ⟨b, t⟩
        · left; simp
        · right
          have e : k ++ b :: t = (k ++ [b]) ++ t := by simp
          rw [e] at h2 h3 ⊢
          cases b
          · left; exact ⟨List.prefix_append _ _, by simp only [List.length_append, List.length_singleton] at h2 ⊢; omega, h3⟩
          · right; exact ⟨List.prefix_append _ _, by simp only [List.length_append, List.length_singleton] at h2 ⊢; omega, h3⟩
    · rename_i hk
      rw [List.mem_singleton]
      constructor
      · rintro rfl; exact ⟨List.prefix_refl _, by omega, h⟩
      · rintro ⟨h1, h2, h3⟩
        exact (h1.eq_of_length (by have := h1.length_le; omega)).symm

theorem steps_num : ∀ (d : Nat) (k : Key), k.length ≤ 32 → (stepsK d k).length + 1 = 2 ^ (min d (32 - k.length) + 1)
  | 0, k, h => by simp [stepsK]
  | d + 1, k, h => by
    unfold stepsK
    split
    · rename_i hk
      have I1 := steps_num d (k ++ [false]) (by simp; omega)
      have I2 := steps_num d (k ++ [true]) (by simp; omega)
      simp only [List.length_append, List.length_singleton] at I1 I2
      have e : min (d + 1) (32 - k.length) = min d (32 - (k.length + 1)) + 1 := by omega
      rw [e, Nat.pow_succ]
      simp only [List.length_cons, List.length_append]
      omega
    · rename_i hk
      have e : min (d + 1) (32 - k.length) = 0 := by omega
      rw [e]; rfl

theorem steps_nodup : ∀ (d : Nat) (k : Key), k.length ≤ 32 → (stepsK d k).Nodup
  | 0, k, h => by simp [stepsK]
  | d + 1, k, h => by
    unfold stepsK
    split
    · rename_i hk
      have I1 := steps_nodup d (k ++ [false]) (by simp; omega)
      have I2 := steps_nodup d (k ++ [true]) (by simp; omega)
      have M1 := fun x => mem_steps d (k ++ [false]) x (by simp; omega)
      have M2 := fun x => mem_steps d (k ++ [true]) x (by simp; omega)
      rw [List.nodup_cons, List.mem_append, List.nodup_append]
      refine ⟨?_, I1, I2, ?_⟩
      · rintro (h | h)
        · have := ((M1 _).1 h).1.length_le
          rw [List.length_append, List.length_singleton] at this
          omega
        · have := ((M2 _).1 h).1.length_le
          rw [List.length_append, List.length_singleton] at this
          omega
      · rintro a ha b hb rfl
        have h1 := ((M1 _).1 ha).1
        have h2 := ((M2 _).1 hb).1
        have h3 := List.prefix_of_prefix_length_le h1 h2 (by simp)
        have h4 := h3.eq_of_length (by simp)
        simp at h4
    · simp

theorem sort_len {ks : List Key} {s : List Pf} (hs : IsSort gdP (pfs ks) s) (hn : ks.Nodup) (h32 : ∀ k ∈ ks, k.length ≤ 32) : s.length = ks.length := by
  have h1 : (pfs ks).Nodup := by
    unfold pfs
    exact List.Pairwise.map kp (fun a b h e => h (kp_inj e)) hn
  have h2 : s.Nodup := hs.strict.imp (R := plt) (S := (· ≠ ·)) fun {a b} h (e : a = b) => plt_irrefl a (by rw [← e] at h; exact h)
  have h3 : s.Perm (pfs ks) := (List.perm_ext_iff_of_nodup h2 h1).2 fun x => (hs.mem x).trans ⟨fun h => h.1, fun hx => ⟨hx, by
    unfold pfs at hx
    obtain ⟨k, hk, rfl⟩ := List.mem_map.1 hx
    exact gdP_kp (h32 k hk)⟩⟩
  rw [h3.length_eq]
  simp [pfs]

/-- what is in the list -/
theorem sort_mem {d : Nat} {k : Key} {s : List Pf} (hk : k.length ≤ 32) (hs : IsSort gdP (pfs (stepsK d k)) s) (x : Pf) :
    x ∈ s ↔ ∃ y : Key, x = kp y ∧ k <+: y ∧ y.length ≤ k.length + d ∧ y.length ≤ 32 := by
  rw [hs.mem]
  constructor
  · rintro ⟨h1, h2⟩
    unfold pfs at h1
    obtain ⟨y, hy, rfl⟩ := List.mem_map.1 h1
    exact ⟨y, rfl, (mem_steps d k y hk).1 hy⟩
  · rintro ⟨y, rfl, h⟩
    exact ⟨List.mem_map.2 ⟨y, (mem_steps d k y hk).2 h, rfl⟩, gdP_kp h.2.2⟩

theorem covers_key {q k : Key} (hq : q.length ≤ 32) (hk : k.length ≤ 32) : coversB (adr q) q.length (adr k) k.length = decide (q <+: k) := by
  have h := pre_iff (k := q) (b := adr k) (m := k.length) (adr_lt hk) hq
  rw [bits_adr hk] at h
  rw [Bool.eq_iff_iff]
  unfold coversB
  rw [good_adr hq, good_adr hk]
  simp only [Bool.true_and, Bool.and_eq_true, decide_eq_true_eq, beq_iff_eq, Int.toNat_natCast]
  rw [← h]
  constructor
  · rintro ⟨h1, h2⟩; exact ⟨by omega, h2⟩
  · rintro ⟨h1, h2⟩; exact ⟨by omega, h2⟩

theorem sort_iff {d : Nat} {k : Key} {s : List Pf} (hk : k.length ≤ 32) (hs : IsSort gdP (pfs (stepsK d k)) s) (b : Nat) (m : Int) (hb : b < 4294967296) :
    decide ((b, m) ∈ s) = (coversB (adr k) k.length b m && decide (m - k.length ≤ d)) := by
  rw [Bool.eq_iff_iff, decide_eq_true_eq, Bool.and_eq_true, decide_eq_true_eq, sort_mem hk hs]
  constructor
  · rintro ⟨y, e, h1, h2, h3⟩
    have e1 : b = adr y := congrArg Prod.fst e
    have e2 : m = (y.length : Int) := congrArg Prod.snd e
    subst e1 e2
    exact ⟨by rw [covers_key hk h3]; exact decide_eq_true h1, by omega⟩
  · rintro ⟨h1, h2⟩
    have hg : goodB b m = true := by
      unfold coversB at h1
      simp only [Bool.and_eq_true] at h1
      exact h1.1.1.2
    obtain ⟨e1, e2, e3⟩ := good_bits hb hg
    refine ⟨bitsOf b m.toNat, ?_, ?_, by omega, e3⟩
    · unfold kp; rw [e1, e2]
    · have h := covers_key hk e3
      rw [e1, e2, h1] at h
      simpa using h.symm
end Go.Proofs.Ytpabblkppbfbjaa.wlk
