/- What walk's minus and both leave: the fewest prefixes that have the addresses left, or in common. No program in sight. -/
import Derived.Test.YtpabblkppbfbjaaMergeLaw
namespace Go.Proofs.Ytpabblkppbfbjaa.wlk
open Go.Proofs.Ytpabblkppbfbjaa.pfx Go.Proofs.Ytpabblkppbfbjaa.tri Go.Proofs.Ytpabblkppbfbjaa.srt
set_option linter.unusedVariables false

/-- is one covered by one of these? -/
def covd (l : List Key) (k : Key) : Bool := l.any fun q => decide (q <+: k)
/-- those that one covers -/
def ins (l : List Key) (k : Key) : List Key := l.filter fun q => decide (k <+: q)
theorem covd_iff (l : List Key) (k : Key) : covd l k = true ↔ ∃ q ∈ l, q <+: k := by simp [covd]
theorem ins_iff (l : List Key) (k q : Key) : q ∈ ins l k ↔ q ∈ l ∧ k <+: q := by simp [ins]
def minusK : Nat → Key → List Key → List Key
  | 0, k, l => if covd l k = true then [] else [k]
  | f + 1, k, l => if covd l k = true then [] else if ins l k = [] then [k] else minusK f (k ++ [false]) (ins l k) ++ minusK f (k ++ [true]) (ins l k)
theorem minusK_len : ∀ (f : Nat) (k : Key) (l : List Key), (minusK f k l).length ≤ 2 ^ f
  | 0, k, l => by
    unfold minusK
    split <;> simp
  | f + 1, k, l => by
    have h0 := Nat.pow_pos (n := f) (show 0 < 2 by decide)
    have hp : 2 ^ (f + 1) = 2 * 2 ^ f := by rw [Nat.pow_succ, Nat.mul_comm]
    unfold minusK
    split
    · simp
    · split
      · simp; omega
      · have h1 := minusK_len f (k ++ [false]) (ins l k)
        have h2 := minusK_len f (k ++ [true]) (ins l k)
        rw [List.length_append]
        omega
/-- two of which none covers the other have no address in common -/
theorem apart_of {a b : Key} (ha : a.length ≤ 32) (hb : b.length ≤ 32) (h1 : ¬ a <+: b) (h2 : ¬ b <+: a) {n : Nat} (h3 : InB (kb a) n) (h4 : InB (kb b) n) : False := by
  unfold InB kb at h3 h4
  dsimp only at h3 h4
  rcases plt_total (kp a) (kp b) with h | h | h
  · have := plt_far ha hb h h1; omega
  · exact h1 (by rw [kp_inj h]; exact List.prefix_rfl)
  · have := plt_far hb ha h h2; omega
theorem snoc_pre {k q : Key} (h : k <+: q) (hn : ¬ q <+: k) : ∃ x, k ++ [x] <+: q := by
  obtain ⟨t, rfl⟩ := h
  rcases t with _ | ⟨x, t⟩
  · simp at hn
  · exact ⟨x, t, by simp⟩
structure MinJ (k : Key) (l r : List Key) : Prop where
  sub : ∀ x ∈ r, k <+: x
  r32 : ∀ x ∈ r, x.length ≤ 32
  canon : Canon (r.map kb)
  cov : ∀ n, Cov (r.map kb) n ↔ InB (kb k) n ∧ ¬ Cov (l.map kb) n
theorem cov_map {l : List Key} {n : Nat} : Cov (l.map kb) n ↔ ∃ q ∈ l, InB (kb q) n := by
  unfold Cov
  constructor
  · rintro ⟨x, hx, h⟩
    obtain ⟨q, hq, rfl⟩ := List.mem_map.1 hx
    exact ⟨q, hq, h⟩
  · rintro ⟨q, hq, h⟩
    exact ⟨kb q, List.mem_map_of_mem hq, h⟩
theorem canon_nil : Canon ([].map kb) := ⟨(fun x hx => by cases hx), List.Pairwise.nil, (fun x hx => by cases hx)⟩
theorem canon_one (k : Key) : Canon ([k].map kb) := by
  refine ⟨fun x hx => ?_, by simp [Chain], fun x hx y hy ⟨h1, h2, h3⟩ => ?_⟩
  · rw [List.mem_singleton.1 hx]; exact kb_al k
  · rw [List.mem_singleton.1 hx, List.mem_singleton.1 hy] at h3
    have h0 := Nat.pow_pos (n := (kb k).2) (show 0 < 2 by decide)
    omega
theorem min_cov {k : Key} {l : List Key} (hk : k.length ≤ 32) (h : covd l k = true) : MinJ k l [] := by
  obtain ⟨q, hq, hqk⟩ := (covd_iff l k).1 h
  refine ⟨(fun x hx => by cases hx), (fun x hx => by cases hx), canon_nil, fun n => ⟨fun h => absurd h (Cov.nil n), fun ⟨h1, h2⟩ => ?_⟩⟩
  exact absurd (cov_map.2 ⟨q, hq, sub_in hqk hk h1⟩) h2
theorem min_one {k : Key} {l : List Key} (hk : k.length ≤ 32) (hl : ∀ q ∈ l, q.length ≤ 32) (h : ¬ covd l k = true) (hi : ins l k = []) : MinJ k l [k] := by
  refine ⟨fun x hx => by rw [List.mem_singleton.1 hx]; exact List.prefix_rfl, fun x hx => by rw [List.mem_singleton.1 hx]; exact hk, canon_one k, fun n => ?_⟩
  rw [cov_map]
  constructor
  · rintro ⟨x, hx, h1⟩
    rw [List.mem_singleton.1 hx] at h1
    refine ⟨h1, fun hc => ?_⟩
    obtain ⟨q, hq, h2⟩ := cov_map.1 hc
    refine apart_of (hl q hq) hk (fun hc => h ((covd_iff l k).2 ⟨q, hq, hc⟩)) (fun hc => ?_) h2 h1
    have := (ins_iff l k q).2 ⟨hq, hc⟩
    rw [hi] at this
    cases this
  · rintro ⟨h1, _⟩
    exact ⟨k, by simp, h1⟩
theorem min_two {k : Key} {l r0 r1 : List Key} (hk : k.length < 32) (hl : ∀ q ∈ l, q.length ≤ 32) (h : ¬ covd l k = true) (hi : ins l k ≠ []) (h0 : MinJ (k ++ [false]) (ins l k) r0) (h1 : MinJ (k ++ [true]) (ins l k) r1) : MinJ k l (r0 ++ r1) := by
  have hcov : ∀ n, Cov ((r0 ++ r1).map kb) n ↔ InB (kb k) n ∧ ¬ Cov ((ins l k).map kb) n := fun n => by
    rw [List.map_append, Cov.app, h0.cov n, h1.cov n, halves_in hk false n]
    constructor
    · rintro (⟨h2, h3⟩ | ⟨h2, h3⟩)
      · exact ⟨.inl h2, h3⟩
      · exact ⟨.inr h2, h3⟩
    · rintro ⟨h2 | h2, h3⟩
      · exact .inl ⟨h2, h3⟩
      · exact .inr ⟨h2, h3⟩
  have hlo : ∀ x ∈ r0, adr k ≤ adr x ∧ adr x + 2 ^ (32 - x.length) ≤ adr k + 2 ^ (31 - k.length) := fun x hx => by
    have := kb_sub (h0.sub x hx) (h0.r32 x hx)
    rw [adr_snoc hk, List.length_append, List.length_singleton, show 32 - (k.length + 1) = 31 - k.length by omega] at this
    simpa using this
  have hhi : ∀ x ∈ r1, adr k + 2 ^ (31 - k.length) ≤ adr x := fun x hx => by
    have := (kb_sub (h1.sub x hx) (h1.r32 x hx)).1
    rw [adr_snoc hk] at this
    simpa using this
  refine ⟨fun x hx => ?_, fun x hx => ?_, ⟨fun x hx => ?_, ?_, ?_⟩, fun n => ?_⟩
  · rcases List.mem_append.1 hx with hx | hx
    · exact (List.prefix_append _ _).trans (h0.sub x hx)
    · exact (List.prefix_append _ _).trans (h1.sub x hx)
  · rcases List.mem_append.1 hx with hx | hx
    · exact h0.r32 x hx
    · exact h1.r32 x hx
  · obtain ⟨y, _, rfl⟩ := List.mem_map.1 hx
    exact kb_al y
  · rw [List.map_append]
    refine List.pairwise_append.2 ⟨h0.canon.chain, h1.canon.chain, fun x hx y hy => ?_⟩
    obtain ⟨a, ha, rfl⟩ := List.mem_map.1 hx
    obtain ⟨b, hb, rfl⟩ := List.mem_map.1 hy
    exact Nat.le_trans (hlo a ha).2 (hhi b hb)
  · intro x hx y hy ⟨e1, e2, e3⟩
    rw [List.map_append] at hx hy
    rcases List.mem_append.1 hx with hx | hx
    · rcases List.mem_append.1 hy with hy | hy
      · exact h0.canon.apart x hx y hy ⟨e1, e2, e3⟩
      · obtain ⟨a, ha, rfl⟩ := List.mem_map.1 hx
        obtain ⟨b, hb, rfl⟩ := List.mem_map.1 hy
        have k1 := (hlo a ha).2
        have k2 := hhi b hb
        simp only [kb] at e1 e2 e3
        have hmid : adr a + 2 ^ (32 - a.length) = adr k + 2 ^ (31 - k.length) := by omega
        have hal := (h0.sub a ha).length_le
        rw [List.length_append, List.length_singleton] at hal
        have a32 := h0.r32 a ha
        have b32 := h1.r32 b hb
        by_cases hlen : a.length = k.length + 1
        · have ea : k ++ [false] = a := (h0.sub a ha).eq_of_length (by rw [List.length_append, List.length_singleton]; omega)
          have eb : k ++ [true] = b := (h1.sub b hb).eq_of_length (by rw [List.length_append, List.length_singleton]; omega)
          obtain ⟨q, hq⟩ : ∃ q, q ∈ ins l k := by
            rcases hh : ins l k with _ | ⟨q, t⟩
            · exact absurd hh hi
            · exact ⟨q, by simp⟩
          obtain ⟨hql, hkq⟩ := (ins_iff l k q).1 hq
          obtain ⟨z, hz⟩ := snoc_pre hkq (fun hc => h ((covd_iff l k).2 ⟨q, hql, hc⟩))
          have hqi : InB (kb q) (adr q) := ⟨Nat.le_refl _, by have := Nat.pow_pos (n := 32 - q.length) (show 0 < 2 by decide); simp only [kb]; omega⟩
          have hc : Cov ((r0 ++ r1).map kb) (adr q) := by
            have hz2 := sub_in hz (hl q hql) hqi
            cases z
            · exact cov_map.2 ⟨a, List.mem_append_left _ ha, by rw [← ea]; exact hz2⟩
            · exact cov_map.2 ⟨b, List.mem_append_right _ hb, by rw [← eb]; exact hz2⟩
          exact ((hcov _).1 hc).2 (cov_map.2 ⟨q, hq, hqi⟩)
        · have hle : 32 - a.length + 1 ≤ 31 - k.length := by omega
          have hm : (adr k + 2 ^ (31 - k.length)) % 2 ^ (31 - k.length) = 0 := by
            rw [Nat.add_mod_right]
            exact mod_pow_le (show 31 - k.length ≤ 32 - k.length by omega) (kb_al k)
          exact two_not e2 (mod_pow_le hle hm) hmid.symm
    · rcases List.mem_append.1 hy with hy | hy
      · obtain ⟨a, ha, rfl⟩ := List.mem_map.1 hx
        obtain ⟨b, hb, rfl⟩ := List.mem_map.1 hy
        have k1 := (hlo b hb).2
        have k2 := hhi a ha
        simp only [kb] at e1 e2 e3
        have := Nat.pow_pos (n := 32 - a.length) (show 0 < 2 by decide)
        have := Nat.pow_pos (n := 32 - b.length) (show 0 < 2 by decide)
        omega
      · exact h1.canon.apart x hx y hy ⟨e1, e2, e3⟩
  · rw [hcov n]
    constructor
    · rintro ⟨h2, h3⟩
      refine ⟨h2, fun hc => ?_⟩
      obtain ⟨q, hq, h4⟩ := cov_map.1 hc
      refine apart_of (hl q hq) (by omega) (fun hc => h ((covd_iff l k).2 ⟨q, hq, hc⟩)) (fun hc => ?_) h4 h2
      exact h3 (cov_map.2 ⟨q, (ins_iff l k q).2 ⟨hq, hc⟩, h4⟩)
    · rintro ⟨h2, h3⟩
      refine ⟨h2, fun hc => h3 ?_⟩
      obtain ⟨q, hq, h4⟩ := cov_map.1 hc
      exact cov_map.2 ⟨q, ((ins_iff l k q).1 hq).1, h4⟩
theorem minusK_ok : ∀ (f : Nat) (k : Key) (l : List Key), f + k.length = 32 → (∀ q ∈ l, q.length ≤ 32) → MinJ k l (minusK f k l)
  | 0, k, l, hk, hl => by
    unfold minusK
    split
    · rename_i h; exact min_cov (by omega) h
    · rename_i h
      refine min_one (by omega) hl h ?_
      rcases hh : ins l k with _ | ⟨q, t⟩
      · rfl
      · exfalso
        obtain ⟨hq, hkq⟩ := (ins_iff l k q).1 (by rw [hh]; simp)
        have e := hkq.eq_of_length (Nat.le_antisymm hkq.length_le (by have := hl q hq; omega))
        exact h ((covd_iff l k).2 ⟨q, hq, by rw [e]; exact List.prefix_rfl⟩)
  | f + 1, k, l, hk, hl => by
    unfold minusK
    split
    · rename_i h; exact min_cov (by omega) h
    · rename_i h
      split
      · rename_i hi; exact min_one (by omega) hl h hi
      · rename_i hi
        have hl2 : ∀ q ∈ ins l k, q.length ≤ 32 := fun q hq => hl q ((ins_iff l k q).1 hq).1
        exact min_two (by omega) hl h hi (minusK_ok f (k ++ [false]) (ins l k) (by rw [List.length_append, List.length_singleton]; omega) hl2) (minusK_ok f (k ++ [true]) (ins l k) (by rw [List.length_append, List.length_singleton]; omega) hl2)

/-- what two have in common: the one that the other covers -/
def bothF (p q : Key) : List Key := if p <+: q then [q] else if q <+: p then [p] else []
def bothK (a b : List Key) : List Key := a.flatMap fun p => b.flatMap fun q => bothF p q
theorem bothF_in {p q : Key} (hp : p.length ≤ 32) (hq : q.length ≤ 32) (n : Nat) : Cov ((bothF p q).map kb) n ↔ InB (kb p) n ∧ InB (kb q) n := by
  unfold bothF
  split
  · rename_i h
    rw [cov_map]
    constructor
    · rintro ⟨x, hx, h1⟩
      rw [List.mem_singleton.1 hx] at h1
      exact ⟨sub_in h hq h1, h1⟩
    · rintro ⟨_, h2⟩
      exact ⟨q, by simp, h2⟩
  · split
    · rename_i h
      rw [cov_map]
      constructor
      · rintro ⟨x, hx, h1⟩
        rw [List.mem_singleton.1 hx] at h1
        exact ⟨h1, sub_in h hp h1⟩
      · rintro ⟨h1, _⟩
        exact ⟨p, by simp, h1⟩
    · rename_i h1 h2
      exact ⟨fun h => absurd h (Cov.nil n), fun ⟨h3, h4⟩ => (apart_of hp hq h1 h2 h3 h4).elim⟩
theorem bothK_in {a b : List Key} (ha : ∀ k ∈ a, k.length ≤ 32) (hb : ∀ k ∈ b, k.length ≤ 32) (n : Nat) : Cov ((bothK a b).map kb) n ↔ Cov (a.map kb) n ∧ Cov (b.map kb) n := by
  rw [cov_map, cov_map, cov_map]
  unfold bothK
  constructor
  · rintro ⟨x, hx, h⟩
    obtain ⟨p, hp, hx⟩ := List.mem_flatMap.1 hx
    obtain ⟨q, hq, hx⟩ := List.mem_flatMap.1 hx
    obtain ⟨h1, h2⟩ := (bothF_in (ha p hp) (hb q hq) n).1 (cov_map.2 ⟨x, hx, h⟩)
    exact ⟨⟨p, hp, h1⟩, ⟨q, hq, h2⟩⟩
  · rintro ⟨⟨p, hp, h1⟩, ⟨q, hq, h2⟩⟩
    obtain ⟨x, hx, h⟩ := cov_map.1 ((bothF_in (ha p hp) (hb q hq) n).2 ⟨h1, h2⟩)
    exact ⟨x, List.mem_flatMap.2 ⟨p, hp, List.mem_flatMap.2 ⟨q, hq, hx⟩⟩, h⟩
theorem bothF_len (p q : Key) : (bothF p q).length ≤ 1 := by
  unfold bothF
  split
  · simp
  · split <;> simp
theorem bothF_32 {p q : Key} (hp : p.length ≤ 32) (hq : q.length ≤ 32) : ∀ x ∈ bothF p q, x.length ≤ 32 := by
  intro x hx
  unfold bothF at hx
  split at hx
  · rw [List.mem_singleton.1 hx]; exact hq
  · split at hx
    · rw [List.mem_singleton.1 hx]; exact hp
    · cases hx
theorem bothRow_len (p : Key) : ∀ (b : List Key), (b.flatMap fun q => bothF p q).length ≤ b.length
  | [] => by simp
  | q :: b => by
    have h1 := bothRow_len p b
    have h2 := bothF_len p q
    rw [List.flatMap_cons, List.length_append, List.length_cons]
    omega
theorem bothK_len : ∀ (a b : List Key), (bothK a b).length ≤ a.length * b.length
  | [], b => by simp [bothK]
  | p :: a, b => by
    have h1 := bothK_len a b
    have h2 := bothRow_len p b
    unfold bothK at h1 ⊢
    rw [List.flatMap_cons, List.length_append, List.length_cons, Nat.add_mul, Nat.one_mul]
    omega
theorem bothK_32 {a b : List Key} (ha : ∀ k ∈ a, k.length ≤ 32) (hb : ∀ k ∈ b, k.length ≤ 32) : ∀ x ∈ bothK a b, x.length ≤ 32 := by
  intro x hx
  obtain ⟨p, hp, hx⟩ := List.mem_flatMap.1 hx
  obtain ⟨q, hq, hx⟩ := List.mem_flatMap.1 hx
  exact bothF_32 (ha p hp) (hb q hq) x hx
end Go.Proofs.Ytpabblkppbfbjaa.wlk
