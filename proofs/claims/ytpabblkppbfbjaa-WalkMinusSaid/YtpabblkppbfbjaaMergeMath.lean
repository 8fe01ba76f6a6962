/- What walk's tops and merge leave: of keys in order, those that no other one covers; and the fewest that have the same addresses. No program in sight. -/
import Derived.Test.YtpabblkppbfbjaaWalkLives
import Derived.Test.YtpabblkppbfbjaaPartsMath
namespace Go.Proofs.Ytpabblkppbfbjaa.wlk
open Go.Proofs.Ytpabblkppbfbjaa.pfx Go.Proofs.Ytpabblkppbfbjaa.tri Go.Proofs.Ytpabblkppbfbjaa.srt
set_option linter.unusedVariables false

/-- a key as a block -/
def kb (k : Key) : Blk := (adr k, 32 - k.length)
theorem nb_kp (k : Key) : nb (kp k) = kb k := by simp [nb, kp, kb]
theorem nbs_kp (ks : List Key) : (ks.map kp).map nb = ks.map kb := by
  rw [List.map_map]
  exact List.map_congr_left fun k _ => nb_kp k
theorem kps_good {ks : List Key} (h : ∀ k ∈ ks, k.length ≤ 32) : ∀ p ∈ ks.map kp, 0 ≤ p.2 ∧ p.2 ≤ 32 := by
  intro p hp
  obtain ⟨k, hk, rfl⟩ := List.mem_map.1 hp
  have := h k hk
  simp only [kp]
  omega
theorem kb_al (k : Key) : (kb k).1 % 2 ^ (kb k).2 = 0 := by simp [kb, adr]
theorem kb_lt {k : Key} (h : k.length ≤ 32) : adr k + 2 ^ (32 - k.length) ≤ 4294967296 := by
  unfold adr
  have h1 := num_lt k
  have h2 : 2 ^ k.length * 2 ^ (32 - k.length) = 4294967296 := by rw [← Nat.pow_add, show k.length + (32 - k.length) = 32 from by omega]
  have h3 : (num k + 1) * 2 ^ (32 - k.length) ≤ 2 ^ k.length * 2 ^ (32 - k.length) := Nat.mul_le_mul_right _ h1
  rw [Nat.add_mul, Nat.one_mul] at h3
  omega
theorem kb_inj {a b : Key} (ha : a.length ≤ 32) (hb : b.length ≤ 32) (h : kb a = kb b) : a = b := by
  simp only [kb, Prod.mk.injEq] at h
  exact adr_inj (by omega) h.1
/-- what covers has the addresses -/
theorem kb_sub {q k : Key} (h : q <+: k) (hk : k.length ≤ 32) : adr q ≤ adr k ∧ adr k + 2 ^ (32 - k.length) ≤ adr q + 2 ^ (32 - q.length) := by
  obtain ⟨t, rfl⟩ := h
  rw [List.length_append] at hk
  have ht := num_lt t
  have e : 32 - q.length = t.length + (32 - (q.length + t.length)) := by omega
  unfold adr
  rw [List.length_append, num_app]
  obtain ⟨z, hz⟩ : ∃ z, z = 2 ^ (32 - (q.length + t.length)) := ⟨_, rfl⟩
  rw [e, Nat.pow_add, ← hz]
  have h3 : (num t + 1) * z ≤ 2 ^ t.length * z := Nat.mul_le_mul_right _ ht
  rw [Nat.add_mul, Nat.one_mul] at h3
  rw [Nat.add_mul, ← Nat.mul_assoc]
  omega
theorem sub_in {q k : Key} (h : q <+: k) (hk : k.length ≤ 32) {n : Nat} (hn : InB (kb k) n) : InB (kb q) n := by
  have := kb_sub h hk
  unfold InB kb at *
  dsimp only at *
  omega
/-- what comes behind, and is not covered, lies behind -/
theorem plt_far {q k : Key} (hq : q.length ≤ 32) (hk : k.length ≤ 32) (h : plt (kp q) (kp k)) (hn : ¬ q <+: k) : adr q + 2 ^ (32 - q.length) ≤ adr k := by
  rcases Nat.lt_or_ge (adr k) (adr q + 2 ^ (32 - q.length)) with hlt | hge
  · exfalso
    apply hn
    have h0 := Nat.pow_pos (n := 32 - q.length) (show 0 < 2 by decide)
    have hle : adr q ≤ adr k := by
      rcases h with h | h
      · exact Nat.le_of_lt h
      · exact Nat.le_of_eq h.1
    have hql : q.length ≤ k.length := by
      rcases Nat.lt_or_ge k.length q.length with h1 | h1
      · exfalso
        have hlt2 : adr q < adr k := by
          rcases h with h | h
          · exact h
          · have h3 : (q.length : Int) < (k.length : Int) := h.2
            omega
        have h2 : adr k % 2 ^ (32 - q.length) = 0 := mod_pow_le (show 32 - q.length ≤ 32 - k.length by omega) (kb_al k)
        have h3 : adr q % 2 ^ (32 - q.length) = 0 := kb_al q
        obtain ⟨x, hx⟩ := Nat.dvd_of_mod_eq_zero h2
        obtain ⟨y, hy⟩ := Nat.dvd_of_mod_eq_zero h3
        rw [hx, hy] at hlt hlt2
        have h4 := Nat.lt_of_mul_lt_mul_left hlt2
        have h5 : 2 ^ (32 - q.length) * (y + 1) ≤ 2 ^ (32 - q.length) * x := Nat.mul_le_mul_left _ h4
        rw [Nat.mul_add, Nat.mul_one] at h5
        omega
      · exact h1
    have hc : cutv (adr k) q.length = adr q := by
      have e : adr q = num q * 2 ^ (32 - q.length) := rfl
      have hd : adr k / 2 ^ (32 - q.length) = num q := by
        rw [e] at hle hlt
        exact Nat.div_eq_of_lt_le hle (by rw [Nat.add_mul, Nat.one_mul]; exact hlt)
      unfold cutv
      rw [hd, e]
    have := (pre_iff (k := q) (m := k.length) (adr_lt hk) hq).1 ⟨hql, hc⟩
    rwa [bits_adr hk] at this
  · exact hge

/-- what holds of tops' list -/
structure TopJ (out ks : List Key) : Prop where
  sub : ∀ q ∈ out, q ∈ ks
  chain : Chain (out.map kb)
  cov : ∀ k ∈ ks, ∃ q ∈ out, q <+: k
theorem chain_map {out : List Key} : Chain (out.map kb) ↔ out.Pairwise fun q k => adr q + 2 ^ (32 - q.length) ≤ adr k := by
  unfold Chain
  rw [List.pairwise_map]
  rfl
theorem TopJ.next {out ks : List Key} {k : Key} (h : TopJ out ks) (h32 : ∀ q ∈ ks, q.length ≤ 32) (hk : k.length ≤ 32) (hp : ∀ q ∈ ks, plt (kp q) (kp k)) : TopJ (topF out k) (ks ++ [k]) := by
  unfold topF
  rcases ho : out.getLast? with _ | q
  · have : out = [] := List.getLast?_eq_none_iff.1 ho
    subst this
    refine ⟨fun q hq => by simpa using .inr (by simpa using hq), chain_map.2 (by simp), fun x hx => ?_⟩
    rcases List.mem_append.1 hx with hx | hx
    · obtain ⟨q, hq, _⟩ := h.cov x hx
      cases hq
    · exact ⟨k, by simp, by rw [List.mem_singleton.1 hx]; exact List.prefix_rfl⟩
  · have hqo := List.mem_of_getLast? ho
    by_cases hq : q <+: k
    · dsimp only
      rw [if_pos hq]
      refine ⟨fun q hq => List.mem_append_left _ (h.sub q hq), h.chain, fun x hx => ?_⟩
      rcases List.mem_append.1 hx with hx | hx
      · exact h.cov x hx
      · exact ⟨q, hqo, by rw [List.mem_singleton.1 hx]; exact hq⟩
    · dsimp only
      rw [if_neg hq]
      have hqs := h.sub q hqo
      have hfar := plt_far (h32 q hqs) hk (hp q hqs) hq
      refine ⟨fun x hx => ?_, ?_, fun x hx => ?_⟩
      · rcases List.mem_append.1 hx with hx | hx
        · exact List.mem_append_left _ (h.sub x hx)
        · exact List.mem_append_right _ hx
      · rw [chain_map]
        have hc := chain_map.1 h.chain
        refine List.pairwise_append.2 ⟨hc, by simp, fun x hx y hy => ?_⟩
        rw [List.mem_singleton.1 hy]
        obtain ⟨ini, rfl⟩ : ∃ ini, out = ini ++ [q] := by
          obtain ⟨ini, e⟩ := List.getLast?_eq_some_iff.1 ho
          exact ⟨ini, e⟩
        rcases List.mem_append.1 hx with hx | hx
        · have := (List.pairwise_append.1 hc).2.2 x hx q (by simp)
          have h0 := Nat.pow_pos (n := 32 - q.length) (show 0 < 2 by decide)
          omega
        · rw [List.mem_singleton.1 hx]; exact hfar
      · rcases List.mem_append.1 hx with hx | hx
        · obtain ⟨y, hy, hxy⟩ := h.cov x hx
          exact ⟨y, List.mem_append_left _ hy, hxy⟩
        · exact ⟨k, by simp, by rw [List.mem_singleton.1 hx]; exact List.prefix_rfl⟩
theorem TopJ.all : ∀ (ls out ks : List Key), TopJ out ks → (∀ q ∈ ks ++ ls, q.length ≤ 32) → ((ks ++ ls).map kp).Pairwise plt → TopJ (ls.foldl topF out) (ks ++ ls)
  | [], out, ks, h, _, _ => by simpa using h
  | k :: ls, out, ks, h, h32, hp => by
    have e : ks ++ k :: ls = (ks ++ [k]) ++ ls := by simp
    rw [e] at h32 hp ⊢
    refine TopJ.all ls _ _ (h.next (fun q hq => h32 q (by simp [hq])) (h32 k (by simp)) fun q hq => ?_) h32 hp
    rw [List.map_append, List.map_append] at hp
    have h1 := (List.pairwise_append.1 (List.pairwise_append.1 hp).1).2.2
    exact h1 _ (List.mem_map_of_mem hq) _ (by simp)
theorem tops_ok {ks : List Key} (h32 : ∀ q ∈ ks, q.length ≤ 32) (hp : (ks.map kp).Pairwise plt) : TopJ (topsK ks) ks := by
  have := TopJ.all ks [] [] ⟨fun q hq => hq, List.Pairwise.nil, fun k hk => by cases hk⟩ (by simpa using h32) (by simpa using hp)
  simpa [topsK] using this
theorem TopJ.covs {out ks : List Key} (h : TopJ out ks) (h32 : ∀ q ∈ ks, q.length ≤ 32) (n : Nat) : Cov (out.map kb) n ↔ Cov (ks.map kb) n := by
  unfold Cov
  constructor
  · rintro ⟨x, hx, hn⟩
    obtain ⟨q, hq, rfl⟩ := List.mem_map.1 hx
    exact ⟨_, List.mem_map_of_mem (h.sub q hq), hn⟩
  · rintro ⟨x, hx, hn⟩
    obtain ⟨k, hk, rfl⟩ := List.mem_map.1 hx
    obtain ⟨q, hq, hqk⟩ := h.cov k hk
    exact ⟨_, List.mem_map_of_mem hq, sub_in hqk (h32 k hk) hn⟩
/-- of two of tops' list none covers the other -/
theorem TopJ.alone {out ks : List Key} (h : TopJ out ks) (h32 : ∀ q ∈ ks, q.length ≤ 32) {a b : Key} (ha : a ∈ out) (hb : b ∈ out) (hab : a <+: b) : a = b := by
  have a32 := h32 a (h.sub a ha)
  have b32 := h32 b (h.sub b hb)
  have hs := kb_sub hab b32
  have h0 := Nat.pow_pos (n := 32 - b.length) (show 0 < 2 by decide)
  rcases chain_cases h.chain (List.mem_map_of_mem ha) (List.mem_map_of_mem hb) with e | e | e
  · exact kb_inj a32 b32 e
  · simp only [kb] at e; omega
  · simp only [kb] at e
    have h1 := Nat.pow_pos (n := 32 - a.length) (show 0 < 2 by decide)
    omega
/-- tops' list: those that no other one covers -/
theorem TopJ.iff {out ks : List Key} (h : TopJ out ks) (h32 : ∀ q ∈ ks, q.length ≤ 32) (k : Key) : k ∈ out ↔ k ∈ ks ∧ ∀ q ∈ ks, q <+: k → q = k := by
  constructor
  · intro hk
    refine ⟨h.sub k hk, fun q hq hqk => ?_⟩
    obtain ⟨p, hp, hpq⟩ := h.cov q hq
    have e := h.alone h32 hp hk (hpq.trans hqk)
    subst e
    exact (List.IsPrefix.eq_of_length hpq (Nat.le_antisymm hpq.length_le hqk.length_le)).symm
  · rintro ⟨hk, hq⟩
    obtain ⟨p, hp, hpk⟩ := h.cov k hk
    rw [← hq p (h.sub p hp) hpk]
    exact hp

theorem lcp_self : ∀ (x : Key), lcp x x = x
  | [] => rfl
  | a :: x => by simp [lcp, lcp_self x]
theorem lcp_halves : ∀ (c : Key) (x : Bool), lcp (c ++ [x]) (c ++ [!x]) = c
  | [], x => by cases x <;> rfl
  | a :: c, x => by simp [lcp, lcp_halves c x]
/-- halves -/
theorem join_iff (a b : Key) : joinB a b = true ↔ ∃ x, a = lcp a b ++ [x] ∧ b = lcp a b ++ [!x] := by
  unfold joinB
  rw [decide_eq_true_iff]
  constructor
  · rintro ⟨h1, h2⟩
    obtain ⟨s, hs⟩ := lcp_left a b
    obtain ⟨t, ht⟩ := lcp_right a b
    have l1 := congrArg List.length hs
    have l2 := congrArg List.length ht
    rw [List.length_append] at l1 l2
    obtain ⟨x, rfl⟩ := List.length_eq_one_iff.1 (show s.length = 1 by omega)
    obtain ⟨y, rfl⟩ := List.length_eq_one_iff.1 (show t.length = 1 by omega)
    refine ⟨x, hs.symm, ?_⟩
    by_cases hxy : x = y
    · subst hxy
      have e : a = b := hs.symm.trans ht
      subst e
      rw [lcp_self] at h2
      omega
    · rw [show (!x) = y by cases x <;> cases y <;> simp_all]
      exact ht.symm
  · rintro ⟨x, h1, h2⟩
    have l1 := congrArg List.length h1
    have l2 := congrArg List.length h2
    simp only [List.length_append, List.length_singleton] at l1 l2
    omega
theorem adr_snoc {c : Key} (h : c.length < 32) (x : Bool) : adr (c ++ [x]) = adr c + (if x = true then 2 ^ (31 - c.length) else 0) := by
  unfold adr
  rw [num_app, num_one]
  simp only [List.length_append, List.length_singleton]
  obtain ⟨m, hm⟩ : ∃ m, 32 - c.length = m + 1 := ⟨31 - c.length, by omega⟩
  have hp : 2 ^ (m + 1) = 2 * 2 ^ m := by rw [Nat.pow_succ, Nat.mul_comm]
  rw [show 32 - (c.length + 1) = m from by omega, hm, hp, show 31 - c.length = m by omega, Nat.add_mul, Nat.pow_one, Nat.mul_assoc]
  cases x <;> simp
theorem pow_half {n : Nat} (h : n < 32) : 2 ^ (32 - n) = 2 * 2 ^ (31 - n) := by
  rw [show 32 - n = 31 - n + 1 by omega, Nat.pow_succ, Nat.mul_comm]
theorem halves_in {c : Key} (h : c.length < 32) (x : Bool) (n : Nat) : InB (kb c) n ↔ InB (kb (c ++ [x])) n ∨ InB (kb (c ++ [!x])) n := by
  unfold InB kb
  simp only [adr_snoc h, List.length_append, List.length_singleton, show 32 - (c.length + 1) = 31 - c.length by omega, pow_half h]
  cases x <;> simp <;> omega

/-- the last first: each behind the next one -/
def RChain (r : List Key) : Prop := r.Pairwise fun k q => adr q + 2 ^ (32 - q.length) ≤ adr k
def NoAdj : List Key → Prop
  | [] => True
  | [_] => True
  | p :: q :: r => joinB q p = false ∧ NoAdj (q :: r)
theorem NoAdj.tail {p : Key} {r : List Key} (h : NoAdj (p :: r)) : NoAdj r := by
  cases r with
  | nil => trivial
  | cons q r => exact h.2
theorem mergeR_ok : ∀ (r : List Key) (p : Key), RChain (p :: r) → NoAdj r → (∀ k ∈ p :: r, k.length ≤ 32) → RChain (mergeR r p) ∧ NoAdj (mergeR r p) ∧ ∀ n, Cov ((mergeR r p).map kb) n ↔ Cov ((p :: r).map kb) n
  | [], p, h, _, _ => ⟨h, trivial, fun n => Iff.rfl⟩
  | q :: r, p, h, ha, h32 => by
    unfold mergeR
    split
    · rename_i hj
      obtain ⟨x, h1, h2⟩ := (join_iff q p).1 hj
      obtain ⟨c, hc⟩ : ∃ c, c = lcp q p := ⟨_, rfl⟩
      rw [← hc] at h1 h2 ⊢
      have hl : c.length < 32 := by
        have := h32 q (by simp)
        rw [h1, List.length_append, List.length_singleton] at this
        omega
      obtain ⟨k1, k2⟩ := List.pairwise_cons.1 h
      obtain ⟨k3, k4⟩ := List.pairwise_cons.1 k2
      have hle : ∀ t, t ≤ adr q → t ≤ adr p → t ≤ adr c := by
        intro t t1 t2
        rw [h1, adr_snoc hl] at t1
        rw [h2, adr_snoc hl] at t2
        cases x <;> simp at t1 t2 <;> assumption
      obtain ⟨m1, m2, m3⟩ := mergeR_ok r c (List.pairwise_cons.2 ⟨fun y hy => hle _ (k3 y hy) (k1 y (by simp [hy])), k4⟩) ha.tail fun k hk => by
        rcases List.mem_cons.1 hk with rfl | hk
        · omega
        · exact h32 k (by simp [hk])
      refine ⟨m1, m2, fun n => (m3 n).trans ?_⟩
      simp only [List.map_cons]
      rw [Cov.cons, Cov.cons, Cov.cons, halves_in hl x n, ← h1, ← h2]
      constructor
      · rintro ((h | h) | h)
        · exact .inr (.inl h)
        · exact .inl h
        · exact .inr (.inr h)
      · rintro (h | h | h)
        · exact .inl (.inr h)
        · exact .inl (.inl h)
        · exact .inr h
    · rename_i hj
      exact ⟨h, ⟨by simpa using hj, ha⟩, fun n => Iff.rfl⟩
structure MergeJ (out ks : List Key) : Prop where
  chain : RChain out.reverse
  adj : NoAdj out.reverse
  o32 : ∀ k ∈ out, k.length ≤ 32
  cov : ∀ n, Cov (out.map kb) n ↔ Cov (ks.map kb) n
theorem rchain_iff (l : List Key) : RChain l.reverse ↔ Chain (l.map kb) := by
  rw [chain_map]
  unfold RChain
  rw [List.pairwise_reverse]
theorem cov_rev (l : List Key) (n : Nat) : Cov (l.reverse.map kb) n ↔ Cov (l.map kb) n := by
  unfold Cov
  simp
theorem MergeJ.next {out ks : List Key} {k : Key} (h : MergeJ out ks) (hk : k.length ≤ 32) (hc : ∀ q ∈ ks, adr q + 2 ^ (32 - q.length) ≤ adr k) : MergeJ (mergeF out k) (ks ++ [k]) := by
  have hfar : ∀ q ∈ out.reverse, adr q + 2 ^ (32 - q.length) ≤ adr k := fun q hq => by
    have h0 := Nat.pow_pos (n := 32 - q.length) (show 0 < 2 by decide)
    have h1 : Cov (out.map kb) (adr q + 2 ^ (32 - q.length) - 1) := ⟨kb q, List.mem_map_of_mem (by simpa using hq), by unfold InB kb; dsimp only; omega⟩
    obtain ⟨x, hx, hn⟩ := (h.cov _).1 h1
    obtain ⟨y, hy, rfl⟩ := List.mem_map.1 hx
    have := hc y hy
    unfold InB kb at hn
    dsimp only at hn
    omega
  have h32 : ∀ x ∈ k :: out.reverse, x.length ≤ 32 := fun x hx => by
    rcases List.mem_cons.1 hx with rfl | hx
    · exact hk
    · exact h.o32 x (by simpa using hx)
  obtain ⟨m1, m2, m3⟩ := mergeR_ok out.reverse k (List.pairwise_cons.2 ⟨hfar, h.chain⟩) h.adj h32
  unfold mergeF
  refine ⟨by rw [List.reverse_reverse]; exact m1, by rw [List.reverse_reverse]; exact m2, fun x hx => ?_, fun n => ?_⟩
  · exact mergeR_32 _ _ (fun y hy => h32 y (List.mem_cons_of_mem _ hy)) hk x (by simpa using hx)
  · rw [cov_rev, m3 n, List.map_append, Cov.app, List.map_cons, Cov.cons, cov_rev, h.cov n]
    simp only [List.map_cons, List.map_nil]
    rw [Cov.cons]
    have := Cov.nil n
    constructor
    · rintro (h | h)
      · exact .inr (.inl h)
      · exact .inl h
    · rintro (h | h | h)
      · exact .inr h
      · exact .inl h
      · exact absurd h this
theorem MergeJ.all : ∀ (ls out ks : List Key), MergeJ out ks → (∀ q ∈ ls, q.length ≤ 32) → Chain ((ks ++ ls).map kb) → MergeJ (ls.foldl mergeF out) (ks ++ ls)
  | [], out, ks, h, _, _ => by simpa using h
  | k :: ls, out, ks, h, h32, hp => by
    have e : ks ++ k :: ls = (ks ++ [k]) ++ ls := by simp
    rw [e] at hp ⊢
    refine MergeJ.all ls _ _ (h.next (h32 k (by simp)) fun q hq => ?_) (fun q hq => h32 q (by simp [hq])) hp
    have hp := chain_map.1 hp
    exact (List.pairwise_append.1 (List.pairwise_append.1 hp).1).2.2 q hq k (by simp)
theorem merge_ok {ks : List Key} (h32 : ∀ q ∈ ks, q.length ≤ 32) (hp : Chain (ks.map kb)) : MergeJ (mergeK ks) ks := by
  have := MergeJ.all ks [] [] ⟨List.Pairwise.nil, trivial, (fun k hk => by cases hk), fun n => Iff.rfl⟩ h32 (by simpa using hp)
  simpa [mergeK] using this

/-- the next one of a chain: what begins where another one ends -/
theorem rchain_next : ∀ {r : List Key} {x y : Key}, RChain r → x ∈ r → y ∈ r → adr y = adr x + 2 ^ (32 - x.length) → ∃ l1 l2, r = l1 ++ y :: x :: l2
  | [], x, y, _, hx, _, _ => by cases hx
  | z :: r, x, y, h, hx, hy, e => by
    obtain ⟨h1, h2⟩ := List.pairwise_cons.1 h
    have h0 := Nat.pow_pos (n := 32 - x.length) (show 0 < 2 by decide)
    rcases List.mem_cons.1 hy with hy' | hy'
    · rcases List.mem_cons.1 hx with hx' | hx'
      · rw [hx', hy'] at e
        have h0 := Nat.pow_pos (n := 32 - z.length) (show 0 < 2 by decide)
        omega
      · rcases r with _ | ⟨u, r⟩
        · cases hx'
        · rcases List.mem_cons.1 hx' with hx2 | hx2
          · exact ⟨[], r, by rw [hx2, hy']; rfl⟩
          · have h3 := h1 u (by simp)
            have h4 := (List.pairwise_cons.1 h2).1 x hx2
            have h5 := Nat.pow_pos (n := 32 - u.length) (show 0 < 2 by decide)
            rw [hy'] at e
            omega
    · rcases List.mem_cons.1 hx with hx' | hx'
      · have h3 := h1 y hy'
        have h5 := Nat.pow_pos (n := 32 - y.length) (show 0 < 2 by decide)
        rw [← hx'] at h3
        omega
      · obtain ⟨l1, l2, e2⟩ := rchain_next h2 hx' hy' e
        exact ⟨z :: l1, l2, by rw [e2]; rfl⟩
theorem noadj_mid : ∀ (l1 l2 : List Key) (x y : Key), NoAdj (l1 ++ y :: x :: l2) → joinB x y = false
  | [], l2, x, y, h => h.1
  | [z], l2, x, y, h => h.2.1
  | z :: u :: l1, l2, x, y, h => noadj_mid (u :: l1) l2 x y h.tail
theorem sib_join {a b : Key} (ha : a.length ≤ 32) (hb : b.length ≤ 32) (h1 : a.length = b.length) (h2 : adr a % 2 ^ (32 - a.length + 1) = 0) (h3 : adr b = adr a + 2 ^ (32 - a.length)) : joinB a b = true := by
  have hlt := adr_lt hb
  have hpos : 0 < a.length := by
    rcases Nat.eq_zero_or_pos a.length with h | h
    · rw [h] at h3
      simp at h3
      omega
    · exact h
  obtain ⟨c, x, rfl⟩ : ∃ c x, a = c ++ [x] := by
    rcases List.eq_nil_or_concat a with h | ⟨c, x, h⟩
    · rw [h] at hpos; simp at hpos
    · exact ⟨c, x, by simpa using h⟩
  obtain ⟨d, y, rfl⟩ : ∃ d y, b = d ++ [y] := by
    rcases List.eq_nil_or_concat b with h | ⟨c, x, h⟩
    · rw [h] at h1; simp at h1
    · exact ⟨c, x, by simpa using h⟩
  simp only [List.length_append, List.length_singleton] at h1 h2 h3 ha hb
  have hl : c.length < 32 := by omega
  have hdl : d.length = c.length := by omega
  rw [show 32 - (c.length + 1) + 1 = 32 - c.length by omega] at h2
  rw [show 32 - (c.length + 1) = 31 - c.length by omega] at h3
  have hp := pow_half hl
  have h0 := Nat.pow_pos (n := 31 - c.length) (show 0 < 2 by decide)
  have hx : x = false := by
    cases x
    · rfl
    · exfalso
      rw [adr_snoc hl] at h2
      have hc : adr c % 2 ^ (32 - c.length) = 0 := kb_al c
      simp only [if_true] at h2
      rw [Nat.add_mod, hc, Nat.zero_add, Nat.mod_mod, Nat.mod_eq_of_lt (by omega)] at h2
      omega
  subst hx
  rw [adr_snoc hl, adr_snoc (by omega), hdl] at h3
  simp only [Bool.false_eq_true, if_false, Nat.add_zero] at h3
  have hc : adr c % 2 ^ (32 - c.length) = 0 := kb_al c
  have hd : adr d % 2 ^ (32 - c.length) = 0 := by rw [← hdl]; exact kb_al d
  obtain ⟨u, hu⟩ := Nat.dvd_of_mod_eq_zero hc
  obtain ⟨v, hv⟩ := Nat.dvd_of_mod_eq_zero hd
  cases y
  · exfalso
    simp only [Bool.false_eq_true, if_false, Nat.add_zero] at h3
    rw [hu, hv, hp] at h3
    have e : 2 ^ (31 - c.length) * (2 * v) = 2 ^ (31 - c.length) * (2 * u + 1) := by
      rw [Nat.mul_add, Nat.mul_one, ← Nat.mul_assoc, ← Nat.mul_assoc, Nat.mul_comm _ 2]
      exact h3
    have := Nat.eq_of_mul_eq_mul_left h0 e
    omega
  · simp only [if_true] at h3
    have e : c = d := adr_inj hdl.symm (by omega)
    subst e
    rw [join_iff]
    have := lcp_halves c false
    rw [show (!false) = true from rfl] at this
    exact ⟨false, by rw [this], by rw [this]; rfl⟩
theorem MergeJ.canon {out ks : List Key} (h : MergeJ out ks) : Canon (out.map kb) := by
  refine ⟨fun x hx => ?_, (rchain_iff out).1 h.chain, fun x hx y hy ⟨h1, h2, h3⟩ => ?_⟩
  · obtain ⟨k, _, rfl⟩ := List.mem_map.1 hx
    exact kb_al k
  · obtain ⟨a, ha, rfl⟩ := List.mem_map.1 hx
    obtain ⟨b, hb, rfl⟩ := List.mem_map.1 hy
    simp only [kb] at h1 h2 h3
    have a32 := h.o32 a ha
    have b32 := h.o32 b hb
    have hj := sib_join a32 b32 (by omega) h2 h3
    obtain ⟨l1, l2, e⟩ := rchain_next h.chain (List.mem_reverse.2 ha) (List.mem_reverse.2 hb) h3
    have hadj := h.adj
    rw [e] at hadj
    rw [noadj_mid l1 l2 a b hadj] at hj
    cases hj
end Go.Proofs.Ytpabblkppbfbjaa.wlk
