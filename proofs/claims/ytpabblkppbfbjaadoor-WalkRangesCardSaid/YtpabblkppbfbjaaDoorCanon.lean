/- Blocks of addresses in order, apart, of which no two are the halves of one: one list alone has these addresses; and the greatest blocks of parts are such a list. Plain Lean. -/
import Derived.Test.YtpabblkppbfbjaaDoorGreedyMath
namespace Go.Proofs.YtpabblkppbfbjaaDoor.wlk
set_option linter.unusedVariables false

/-- a block: its first address, and of how many addresses it is, as a power of two -/
abbrev Blk := Nat × Nat
def InB (x : Blk) (n : Nat) : Prop := x.1 ≤ n ∧ n < x.1 + 2 ^ x.2
def Cov (l : List Blk) (n : Nat) : Prop := ∃ x ∈ l, InB x n
def Chain (l : List Blk) : Prop := l.Pairwise fun x y => x.1 + 2 ^ x.2 ≤ y.1
structure Canon (l : List Blk) : Prop where
  al : ∀ x ∈ l, x.1 % 2 ^ x.2 = 0
  chain : Chain l
  apart : ∀ x ∈ l, ∀ y ∈ l, ¬ (x.2 = y.2 ∧ x.1 % 2 ^ (x.2 + 1) = 0 ∧ y.1 = x.1 + 2 ^ x.2)
theorem Cov.cons (x : Blk) (l : List Blk) (n : Nat) : Cov (x :: l) n ↔ InB x n ∨ Cov l n := by simp [Cov]
theorem Cov.app (l r : List Blk) (n : Nat) : Cov (l ++ r) n ↔ Cov l n ∨ Cov r n := by
  unfold Cov
  constructor
  · rintro ⟨x, hx, h⟩
    rcases List.mem_append.1 hx with h1 | h1
    · exact .inl ⟨x, h1, h⟩
    · exact .inr ⟨x, h1, h⟩
  · rintro (⟨x, hx, h⟩ | ⟨x, hx, h⟩)
    · exact ⟨x, List.mem_append_left _ hx, h⟩
    · exact ⟨x, List.mem_append_right _ hx, h⟩
theorem Cov.nil (n : Nat) : ¬ Cov [] n := by rintro ⟨x, hx, _⟩; cases hx
theorem chain_cases : ∀ {l : List Blk}, Chain l → ∀ {x y : Blk}, x ∈ l → y ∈ l → x = y ∨ x.1 + 2 ^ x.2 ≤ y.1 ∨ y.1 + 2 ^ y.2 ≤ x.1
  | [], _, x, y, hx, _ => by cases hx
  | z :: l, h, x, y, hx, hy => by
    obtain ⟨h1, h2⟩ := List.pairwise_cons.1 h
    rcases List.mem_cons.1 hx with e | hx'
    · rcases List.mem_cons.1 hy with e2 | hy'
      · exact .inl (e.trans e2.symm)
      · exact .inr (.inl (by rw [e]; exact h1 y hy'))
    · rcases List.mem_cons.1 hy with e2 | hy'
      · exact .inr (.inr (by rw [e2]; exact h1 x hx'))
      · exact chain_cases h2 hx' hy'
theorem two_not {i s t : Nat} (hs : s % 2 ^ (i + 1) = 0) (ht : t % 2 ^ (i + 1) = 0) (h : t = s + 2 ^ i) : False := by
  subst h
  have h0 := Nat.pow_pos (n := i) (show 0 < 2 by decide)
  have h1 : 2 ^ (i + 1) = 2 * 2 ^ i := by rw [Nat.pow_succ, Nat.mul_comm]
  have h2 : (s + 2 ^ i) % 2 ^ (i + 1) = 2 ^ i := by rw [Nat.add_mod, hs, Nat.zero_add, Nat.mod_mod, Nat.mod_eq_of_lt (by omega)]
  omega
theorem canon_low {l : List Blk} (h : Canon l) : ∀ (m i s j : Nat), i ≤ m → (s, i) ∈ l → i < j → s % 2 ^ j = 0 → (∀ n, s ≤ n → n < s + 2 ^ j → Cov l n) → False := by
  intro m
  induction m with
  | zero =>
    intro i s j hi hm hj hs hc
    obtain rfl : i = 0 := by omega
    have hjp : 2 ^ (0 + 1) ≤ 2 ^ j := Nat.pow_le_pow_right (by omega) (by omega)
    obtain ⟨⟨t, i'⟩, hm', h1, h2⟩ := hc (s + 2 ^ 0) (by omega) (by omega)
    dsimp only at h1 h2
    have h0' := Nat.pow_pos (n := i') (show 0 < 2 by decide)
    rcases chain_cases h.chain hm hm' with e | e | e
    · cases e; omega
    · dsimp only at e
      have ht : t = s + 2 ^ 0 := by omega
      have hal := h.al _ hm'
      dsimp only at hal
      rcases Nat.eq_zero_or_pos i' with h3 | h3
      · subst h3
        exact h.apart _ hm _ hm' ⟨rfl, mod_pow_le (show 0 + 1 ≤ j by omega) hs, ht⟩
      · exact two_not (mod_pow_le (show 0 + 1 ≤ j by omega) hs) (mod_pow_le (show 0 + 1 ≤ i' by omega) hal) ht
    · dsimp only at e; omega
  | succ m ih =>
    intro i s j hi hm hj hs hc
    have h0 := Nat.pow_pos (n := i) (show 0 < 2 by decide)
    have hjp : 2 ^ (i + 1) ≤ 2 ^ j := Nat.pow_le_pow_right (by omega) (by omega)
    have hp : 2 ^ (i + 1) = 2 * 2 ^ i := by rw [Nat.pow_succ, Nat.mul_comm]
    obtain ⟨⟨t, i'⟩, hm', h1, h2⟩ := hc (s + 2 ^ i) (by omega) (by omega)
    dsimp only at h1 h2
    have h0' := Nat.pow_pos (n := i') (show 0 < 2 by decide)
    rcases chain_cases h.chain hm hm' with e | e | e
    · cases e; omega
    · dsimp only at e
      have ht : t = s + 2 ^ i := by omega
      have hal := h.al _ hm'
      dsimp only at hal
      rcases Nat.lt_trichotomy i' i with h3 | h3 | h3
      · refine ih i' t i (by omega) hm' h3 ?_ (fun n hn1 hn2 => hc n (by omega) (by omega))
        rw [ht, Nat.add_mod_right]
        exact mod_pow_le (by omega) hs
      · subst h3
        exact h.apart _ hm _ hm' ⟨rfl, mod_pow_le (show i' + 1 ≤ j by omega) hs, ht⟩
      · exact two_not (mod_pow_le (show i + 1 ≤ j by omega) hs) (mod_pow_le (show i + 1 ≤ i' by omega) hal) ht
    · dsimp only at e; omega
theorem Canon.tail {x : Blk} {l : List Blk} (h : Canon (x :: l)) : Canon l :=
  ⟨fun y hy => h.al y (by simp [hy]), (List.pairwise_cons.1 h.chain).2, fun y hy z hz => h.apart y (by simp [hy]) z (by simp [hz])⟩
theorem Chain.min {x : Blk} {l : List Blk} (h : Chain (x :: l)) {n : Nat} (hn : Cov (x :: l) n) : x.1 ≤ n := by
  obtain ⟨y, hy, h1, _⟩ := hn
  rcases List.mem_cons.1 hy with rfl | hy
  · exact h1
  · have h3 : x.1 + 2 ^ x.2 ≤ y.1 := (List.pairwise_cons.1 h).1 y hy
    exact Nat.le_trans (Nat.le_trans (Nat.le_add_right _ _) h3) h1
theorem Chain.rest {x : Blk} {l : List Blk} (h : Chain (x :: l)) (n : Nat) : Cov l n ↔ Cov (x :: l) n ∧ x.1 + 2 ^ x.2 ≤ n := by
  rw [Cov.cons]
  constructor
  · rintro ⟨y, hy, h1, h2⟩
    have h3 : x.1 + 2 ^ x.2 ≤ y.1 := (List.pairwise_cons.1 h).1 y hy
    exact ⟨.inr ⟨y, hy, h1, h2⟩, by omega⟩
  · rintro ⟨h1 | h1, h2⟩
    · have := h1.2; omega
    · exact h1
theorem head_in (x : Blk) (l : List Blk) : Cov (x :: l) x.1 := ⟨x, by simp, Nat.le_refl _, by have := Nat.pow_pos (n := x.2) (show 0 < 2 by decide); omega⟩
theorem canon_uniq : ∀ {l r : List Blk}, Canon l → Canon r → (∀ n, Cov l n ↔ Cov r n) → l = r
  | [], [], _, _, _ => rfl
  | [], y :: r, _, _, h => absurd ((h y.1).2 (head_in y r)) (Cov.nil _)
  | x :: l, [], _, _, h => absurd ((h x.1).1 (head_in x l)) (Cov.nil _)
  | x :: l, y :: r, hl, hr, h => by
    have e1 : x.1 = y.1 := Nat.le_antisymm (hl.chain.min ((h _).2 (head_in y r))) (hr.chain.min ((h _).1 (head_in x l)))
    have e2 : x.2 = y.2 := by
      rcases Nat.lt_trichotomy x.2 y.2 with h3 | h3 | h3
      · exact (canon_low hl x.2 x.2 x.1 y.2 (Nat.le_refl _) (by simp) h3 (by rw [e1]; exact hr.al y (by simp)) fun n h1 h2 => (h n).2 ⟨y, by simp, by omega, by omega⟩).elim
      · exact h3
      · exact (canon_low hr y.2 y.2 y.1 x.2 (Nat.le_refl _) (by simp) h3 (by rw [← e1]; exact hl.al x (by simp)) fun n h1 h2 => (h n).1 ⟨x, by simp, by omega, by omega⟩).elim
    have e3 : l = r := canon_uniq hl.tail hr.tail fun n => by
      rw [hl.chain.rest, hr.chain.rest, h n, e1, e2]
    obtain ⟨a, i⟩ := x
    obtain ⟨b, j⟩ := y
    dsimp only at e1 e2
    rw [e1, e2, e3]

/-- a prefix as a block -/
def nb (p : Nat × Int) : Blk := (p.1, 32 - p.2.toNat)
theorem nb_gr (a j : Nat) (h : j ≤ 32) : nb (a, ((32 - j : Nat) : Int)) = (a, j) := by
  unfold nb
  simp only [Int.toNat_natCast]
  rw [show 32 - (32 - j) = j by omega]
theorem nb_inj {p q : Nat × Int} (h : nb p = nb q) (hp : 0 ≤ p.2 ∧ p.2 ≤ 32) (hq : 0 ≤ q.2 ∧ q.2 ≤ 32) : p = q := by
  obtain ⟨a, m⟩ := p
  obtain ⟨b, n⟩ := q
  simp only [nb, Prod.mk.injEq] at h hp hq ⊢
  exact ⟨h.1, by omega⟩
theorem nbs_inj : ∀ {l r : List (Nat × Int)}, l.map nb = r.map nb → (∀ p ∈ l, 0 ≤ p.2 ∧ p.2 ≤ 32) → (∀ p ∈ r, 0 ≤ p.2 ∧ p.2 ≤ 32) → l = r
  | [], [], _, _, _ => rfl
  | [], _ :: _, h, _, _ => by simp at h
  | _ :: _, [], h, _, _ => by simp at h
  | p :: l, q :: r, h, hl, hr => by
    simp only [List.map_cons, List.cons.injEq] at h
    rw [nb_inj h.1 (hl p (by simp)) (hr q (by simp)), nbs_inj h.2 (fun x hx => hl x (by simp [hx])) fun x hx => hr x (by simp [hx])]

/-- what holds of each of the greatest blocks -/
structure GB (a r : Nat) (x : Blk) : Prop where
  lo : a ≤ x.1
  hi : x.1 + 2 ^ x.2 ≤ a + r
  al : x.1 % 2 ^ x.2 = 0
  top : ¬ (x.2 < 32 ∧ x.1 % 2 ^ (x.2 + 1) = 0 ∧ x.1 + 2 ^ (x.2 + 1) ≤ a + r)
theorem gr_is : ∀ (m a r : Nat), r ≤ m → (∀ x ∈ (gr a r).map nb, GB a r x) ∧ Chain ((gr a r).map nb) ∧ (∀ n, Cov ((gr a r).map nb) n ↔ a ≤ n ∧ n < a + r)
  | m, a, 0, h => by
    rw [gr_zero]
    exact ⟨fun x hx => by simp at hx, List.Pairwise.nil, fun n => ⟨fun hn => absurd hn (Cov.nil _), fun ⟨h1, h2⟩ => by omega⟩⟩
  | 0, a, r + 1, h => by omega
  | m + 1, a, r + 1, h => by
    have hj := gj_is (a := a) (show 1 ≤ r + 1 by omega)
    obtain ⟨j, hjj⟩ : ∃ j, j = gj a (r + 1) := ⟨_, rfl⟩
    rw [← hjj] at hj
    have h0 := Nat.pow_pos (n := j) (show 0 < 2 by decide)
    have h1 := hj.le
    obtain ⟨k1, k2, k3⟩ := gr_is m (a + 2 ^ j) (r + 1 - 2 ^ j) (by omega)
    have hsum : a + 2 ^ j + (r + 1 - 2 ^ j) = a + (r + 1) := by omega
    rw [gr_step (by omega) hj]
    simp only [List.map_cons, nb_gr a j hj.lt]
    refine ⟨fun x hx => ?_, List.pairwise_cons.2 ⟨fun x hx => (k1 x hx).lo, k2⟩, fun n => ?_⟩
    · rcases List.mem_cons.1 hx with rfl | hx
      · refine ⟨Nat.le_refl _, by dsimp only; omega, hj.al, fun ⟨hc0, hc1, hc2⟩ => ?_⟩
        dsimp only at hc0 hc1 hc2
        rcases hj.top with h2 | h2
        · omega
        · exact h2 ⟨hc1, by omega⟩
      · have hx := k1 x hx
        exact ⟨by have := hx.lo; omega, by have := hx.hi; omega, hx.al, fun hc => hx.top ⟨hc.1, hc.2.1, by omega⟩⟩
    · rw [Cov.cons, k3 n]
      unfold InB
      dsimp only
      omega

/-- the blocks of a part -/
def blk (p : Nat × Nat) : List (Nat × Int) := gr p.1 (p.2 + 1 - p.1)
def blks (l : List (Nat × Nat)) : List (Nat × Int) := l.flatMap blk
theorem blks_snoc (l : List (Nat × Nat)) (p : Nat × Nat) : blks (l ++ [p]) = blks l ++ blk p := by simp [blks]
theorem blks_cons (l : List (Nat × Nat)) (p : Nat × Nat) : blks (p :: l) = blk p ++ blks l := by simp [blks]
/-- parts that may be -/
def PartOk (p : Nat × Nat) : Prop := p.1 ≤ p.2 ∧ p.2 < 4294967296
/-- parts, rising, apart -/
structure Parts (l : List (Nat × Nat)) : Prop where
  ok : ∀ p ∈ l, PartOk p
  apart : l.Pairwise fun p q => p.2 + 1 < q.1
def InP (l : List (Nat × Nat)) (n : Nat) : Prop := ∃ p ∈ l, p.1 ≤ n ∧ n ≤ p.2
theorem Parts.tail {p : Nat × Nat} {l : List (Nat × Nat)} (h : Parts (p :: l)) : Parts l := ⟨fun q hq => h.ok q (by simp [hq]), (List.pairwise_cons.1 h.apart).2⟩
theorem blks_len : ∀ (l : List (Nat × Nat)), (∀ p ∈ l, PartOk p) → (blks l).length ≤ l.length * 65
  | [], _ => by simp [blks]
  | p :: l, h => by
    have h1 := blks_len l fun q hq => h q (by simp [hq])
    have h2 := h p (by simp)
    unfold PartOk at h2
    have h3 := gr_len (a := p.1) (r := p.2 + 1 - p.1) (by omega)
    rw [blks_cons]
    simp only [List.length_append, List.length_cons]
    unfold blk
    omega
theorem gr_good : ∀ (m a r : Nat), r ≤ m → ∀ p ∈ gr a r, 0 ≤ p.2 ∧ p.2 ≤ 32
  | m, a, 0, h, p, hp => by rw [gr_zero] at hp; cases hp
  | 0, a, r + 1, h, p, hp => by omega
  | m + 1, a, r + 1, h, p, hp => by
    have hj := gj_is (a := a) (show 1 ≤ r + 1 by omega)
    have h0 := Nat.pow_pos (n := gj a (r + 1)) (show 0 < 2 by decide)
    have h1 := hj.le
    rw [gr_step (by omega) hj] at hp
    rcases List.mem_cons.1 hp with rfl | hp
    · dsimp only; omega
    · exact gr_good m _ _ (by omega) p hp
theorem blks_good (l : List (Nat × Nat)) : ∀ p ∈ blks l, 0 ≤ p.2 ∧ p.2 ≤ 32 := by
  intro p hp
  obtain ⟨q, _, hp⟩ := List.mem_flatMap.1 hp
  exact gr_good _ _ _ (Nat.le_refl _) p hp
theorem blks_cov : ∀ (l : List (Nat × Nat)), (∀ p ∈ l, PartOk p) → ∀ n, Cov ((blks l).map nb) n ↔ InP l n
  | [], _, n => by simp [blks, Cov, InP]
  | p :: l, h, n => by
    have h2 := h p (by simp)
    unfold PartOk at h2
    rw [blks_cons, List.map_append, Cov.app, blks_cov l (fun q hq => h q (by simp [hq])) n]
    unfold blk
    rw [(gr_is _ _ _ (Nat.le_refl _)).2.2 n]
    unfold InP
    constructor
    · rintro (h3 | ⟨q, hq, h3⟩)
      · exact ⟨p, by simp, by omega, by omega⟩
      · exact ⟨q, by simp [hq], h3⟩
    · rintro ⟨q, hq, h3⟩
      rcases List.mem_cons.1 hq with rfl | hq
      · exact .inl (by omega)
      · exact .inr ⟨q, hq, h3⟩
/-- of each block: of which part it is -/
theorem blks_of {l : List (Nat × Nat)} {x : Blk} (hx : x ∈ (blks l).map nb) : ∃ p ∈ l, x ∈ (blk p).map nb := by
  obtain ⟨y, hy, rfl⟩ := List.mem_map.1 hx
  obtain ⟨p, hp, hy⟩ := List.mem_flatMap.1 hy
  exact ⟨p, hp, List.mem_map_of_mem hy⟩
theorem parts_cases : ∀ {l : List (Nat × Nat)}, Parts l → ∀ {p q : Nat × Nat}, p ∈ l → q ∈ l → p = q ∨ p.2 + 1 < q.1 ∨ q.2 + 1 < p.1
  | [], _, x, y, hx, _ => by cases hx
  | z :: l, h, x, y, hx, hy => by
    obtain ⟨h1, h2⟩ := List.pairwise_cons.1 h.apart
    rcases List.mem_cons.1 hx with e | hx'
    · rcases List.mem_cons.1 hy with e2 | hy'
      · exact .inl (e.trans e2.symm)
      · exact .inr (.inl (by rw [e]; exact h1 y hy'))
    · rcases List.mem_cons.1 hy with e2 | hy'
      · exact .inr (.inr (by rw [e2]; exact h1 x hx'))
      · exact parts_cases h.tail hx' hy'
theorem blks_chain : ∀ {l : List (Nat × Nat)}, Parts l → Chain ((blks l).map nb)
  | [], _ => List.Pairwise.nil
  | p :: l, h => by
    have hp := h.ok p (by simp)
    unfold PartOk at hp
    rw [blks_cons, List.map_append]
    refine List.pairwise_append.2 ⟨(gr_is _ _ _ (Nat.le_refl _)).2.1, blks_chain h.tail, fun x hx y hy => ?_⟩
    have h1 := ((gr_is _ _ _ (Nat.le_refl _)).1 x hx).hi
    obtain ⟨q, hq, hy⟩ := blks_of hy
    have h2 := ((gr_is _ _ _ (Nat.le_refl _)).1 y hy).lo
    have h3 := (List.pairwise_cons.1 h.apart).1 q hq
    omega
theorem blks_canon {l : List (Nat × Nat)} (h : Parts l) : Canon ((blks l).map nb) := by
  refine ⟨fun x hx => ?_, blks_chain h, fun x hx y hy ⟨h1, h2, h3⟩ => ?_⟩
  · obtain ⟨p, hp, hx⟩ := blks_of hx
    exact ((gr_is _ _ _ (Nat.le_refl _)).1 x hx).al
  · obtain ⟨p, hp, hx⟩ := blks_of hx
    obtain ⟨q, hq, hy⟩ := blks_of hy
    have gx := (gr_is _ _ _ (Nat.le_refl _)).1 x hx
    have gy := (gr_is _ _ _ (Nat.le_refl _)).1 y hy
    have kp := h.ok p hp
    have kq := h.ok q hq
    unfold PartOk at kp kq
    have a1 := gx.lo
    have a2 := gx.hi
    have a3 := gy.lo
    have a4 := gy.hi
    rw [← h1] at a4
    have h0 := Nat.pow_pos (n := x.2) (show 0 < 2 by decide)
    have hs : 2 ^ (x.2 + 1) = 2 * 2 ^ x.2 := by rw [Nat.pow_succ, Nat.mul_comm]
    rcases parts_cases h hp hq with e | e | e
    · subst e
      refine gx.top ⟨?_, h2, by omega⟩
      rcases Nat.lt_or_ge x.2 32 with h5 | h5
      · exact h5
      · have : 2 ^ 32 ≤ 2 ^ x.2 := Nat.pow_le_pow_right (by omega) h5
        omega
    · omega
    · omega
/-- the fewest prefixes of parts: the one such list -/
theorem blks_uniq {l : List (Nat × Nat)} (h : Parts l) {r : List (Nat × Int)} (hr : Canon (r.map nb)) (hg : ∀ p ∈ r, 0 ≤ p.2 ∧ p.2 ≤ 32) (hc : ∀ n, Cov (r.map nb) n ↔ InP l n) : r = blks l :=
  nbs_inj (canon_uniq hr (blks_canon h) fun n => (hc n).trans (blks_cov l h.ok n).symm) hg (blks_good l)
end Go.Proofs.YtpabblkppbfbjaaDoor.wlk
