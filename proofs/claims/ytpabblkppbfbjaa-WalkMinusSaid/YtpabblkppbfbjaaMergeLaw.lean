/- What the law WalkMerges compares is the same. No program in sight, but for rows of prefixes as arguments. -/
import Derived.Test.YtpabblkppbfbjaaRefOf
import Derived.Test.YtpabblkppbfbjaaRefSort
import Derived.Test.YtpabblkppbfbjaaMergeMath
import Derived.Test.YtpabblkppbfbjaaPfxRef
import Derived.Test.YtpabblkppbfbjaaTrieArgs
import Derived.Test.YtpabblkppbfbjaaRel
namespace Go.Proofs.Ytpabblkppbfbjaa.wlk
open Go.RowKit Go.Proofs.Ytpabblkppbfbjaa.kit Go.Proofs.Ytpabblkppbfbjaa.pfx Go.Proofs.Ytpabblkppbfbjaa.mem Go.Proofs.Ytpabblkppbfbjaa.foot Go.Proofs.Ytpabblkppbfbjaa.tri Go.Proofs.Ytpabblkppbfbjaa.srt
set_option linter.unusedVariables false
set_option linter.unusedSimpArgs false

/-- a row of prefixes as its cells -/
theorem all_fv {w : World} {G : Foot} : ∀ {l : List (Int × Int)} {vs : List Value}, rAll RPfx w G vs l → ∃ L : List Pf, L.length = l.length ∧ (∀ x ∈ L, x.1 < 4294967296) ∧ vs = fv L
  | [], vs, h => ⟨[], rfl, (fun x hx => by cases hx), h⟩
  | p :: l, vs, h => by
    obtain ⟨cs, ds, rfl, hp, hl⟩ := h
    obtain ⟨a, ha, h1, rfl, _⟩ := pfx_eq hp
    obtain ⟨L, h2, h3, rfl⟩ := all_fv hl
    refine ⟨(a, p.2) :: L, by simp [h2], fun x hx => ?_, by rw [fv_cons]; rfl⟩
    rcases List.mem_cons.1 hx with rfl | hx
    · exact ha
    · exact h3 x hx
theorem els_fv {w : World} {G : Foot} {A : Option Addr} {l : List (Int × Int)} (h : Els 2 RPfx w G A l) : ∃ L : List Pf, L.length = l.length ∧ (∀ x ∈ L, x.1 < 4294967296) ∧ Rg w G 2 A L.length (fv L) := by
  obtain ⟨vs, h1, h2⟩ := h
  obtain ⟨L, h3, h4, rfl⟩ := all_fv h2
  exact ⟨L, h3, h4, by rw [h3]; exact h1⟩

theorem kbs_inj : ∀ {a b : List Key}, (∀ k ∈ a, k.length ≤ 32) → (∀ k ∈ b, k.length ≤ 32) → a.map kb = b.map kb → a = b
  | [], [], _, _, _ => rfl
  | [], _ :: _, _, _, h => by simp at h
  | _ :: _, [], _, _, h => by simp at h
  | x :: a, y :: b, ha, hb, h => by
    simp only [List.map_cons, List.cons.injEq] at h
    rw [kb_inj (ha x (by simp)) (hb y (by simp)) h.1, kbs_inj (fun k hk => ha k (by simp [hk])) (fun k hk => hb k (by simp [hk])) h.2]
/-- which addresses the good ones have -/
theorem cov_of {L : List Pf} {ks : List Key} (hs : IsSort gdP L (ks.map kp)) (n : Nat) : Cov (ks.map kb) n ↔ InP (ofL L) n := by
  unfold Cov InP
  constructor
  · rintro ⟨x, hx, hn⟩
    obtain ⟨k, hk, rfl⟩ := List.mem_map.1 hx
    have hm := (hs.mem (kp k)).1 (List.mem_map_of_mem hk)
    refine ⟨endsP (kp k), List.mem_map_of_mem (List.mem_filter.2 hm), ?_⟩
    have h0 := Nat.pow_pos (n := 32 - k.length) (show 0 < 2 by decide)
    unfold InB kb at hn
    dsimp only at hn
    simp only [endsP, kp, Int.toNat_natCast]
    omega
  · rintro ⟨x, hx, hn⟩
    obtain ⟨p, hp, rfl⟩ := List.mem_map.1 hx
    obtain ⟨k, hk, rfl⟩ := List.mem_map.1 ((hs.mem p).2 (List.mem_filter.1 hp))
    refine ⟨kb k, List.mem_map_of_mem hk, ?_⟩
    have h0 := Nat.pow_pos (n := 32 - k.length) (show 0 < 2 by decide)
    unfold InB kb
    simp only [endsP, kp, Int.toNat_natCast] at hn
    dsimp only
    omega
theorem tops_cov {L : List Pf} {ks : List Key} (hs : IsSort gdP L (ks.map kp)) (h32 : ∀ k ∈ ks, k.length ≤ 32) (n : Nat) : Cov ((topsK ks).map kb) n ↔ InP (ofP L) n :=
  ((tops_ok h32 hs.strict).covs h32 n).trans ((cov_of hs n).trans ((ofP_ok L).2 n).symm)
theorem tops_32 {ks : List Key} (h32 : ∀ k ∈ ks, k.length ≤ 32) : ∀ k ∈ topsK ks, k.length ≤ 32 := fun k hk => h32 k (topsK_sub _ _ hk)
theorem mergeJ_of {L : List Pf} {ks : List Key} (hs : IsSort gdP L (ks.map kp)) (h32 : ∀ k ∈ ks, k.length ≤ 32) : MergeJ (mergeK (topsK ks)) (topsK ks) := merge_ok (tops_32 h32) (tops_ok h32 hs.strict).chain
theorem canon_law {L : List Prt} (hL : Parts L) {ms : List Key} (h32 : ∀ k ∈ ms, k.length ≤ 32) (hc : Canon (ms.map kb)) (h : ∀ n, Cov (ms.map kb) n ↔ InP L n) : ms.map kp = blks L := by
  refine blks_uniq hL ?_ (kps_good h32) fun n => ?_
  · rw [nbs_kp]; exact hc
  · rw [nbs_kp]; exact h n
theorem merge_law {L : List Pf} {ks : List Key} (hs : IsSort gdP L (ks.map kp)) (h32 : ∀ k ∈ ks, k.length ≤ 32) : (mergeK (topsK ks)).map kp = blks (ofP L) := by
  have hJ := mergeJ_of hs h32
  exact canon_law (ofP_ok L).1 hJ.o32 hJ.canon fun n => (hJ.cov n).trans (tops_cov hs h32 n)
theorem cov_same {ms ks : List Key} (h32 : ∀ k ∈ ms, k.length ≤ 32) (hs : IsSort gdP (ms.map kp) (ks.map kp)) (n : Nat) : Cov (ks.map kb) n ↔ Cov (ms.map kb) n := by
  unfold Cov
  constructor
  · rintro ⟨x, hx, hn⟩
    obtain ⟨k, hk, rfl⟩ := List.mem_map.1 hx
    obtain ⟨m, hm, e⟩ := List.mem_map.1 ((hs.mem (kp k)).1 (List.mem_map_of_mem hk)).1
    rw [kp_inj e] at hm
    exact ⟨_, List.mem_map_of_mem hm, hn⟩
  · rintro ⟨x, hx, hn⟩
    obtain ⟨k, hk, rfl⟩ := List.mem_map.1 hx
    obtain ⟨m, hm, e⟩ := List.mem_map.1 ((hs.mem (kp k)).2 ⟨List.mem_map_of_mem hk, gdP_kp (h32 k hk)⟩)
    rw [kp_inj e] at hm
    exact ⟨_, List.mem_map_of_mem hm, hn⟩
/-- what is merged stays as it is -/
theorem merge_again {ms ks : List Key} (m32 : ∀ k ∈ ms, k.length ≤ 32) (hc : Canon (ms.map kb)) (hs : IsSort gdP (ms.map kp) (ks.map kp)) (h32 : ∀ k ∈ ks, k.length ≤ 32) : mergeK (topsK ks) = ms := by
  have hJ := mergeJ_of hs h32
  exact kbs_inj hJ.o32 m32 (canon_uniq hJ.canon hc fun n => (hJ.cov n).trans (((tops_ok h32 hs.strict).covs h32 n).trans (cov_same m32 hs n)))
theorem mergeK_len (ts : List Key) : (mergeK ts).length ≤ ts.length := by
  have h : ∀ (ls out : List Key), (ls.foldl mergeF out).length ≤ out.length + ls.length := by
    intro ls
    induction ls with
    | nil => intro out; simp
    | cons k ls ih =>
      intro out
      have h1 := ih (mergeF out k)
      have h2 : (mergeF out k).length ≤ out.length + 1 := by
        unfold mergeF
        have := mergeR_len out.reverse k
        simpa using this
      simp only [List.foldl_cons, List.length_cons]
      omega
  have := h ts []
  simpa [mergeK] using this
theorem sort_len {L : List Pf} {ks : List Key} (hs : IsSort gdP L (ks.map kp)) : ks.length ≤ L.length := by
  have := strict_len _ L hs.strict fun x hx => ((hs.mem x).1 hx).1
  simpa using this
theorem sort_uniq {L : List Pf} {ks rs : List Key} (h : IsSort gdP L (ks.map kp)) (k : IsSort gdP L (rs.map kp)) : ks = rs := kps_inj (h.eq k)
theorem spanK_blk (ts : List Key) : spanK ts = blkSum (ts.map kb) := by
  unfold spanK blkSum
  rw [List.map_map]
  rfl
theorem kbs_lt {ts : List Key} (h32 : ∀ k ∈ ts, k.length ≤ 32) : ∀ x ∈ ts.map kb, x.1 + 2 ^ x.2 ≤ 4294967296 := by
  intro x hx
  obtain ⟨k, hk, rfl⟩ := List.mem_map.1 hx
  exact kb_lt (h32 k hk)
theorem span_law {L : List Pf} {ks : List Key} (hs : IsSort gdP L (ks.map kp)) (h32 : ∀ k ∈ ks, k.length ≤ 32) : spanK (topsK ks) = sizeP2 (ofP L) := by
  rw [spanK_blk]
  exact blk_part (tops_ok h32 hs.strict).chain (kbs_lt (tops_32 h32)) (ofP_ok L).1 (tops_cov hs h32)

/-- is it one that no other one covers? -/
def isT (ks : List Key) (x : Key) : Bool := ks.all fun q => decide (q <+: x → q = x)
theorem isT_iff (ks : List Key) (x : Key) : isT ks x = true ↔ ∀ q ∈ ks, q <+: x → q = x := by
  unfold isT
  rw [List.all_eq_true]
  simp only [decide_eq_true_iff]
theorem isT_snoc (ks : List Key) (q x : Key) : isT (ks ++ [q]) x = (isT ks x && decide (q <+: x → q = x)) := by simp [isT]
theorem chain_plt {out : List Key} (h : Chain (out.map kb)) : (out.map kp).Pairwise plt := by
  rw [List.pairwise_map]
  refine (chain_map.1 h).imp ?_
  intro a b hab
  have h0 := Nat.pow_pos (n := 32 - a.length) (show 0 < 2 by decide)
  exact .inl (by show adr a < adr b; omega)
theorem tops_filter {ks : List Key} (h32 : ∀ q ∈ ks, q.length ≤ 32) (hp : (ks.map kp).Pairwise plt) : ks.filter (isT ks) = topsK ks := by
  have hT := tops_ok h32 hp
  refine kps_inj (strict_eq ?_ (chain_plt hT.chain) fun x => ?_)
  · rw [List.pairwise_map] at hp ⊢
    exact hp.filter _
  · constructor
    · intro hx
      obtain ⟨k, hk, rfl⟩ := List.mem_map.1 hx
      obtain ⟨h1, h2⟩ := List.mem_filter.1 hk
      exact List.mem_map_of_mem ((hT.iff h32 k).2 ⟨h1, (isT_iff _ _).1 h2⟩)
    · intro hx
      obtain ⟨k, hk, rfl⟩ := List.mem_map.1 hx
      obtain ⟨h1, h2⟩ := (hT.iff h32 k).1 hk
      exact List.mem_map_of_mem (List.mem_filter.2 ⟨h1, (isT_iff _ _).2 h2⟩)
theorem covers_key {q k : Key} (hq : q.length ≤ 32) (hk : k.length ≤ 32) : coversB (adr q) q.length (adr k) k.length = decide (q <+: k) := by
  rw [← cover_key hq hk]
  unfold coversB coverB hasB
  generalize goodB (adr q) q.length = a
  generalize goodB (adr k) k.length = b
  cases a <;> cases b <;> simp
end Go.Proofs.Ytpabblkppbfbjaa.wlk
