/- slices.Sort of numbers of 32 bits, in a row of the call's own: they rise, and are the same ones. Condition: fewer than 2^60. -/
import Derived.Test.YtafepficapdepaaSuPdq
import Derived.Test.YtafepficapdepaaNums
namespace Go.Proofs.Ytafepficapdepaa.su
open Go.Proofs Go.RowKit Go.Sort Go.Proofs.Ytafepficapdepaa.kit
set_option linter.unusedVariables false
set_option linter.unusedSimpArgs false
theorem pdq_all (blk off cap N : Nat) (hN : N < 1152921504606846976) : ∀ (n a b lim : Nat) (d : Array Int) (w : World), b - a < n → Say w blk off N d → a ≤ b → b ≤ N → lim < 1000 → Go.Sort.Below ltInt a b d →
      Calls Try.prog 165 #[sl blk off N cap, .int .i64 a, .int .i64 b, .int .i64 lim] w (Sorts w blk off a b d)
  | 0, a, b, _, _, _, h, _, _, _, _, _ => absurd h (by omega)
  | n + 1, a, b, lim, d, w, h, h0, hab, hb, hl, hB => pdq_step n blk off cap N hN (fun a b lim d w => pdq_all blk off cap N hN n a b lim d w) a b lim d w (by omega) h0 hab hb hl hB
set_option maxHeartbeats 1000000 in
theorem len_any (n : Nat) (hn : n < 4611686018427387904) (w : World) : Calls Try.prog 166 #[.int .u64 (n : Int)] w fun e w' => e = .returned (.int .i64 (bitsLen n : Nat)) ∧ w' = w := by
  have hL : Hid (∀ w, Calls Try.prog 190 #[.int .u64 (n : Int)] w fun e w' => e = .returned (.int .i64 (bitsLen n : Nat)) ∧ w' = w) := fun w => by
    have h := Try.bits_Len64 (n : Int) w (by omega) (by omega)
    rwa [Int.toNat_natCast, bitLen_eq _ (by omega)] at h
  go_enter Try.func166, Try.ntmps166
  go_wp2_with (go_at_call 190; refine (hL.out _).mono ?_; rintro e w' ⟨rfl, rfl⟩)
  go_ret
  exact ⟨rfl, rfl⟩
set_option maxHeartbeats 1000000 in
theorem sort_cells (blk off cap N : Nat) (d : Array Int) (w : World) (h0 : Say w blk off N d) : Calls Try.prog 140 #[sl blk off N cap] w (Sorts w blk off 0 N d) := by
  have hN := h0.2.2.2
  have hb : bitsLen N ≤ 62 := (bitsLen_le_iff N 62).2 (by omega)
  have HP := Lib.hid (pdq_all blk off cap N hN (N + 1) 0 N (bitsLen N) d w (by omega) h0 (by omega) (Nat.le_refl _) (by omega) (Or.inl rfl))
  have HL := Lib.hid (len_any N (by omega))
  generalize bitsLen N = m at HP HL
  have HFin : Hid (∀ w1, (∃ R, At eu w blk off R w1 ∧ PermIn 0 N d R ∧ SortedIn ltInt 0 N R) → Sorts w blk off 0 N d (.returned (.tuple #[])) w1) := fun w1 h => ⟨rfl, h⟩
  obtain ⟨Fin, hF⟩ : ∃ Fin, Fin = Sorts w blk off 0 N d := ⟨_, rfl⟩
  rw [← hF] at HFin ⊢
  have HF := Lib.hid hF
  clear h0 hb hF
  go_enter Try.func140, Try.ntmps140
  go_wp2_with (first
    | (go_at_call 166; refine (HL.out _).mono ?_; rintro e w' ⟨rfl, rfl⟩)
    | (go_at_call 165; refine HP.out.mono ?_; rintro e w1 ⟨rfl, hR⟩; have HE := Lib.hid (HFin.out w1 hR); clear hR))
  go_end0
  exact HE.out
/-- nil -/
theorem sort_nil (w : World) : Calls Try.prog 140 #[.slice none 0 0] w fun e w' => e = .returned (.tuple #[]) ∧ w' = w := by
  have h1 : Hid (∀ w, Calls Try.prog 180 #[.slice none 0 0, .int .i64 0, .int .i64 0] w fun e w' => e = .returned (.tuple #[]) ∧ w' = w) := fun w => by
    go_enter Try.func180, Try.ntmps180
    go_wp2_with fail
    go_loopw [6] (fun v6 wr => v6 = .int .i64 1 ∧ wr = w) (fun _ _ => 0)
    case atStart => exact ⟨rfl, rfl⟩
    case round =>
      obtain ⟨rfl, rfl⟩ := hrel
      go_wp2_with fail
      go_end0
      exact ⟨rfl, rfl⟩
  have h2 : Hid (∀ w, Calls Try.prog 165 #[.slice none 0 0, .int .i64 0, .int .i64 0, .int .i64 0] w fun e w' => e = .returned (.tuple #[]) ∧ w' = w) := fun w => by
    go_enter Try.func165, Try.ntmps165
    go_wp2_with fail
    go_loopw [1, 2, 3, 8, 9] (fun v1 v2 v3 v8 v9 wr => v1 = .int .i64 0 ∧ v2 = .int .i64 0 ∧ v3 = .int .i64 0 ∧ v8 = .bool true ∧ v9 = .bool true ∧ wr = w) (fun _ _ _ _ _ _ => 0)
    case atStart => exact ⟨rfl, rfl, rfl, rfl, rfl, rfl⟩
    case round =>
      obtain ⟨rfl, rfl, rfl, rfl, rfl, rfl⟩ := hrel
      go_wp2_with (go_at_call 180; refine (h1.out _).mono ?_; rintro e w' ⟨rfl, rfl⟩)
      refine bodyPost_ret (results_none rfl _ _ _) rfl ?_
      exact ⟨rfl, rfl⟩
  have h3 := Lib.hid (len_any 0 (by omega))
  have e0 : bitsLen 0 = 0 := rfl
  rw [e0] at h3
  clear e0
  go_enter Try.func140, Try.ntmps140
  go_wp2_with (first
    | (go_at_call 166; refine (h3.out _).mono ?_; rintro e w' ⟨rfl, rfl⟩)
    | (go_at_call 165; refine (h2.out _).mono ?_; rintro e w1 ⟨rfl, rfl⟩))
  go_end0
  exact ⟨rfl, rfl⟩
end Go.Proofs.Ytafepficapdepaa.su
namespace Go.Proofs.Ytafepficapdepaa.nums
open Go.RowKit Go.Proofs.Ytafepficapdepaa.kit Go.Proofs.Ytafepficapdepaa.mem Go.Proofs.Ytafepficapdepaa.foot Go.Proofs.Ytafepficapdepaa.su
set_option linter.unusedVariables false
set_option linter.unusedSimpArgs false
theorem extract_all {d : Array Int} : (d.extract 0 d.size).toList = d.toList := by simp
/-- a permutation of numbers, as numbers -/
theorem perm_nats {l : List Nat} {R : List Int} (h : R.Perm (l.map fun n : Nat => (n : Int))) : ∃ s : List Nat, R = s.map (fun n : Nat => (n : Int)) ∧ s.Perm l := by
  refine ⟨R.map Int.toNat, ?_, ?_⟩
  · rw [List.map_map]
    conv => lhs; rw [← List.map_id R]
    refine List.map_congr_left fun x hx => ?_
    have := h.subset hx
    rw [List.mem_map] at this
    obtain ⟨n, _, rfl⟩ := this
    simp
  · have := h.map Int.toNat
    rw [List.map_map] at this
    have e : l.map (Int.toNat ∘ fun n : Nat => (n : Int)) = l := by
      conv => rhs; rw [← List.map_id l]
      exact List.map_congr_left fun x _ => by simp
    rwa [e] at this
theorem Sort_any (A : Option Addr) (n c : Nat) (l : List Nat) (w : World) (hl : l.length = n) (hn : n < 1152921504606846976) (h : Own w 22 1 A n c (uv l)) :
    Calls Try.prog 140 #[.slice A n c] w fun e w' => e = .returned (.tuple #[]) ∧ ∃ s : List Nat, s.Perm l ∧ s.Pairwise (· ≤ ·) ∧ Own w' 22 1 A n c (uv s) ∧ Chg (sf A) w w' := by
  subst hl
  obtain ⟨hlen, hr⟩ := h
  rcases hr with ⟨rfl, h1, rfl⟩ | ⟨g, off, cur, rfl, hb, h1, h2, h3, h4⟩
  · have hz : l = [] := List.length_eq_zero_iff.1 h1
    subst hz
    refine (sort_nil w).mono ?_
    rintro e w' ⟨rfl, rfl⟩
    exact ⟨rfl, [], List.Perm.refl _, List.Pairwise.nil, ⟨by simp [uv], .inl ⟨rfl, rfl, rfl⟩⟩, Chg.refl _ _⟩
  · have hS : Say w g off l.length (l.map fun n : Nat => (n : Int)).toArray := by
      refine ⟨fun j hj => ?_, hb.lt, by simp, hn⟩
      have hj' : j < l.length := by simpa using hj
      refine ⟨?_, by rw [hb.free]⟩
      rw [hb.cell, h4 j (.int .u32 (l[j] : Int)) (by simp [uv, hj'])]
      simp [hj']
    refine (sort_cells g off c l.length _ w hS).mono ?_
    rintro e w' ⟨rfl, R, ⟨m, os, rfl⟩, hP, hSo⟩
    have hsz : R.size = l.length := by rw [hP.1]; simp
    have hp : R.toList.Perm (l.map fun n : Nat => (n : Int)) := by
      have := hP.2.2
      rw [show l.length = R.size from hsz.symm, extract_all] at this
      rw [show R.size = (l.map fun n : Nat => (n : Int)).toArray.size by simp [hsz], extract_all] at this
      simpa using this
    obtain ⟨s, hs, hsp⟩ := perm_nats hp
    have hsl : s.length = l.length := hsp.length_eq
    have hR : R = (s.map fun n : Nat => (n : Int)).toArray := by rw [← hs]
    have hg : g < w.heap.size := hb.lt
    refine ⟨rfl, s, hsp, ?_, ⟨by simp [uv, hsl], .inr ⟨g, off, Go.Sort.putCells eu off R cur, rfl, ?_, h1, h2, by simpa [Go.Sort.putCells] using h3, fun j u hu => ?_⟩⟩, ⟨rfl, rfl, rfl, by simp, fun k hk hf => ?_⟩⟩
    · rw [List.pairwise_iff_getElem]
      intro i j hi hj hij
      have := hSo i j (Nat.zero_le _) hij (by omega)
      rw [hR] at this
      simp [Go.Sort.ltInt, hi, hj] at this
      omega
    · unfold Bk at hb ⊢
      simp only [Go.Sort.grow, Go.Sort.putRow, Go.Sort.mapBlock, Go.Sort.ahead]
      rw [Array.getElem?_append_left (by simpa using hg), Array.getElem?_modify, hb]
      simp [Go.Sort.onCells]
    · have hj : j < s.length := by
        have := (List.getElem?_eq_some_iff.1 hu).1
        simpa [uv] using this
      have e1 : u = .int .u32 (s[j] : Int) := by
        unfold uv at hu
        rw [List.getElem?_map, List.getElem?_eq_getElem hj] at hu
        exact (Option.some.inj hu).symm
      have hcur : off + j < cur.size := by omega
      subst e1
      rw [hR]
      simp only [Go.Sort.putCells, Array.getElem?_mapIdx]
      rw [Array.getElem?_eq_getElem hcur]
      simp [hj]
    · simp only [Go.Sort.grow, Go.Sort.putRow, Go.Sort.mapBlock, Go.Sort.ahead]
      rw [Array.getElem?_append_left (by simpa using hk), Array.getElem?_modify]
      rw [sf_some] at hf
      simp [hf]
end Go.Proofs.Ytafepficapdepaa.nums
