/- What confluenceref15.Ends, Of and Size return. Conditions as each lemma states. -/
import Derived.Test.YtpabblkppbfbjaaDoorRefAdd
import Derived.Test.YtpabblkppbfbjaaDoorPfxRef0
import Derived.Test.YtpabblkppbfbjaaDoorCount
import Derived.Test.YtpabblkppbfbjaaDoorNlriSort
namespace Go.Proofs.YtpabblkppbfbjaaDoor.wlk
open Go.RowKit Go.Proofs.YtpabblkppbfbjaaDoor.kit Go.Proofs.YtpabblkppbfbjaaDoor.pfx Go.Proofs.YtpabblkppbfbjaaDoor.mem Go.Proofs.YtpabblkppbfbjaaDoor.foot Go.Proofs.YtpabblkppbfbjaaDoor.srt
set_option linter.unusedVariables false
set_option linter.unusedSimpArgs false

/-- a prefix's first and last address -/
def endsP (p : Pf) : Prt := (p.1, p.1 + 2 ^ (32 - p.2.toNat) - 1)
/-- the parts of the good ones -/
def ofL (l : List Pf) : List Prt := (l.filter gdP).map endsP
theorem endsP_ok {p : Pf} (h : gdP p = true) : PartOk (endsP p) := by
  obtain ⟨h1, h2⟩ := (gdP_iff p).1 h
  obtain ⟨h3, h4, h5⟩ := (goodB_iff _ _).1 h2
  have h0 := Nat.pow_pos (n := 32 - p.2.toNat) (show 0 < 2 by decide)
  have hp : 2 ^ p.2.toNat * 2 ^ (32 - p.2.toNat) = 4294967296 := by rw [← Nat.pow_add, show p.2.toNat + (32 - p.2.toNat) = 32 by omega]
  obtain ⟨q, hq⟩ := Nat.dvd_of_mod_eq_zero h5
  have hle : p.1 + 2 ^ (32 - p.2.toNat) ≤ 4294967296 := by
    generalize 2 ^ (32 - p.2.toNat) = z at *
    generalize 2 ^ p.2.toNat = y at *
    rw [← hp, hq, Nat.mul_comm z q] at h1
    have h6 := Nat.lt_of_mul_lt_mul_right h1
    have h7 : (q + 1) * z ≤ y * z := Nat.mul_le_mul_right _ h6
    rw [Nat.add_mul, Nat.one_mul, hp, Nat.mul_comm q z, ← hq] at h7
    exact h7
  unfold PartOk endsP
  dsimp only
  omega
theorem ofL_ok (l : List Pf) : ∀ x ∈ ofL l, PartOk x := by
  intro x hx
  obtain ⟨p, hp, rfl⟩ := List.mem_map.1 hx
  exact endsP_ok (List.mem_filter.1 hp).2
theorem ofL_len (l : List Pf) : (ofL l).length ≤ l.length := by
  unfold ofL
  rw [List.length_map]
  exact List.length_filter_le _ _
theorem ofL_snoc (l : List Pf) (p : Pf) : ofL (l ++ [p]) = ofL l ++ (if gdP p = true then [endsP p] else []) := by
  unfold ofL
  rw [List.filter_append, List.map_append]
  congr 1
  by_cases h : gdP p = true
  · rw [if_pos h, List.filter_cons_of_pos h]; rfl
  · rw [if_neg h, List.filter_cons_of_neg h]; rfl
theorem addsP_app (l xs ys : List Prt) : addsP l (xs ++ ys) = addsP (addsP l xs) ys := by unfold addsP; rw [List.foldl_append]
def ofP (l : List Pf) : List Prt := addsP [] (ofL l)
theorem ofP_len (l : List Pf) : (ofP l).length ≤ l.length := by
  have := addsP_len (ofL l) []
  have h2 := ofL_len l
  unfold ofP
  simp only [List.length_nil] at this
  omega
theorem ofP_ok (l : List Pf) : Parts (ofP l) ∧ ∀ n, InP (ofP l) n ↔ InP (ofL l) n := by
  obtain ⟨h1, h2⟩ := addsP_ok (ofL l) [] Parts.nil (ofL_ok l)
  refine ⟨h1, fun n => (h2 n).trans ⟨?_, .inr⟩⟩
  rintro (h | h)
  · exact absurd h (InP.nil n)
  · exact h

theorem info_prt2 : (Tryd.prog.info? 28).map (·.size) = some 2 := by kernel_rfl

set_option maxRecDepth 100000 in
set_option maxHeartbeats 1000000 in
theorem refEnds_any (p : Pf) (hg : gdP p = true) (w : World) :
    Calls Tryd.prog 6 #[.agg #[.int .u32 (p.1 : Int), .int .i64 p.2]] w fun e w' => e = .returned (.agg #[.int .i64 ((endsP p).1 : Int), .int .i64 ((endsP p).2 : Int)]) ∧ Below w.heap.size w w' := by
  have HOk := Lib.hid (endsP_ok hg)
  obtain ⟨h1, h2⟩ := (gdP_iff p).1 hg
  obtain ⟨h3, h4, h5⟩ := (goodB_iff _ _).1 h2
  obtain ⟨a, m⟩ := p
  obtain ⟨n, rfl⟩ := Int.eq_ofNat_of_zero_le h3
  dsimp only at *
  have hn : n ≤ 32 := by omega
  unfold endsP at *
  simp only [Int.toNat_natCast] at *
  clear h2 h3 h4 h5 hg
  obtain ⟨w1, hw1⟩ : ∃ w1, w1 = (w.alloc (.cells #[.int .u32 (a : Int), .int .i64 (n : Int)] 24)).alloc (.cells #[.int .i64 0, .int .i64 0] 28) := ⟨_, rfl⟩
  have HB : Hid (Below w.heap.size w w1) := by rw [hw1]; exact ((Below.refl _ _).alloc (Nat.le_refl _) _).alloc (by simp) _
  have HK : Hid (Bk w1 (w.heap.size + 1) 28 #[.int .i64 0, .int .i64 0]) := by
    rw [hw1]
    have := Bk.new (w.alloc (.cells #[.int .u32 (a : Int), .int .i64 (n : Int)] 24)) 28 #[.int .i64 0, .int .i64 0]
    rwa [World.size_alloc] at this
  have HK0 : Hid (Bk w1 w.heap.size 24 #[.int .u32 (a : Int), .int .i64 (n : Int)]) := by
    rw [hw1]
    exact (Bk.new w _ _).alloc _
  go_enter Tryd.func6, Tryd.ntmps6
  go_upto_region 1 with fail
  rw [← hw1]
  clear hw1
  have k0 := HK0.out.cell 0
  have k1 := HK0.out.cell 1
  simp at k0 k1
  have r := fun i => HK.out.cell i
  have rl := HK.out.lt
  have rf := fun i => HK.out.free i
  go_wp2_with fail
  go_loopw [3, 4] (fun v3 v4 wr => ∃ (i P : Nat), n ≤ i ∧ i ≤ 32 ∧ v4 = .int .i64 (i : Int) ∧ v3 = .int .i64 (P : Int) ∧ P = 2 ^ (i - n) ∧ P ≤ 4294967296 ∧ wr = w1) (fun _ v4 _ => 32 - (intOf v4).toNat)
  case atStart => exact ⟨n, 1, Nat.le_refl _, hn, rfl, rfl, by simp, by omega, rfl⟩
  case round =>
    obtain ⟨i, P, hni, hi, rfl, rfl, hP, hPl, rfl⟩ := hrel
    have HP := Lib.hid hP
    clear hP
    by_cases hlt : i < 32
    · have hPl2 : 2 * P ≤ 4294967296 := by
        have h : 2 * P = 2 ^ (i + 1 - n) := by rw [HP.out, show i + 1 - n = i - n + 1 by omega, Nat.pow_succ, Nat.mul_comm]
        rw [h]
        exact Nat.le_trans (Nat.pow_le_pow_right (by omega) (show i + 1 - n ≤ 32 by omega)) (by decide)
      go_wp2_with fail
      go_roundw
      case rel => exact ⟨i + 1, 2 * P, by omega, by omega, by go_num, by go_num, by rw [HP.out, show i + 1 - n = i - n + 1 by omega, Nat.pow_succ, Nat.mul_comm], hPl2, trivial⟩
      case measure => simp [intOf]; omega
    · obtain rfl : i = 32 := by omega
      have HPo : Hid (a + P ≤ 4294967296 ∧ 1 ≤ P) := by
        have h := HOk.out
        have h0 := Nat.pow_pos (n := 32 - n) (show 0 < 2 by decide)
        unfold PartOk at h
        dsimp only at h
        rw [Hid, HP.out]
        omega
      have hp1 : a + P ≤ 4294967296 := HPo.out.1
      have hp2 : 1 ≤ P := HPo.out.2
      go_wp2_with fail
      have hz : (a : Int) + (P : Int) - 1 = ((a + 2 ^ (32 - n) - 1 : Nat) : Int) := by rw [← HP.out]; omega
      rw [hz]
      have c1 := stores_all [.int .i64 (a : Int), .int .i64 ((a + 2 ^ (32 - n) - 1 : Nat) : Int)] HK.out rfl
      simp only [stores, Nat.zero_add] at c1
      refine bodyPost_ret (results_cell_row rfl _ _ (w.heap.size + 1) 28 _ (0, 0) _ rfl c1 Tryd.underlying28 rfl info_prt2) rfl ⟨rfl, ?_⟩
      exact (HB.out.setCell (p := ⟨w.heap.size + 1, 0, none⟩) (by show w.heap.size ≤ w.heap.size + 1; omega) _).setCell (p := ⟨w.heap.size + 1, 1, none⟩) (by show w.heap.size ≤ w.heap.size + 1; omega) _

theorem fv_twoO {w : World} {G : Foot} {b off n : Nat} {l : List Pf} (h : Rg w G 2 (some ⟨b, off, none⟩) n (fv l)) {i : Nat} {p : Pf} (hp : l[i]? = some p) (hn : 0 < n) :
    w.cell? ⟨b, off + i * 2, none⟩ = some (.int .u32 (p.1 : Int)) ∧ w.cell? ⟨b, off + i * 2 + 1, none⟩ = some (.int .i64 p.2) ∧ b < w.heap.size := by
  obtain ⟨b', off', e, _, hl, hc⟩ := h.2 hn
  cases e
  have hq := fv_at l i p hp
  exact ⟨hc _ _ hq.1, by rw [Nat.add_assoc]; exact hc _ _ hq.2, hl⟩

end Go.Proofs.YtpabblkppbfbjaaDoor.wlk
