/- What confluenceref05.Add returns at a key that stands. -/
import Derived.Test.YtafepficapdepaaTallyRefMiss
namespace Go.Proofs.Ytafepficapdepaa.tally
open Go.RowKit Go.Proofs.Ytafepficapdepaa.kit Go.Proofs.Ytafepficapdepaa.mem Go.Proofs.Ytafepficapdepaa.foot Go.Proofs.Ytafepficapdepaa.maps
set_option linter.unusedVariables false
set_option linter.unusedSimpArgs false
/-- two cells of a gathered row written -/
theorem acc_put2 {w w3 : World} {e : TypeId} {g off c n j : Nat} {xs : List Value} (h : Acc w e 3 w3 (some ⟨g, off, none⟩) n c xs) (hj : j < n) (a b : Value) :
    Acc w e 3 ((w3.setCell ⟨g, off + j * 3 + 1, none⟩ a).setCell ⟨g, off + j * 3 + 2, none⟩ b) (some ⟨g, off, none⟩) n c ((xs.set (j * 3 + 1) a).set (j * 3 + 2) b) := by
  have h1 := h.own.put (j * 3 + 1) (by omega) a
  have h2 := h1.put (j * 3 + 2) (by omega) b
  rw [← Nat.add_assoc, ← Nat.add_assoc] at h2
  exact ⟨h2, (h.bel.setCell (h.low g (by rw [sf_some])) _).setCell (h.low g (by rw [sf_some])) _, h.low⟩

set_option maxRecDepth 100000 in
set_option maxHeartbeats 2000000 in
theorem refAdd_hit (B : Nat) (R : KC) (A : Option Addr) (c : Nat) (k u v : Int) (i : Nat) (w : World) (hl : R.length < 10000) (hR : Rising R) (hx : rIdx R k = some i) (hil : i < R.length)
    (hu : -549755813888 ≤ R[i].2.1 + u ∧ R[i].2.1 + u ≤ 549755813888) (hv : -549755813888 ≤ R[i].2.2 + v ∧ R[i].2.2 + v ≤ 549755813888) (hr : Row3 B w 3 A R.length c (kv3 R)) (hB : B ≤ w.heap.size) :
    Calls Try.prog 23 #[.slice A R.length c, .int .u32 k, .int .i64 u, .int .i64 v] w (AddRef B w (R.set i (R[i].1, R[i].2.1 + u, R[i].2.2 + v))) := by
  have HAt := Lib.hid (refAt_any B R A c k w (by omega) hr)
  have hz : rAt R k = i := by unfold rAt; rw [hx]
  rw [hz] at HAt
  obtain ⟨i0, hi0, hz0, hz1, hz2⟩ := info_parts info_row
  have Hi := Lib.hid hi0
  have Hz0 := Lib.hid hz0
  have Hz1 := Lib.hid hz1
  have Hz2 := Lib.hid hz2
  have HR := Lib.hid hr
  have HE : Hid (∀ w' A' c', Acc w 58 3 w' A' R.length c' (((kv3 R).set (i * 3 + 1) (.int .i64 (R[i].2.1 + u))).set (i * 3 + 2) (.int .i64 (R[i].2.2 + v))) → AddRef B w (R.set i (R[i].1, R[i].2.1 + u, R[i].2.2 + v)) (.returned (.tuple #[.slice A' R.length c', .int .i64 0])) w') := fun w' A' c' h => by
    rw [kv3_set R i hil] at h
    exact ⟨A', c', by rw [List.length_set], by rw [List.length_set]; exact h.row hB, h.bel⟩
  have e1 : decide (549755813888 < R[i].2.1 + u) = false := by simp; omega
  have e2 : decide (549755813888 < R[i].2.2 + v) = false := by simp; omega
  have w1' : IntKind.i64.wrap (R[i].2.1 + u) = R[i].2.1 + u := IntWalk.i64_in _ (by omega)
  have w2' : IntKind.i64.wrap (R[i].2.2 + v) = R[i].2.2 + v := IntWalk.i64_in _ (by omega)
  have hat := kv3_at R i hil
  have HK := Lib.hid hat
  have hi1 : (i : Int) < R.length := by omega
  obtain ⟨b, off, hA, hb, _, d1, d2⟩ := row_cell HR.out hil
  subst hA
  clear hr hx hz hi0 hz0 hz1 hz2 hR hu hv hat
  generalize AddRef B w (R.set i (R[i].1, R[i].2.1 + u, R[i].2.2 + v)) = Q at *
  generalize R[i].2.1 = x1 at *
  generalize R[i].2.2 = x2 at *
  generalize R[i].1 = x0 at *
  go_enter Try.func23, Try.ntmps23
  go_wp2_with fail
  refine HAt.out.mono ?_; rintro e w1 ⟨rfl, hb1⟩
  have HB1 := Lib.hid hb1
  have c1 := (hb1.cell (p := ⟨b, off + i * 3 + 1, none⟩) hb).trans d1
  have c2 := (hb1.cell (p := ⟨b, off + i * 3 + 2, none⟩) hb).trans d2
  have HA0 : Hid (Acc w 58 3 (w1.alloc (.cells #[] 58)) (some ⟨w1.heap.size, 0, none⟩) 0 0 []) := Acc.start (HB1.out.alloc HB1.out.size _) (Bk.new w1 _ _) HB1.out.size
  clear hb1 d1 d2
  go_wp2_with (at_builtin; refine wpList_app _ rfl (.tmp 79) (.tmp 80) _ rfl 58 i0 _ 3 24 Try.underlying52 Hi.out Hz0.out Hz1.out Hz2.out rfl (by omega) (some ⟨w1.heap.size, 0, none⟩) 0 0 [] rfl HA0.out.own _ (some ⟨b, off, none⟩) R.length c HR.out.nil (kv3 R) rfl (HA0.out.rg HR.out.rg) (kv3_one R) (by unfold maxLen; omega) (by omega) ?_; intro A3 c3 w3 ho3 hc3 hf3; have HA3 := Lib.hid (HA0.out.app ho3 hc3 hf3); obtain ⟨g3, off3, rfl⟩ := ho3.form (by omega); obtain ⟨s1, sf3, sl3⟩ := HA3.out.own.at_ (i * 3 + 1) HK.out.2.1; obtain ⟨s2, _, _⟩ := HA3.out.own.at_ (i * 3 + 2) HK.out.2.2; rw [← Nat.add_assoc] at s1 s2; clear ho3 hc3 hf3)
  have s2' : (w3.setCell ⟨g3, off3 + i * 3 + 1, none⟩ (.int .i64 (x1 + u))).cell? ⟨g3, off3 + i * 3 + 2, none⟩ = some (.int .i64 x2) := by
    rw [World.cell?_setCell_other _ _ _ _ (by intro e; injection e; omega)]; exact s2
  have HA4 : Hid (Acc w 58 3 (((w3.setCell ⟨g3, off3 + i * 3 + 1, none⟩ (.int .i64 (x1 + u))).setCell ⟨g3, off3 + i * 3 + 2, none⟩ (.int .i64 (x2 + v))).drew) (some ⟨g3, off3, none⟩) R.length c3 (((kv3 R).set (i * 3 + 1) (.int .i64 (x1 + u))).set (i * 3 + 2) (.int .i64 (x2 + v)))) := by
    have h := acc_put2 HA3.out (j := i) (by omega) (.int .i64 (x1 + u)) (.int .i64 (x2 + v))
    rw [Nat.zero_add, List.nil_append] at h
    exact h.go ⟨rfl, rfl, rfl, Nat.le_refl _, fun _ _ => rfl⟩
  go_region
  go_wp2_with fail
  exact HE.out _ _ _ HA4.out
/-- what confluenceref05.Add returns -/
theorem refAdd_any (B : Nat) (R : KC) (A : Option Addr) (c : Nat) (k u v m : Int) (w : World) (hl : R.length < 10000) (hR : Rising R) (hm : Upto R m) (h0 : 0 ≤ m) (hu : 0 ≤ u ∧ u ≤ 1073741824) (hv : 0 ≤ v ∧ v ≤ 1073741824) (ht : m ≤ 548682072064) (hr : Row3 B w 3 A R.length c (kv3 R)) (hB : B ≤ w.heap.size) :
    Calls Try.prog 23 #[.slice A R.length c, .int .u32 k, .int .i64 u, .int .i64 v] w (AddRef B w (rSet R k ((rVal R k).1 + u, (rVal R k).2 + v))) := by
  rcases hx : rIdx R k with _ | i
  · rw [rVal_none hx]
    have := refAdd_miss B R A c k u v w (by omega) (by omega) hl hR hx hr hB
    simpa using this
  · obtain ⟨hil, hk, _⟩ := rIdx_lt hx
    have hb := hm _ (List.getElem_mem hil)
    have := refAdd_hit B R A c k u v i w hl hR hx hil (by omega) (by omega) hr hB
    rw [rVal_idx hx hil, rSet_hit hR hx]
    rw [hk] at this
    exact this
end Go.Proofs.Ytafepficapdepaa.tally
