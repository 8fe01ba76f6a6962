/- What bytes.Repeat returns of one byte, sixteen times; bytes.Equal. No condition beyond those that each lemma states. -/
import Derived.Test.YthoclemgiopjpaaOwn
import Derived.Test.YthoclemgiopjpaaFoot
import Derived.Test.YthoclemgiopjpaaStr
import Derived.Lib.MakeNoZero
import Derived.Laws.CopyOwn
import Derived.Deep.RegionLaw
namespace Go.Proofs.Ythoclemgiopjpaa.frame
open Go.RowKit Go.Proofs.Ythoclemgiopjpaa.kit Go.Proofs.Ythoclemgiopjpaa.mem Go.Proofs.Ythoclemgiopjpaa.foot Go.Proofs.Ythoclemgiopjpaa.octet
set_option linter.unusedVariables false

theorem Mul64_16 (w : World) : Calls Try.prog 58 #[.int .u64 1, .int .u64 16] w fun e w' => e = .returned (.tuple #[.int .u64 0, .int .u64 16]) ∧ w = w' := by
  have b0 : bits .and .u64 0 4294967295 = 0 := by kernel_rfl
  have b1 : bits .and .u64 1 4294967295 = 1 := by kernel_rfl
  have b2 : bits .and .u64 16 4294967295 = 16 := by kernel_rfl
  go_enter Try.func58, Try.ntmps58
  go_wp2_with fail
  go_ret2
  exact ⟨by simp, rfl⟩
theorem Mul_16 (w : World) : Calls Try.prog 50 #[.int .u64 1, .int .u64 16] w fun e w' => e = .returned (.tuple #[.int .u64 0, .int .u64 16]) ∧ w = w' := by
  go_enter Try.func50, Try.ntmps50
  go_wp2_with (go_at_call 58; refine (Mul64_16 _).mono ?_; rintro e w' ⟨rfl, rfl⟩)
  go_ret2
  exact ⟨by simp, rfl⟩

/-- the first k bytes of the new row are there -/
def Rp (w : World) (k : Nat) (wr : World) : Prop := ∃ cl : List Value, wr.heap[w.heap.size + 1]? = some (.cells cl.toArray 5 (0, 0)) ∧ 16 ≤ cl.length ∧ (∀ i, i < k → cl[i]? = some (.int .u8 255)) ∧ Below w.heap.size w wr
theorem Rp.mk {w w2 : World} {cl : List Value} {k m : Nat} (hl : 16 ≤ cl.length) (hk : ∀ i, i < k → cl[i]? = some (.int .u8 255)) (hkm : k + m ≤ 16) (hg : w2.heap[w.heap.size + 1]? = some (.cells (splice cl k (List.replicate m (.int .u8 255))).toArray 5 (0, 0))) (hb : Below w.heap.size w w2) : Rp w (k + m) w2 := by
  refine ⟨_, hg, by rw [length_splice _ _ _ (by simp; omega)]; exact hl, fun i hi => ?_, hb⟩
  unfold splice
  by_cases h : i < k
  · rw [List.getElem?_append_left (by simp; omega), List.getElem?_take_of_lt h]
    exact hk i h
  · rw [List.getElem?_append_right (by simp; omega), List.length_take, Nat.min_eq_left (by omega), List.getElem?_append_left (by simp; omega), List.getElem?_replicate, if_pos (by omega)]
theorem Rp.own {w wr : World} (h : Rp w 16 wr) : Own wr 5 1 (some ⟨w.heap.size + 1, 0, none⟩) 16 16 (bv (List.replicate 16 255)) := by
  obtain ⟨cl, hg, hl, hk, _⟩ := h
  refine ⟨by simp [bv], .inr ⟨w.heap.size + 1, 0, cl.toArray, rfl, hg, Nat.le_refl _, by unfold maxLen; omega, by simpa using hl, fun j u hu => ?_⟩⟩
  have hj : j < 16 := by
    rcases Nat.lt_or_ge j 16 with h | h
    · exact h
    · rw [List.getElem?_eq_none (by simpa [bv] using h)] at hu; cases hu
  rw [bv, List.map_replicate, List.getElem?_replicate, if_pos hj] at hu
  rw [Nat.zero_add, List.getElem?_toArray, hk j hj, ← hu]
  rfl

set_option maxRecDepth 100000 in
set_option maxHeartbeats 2000000 in
theorem Repeat_16 (w : World) : Calls Try.prog 48 #[.slice (some ⟨w.heap.size, 0, none⟩) 1 1, .int .i64 16] (w.alloc (.cells #[.int .u8 255] 5)) fun e w' => ∃ A, e = .returned (.slice A 16 16) ∧ Own w' 5 1 A 16 16 (bv (List.replicate 16 255)) ∧ (∀ k, sf A k → w.heap.size ≤ k) ∧ Below w.heap.size w w' := by
  obtain ⟨cs, hrun, hle, hmax⟩ := Lib.run_makeNoZero (P := Try.prog) (w.alloc (.cells #[.int .u8 255] 5)) #[3] 23 5 Try.underlying23 16 (by omega)
  have hcall : (callFunc 51 #[.int .i64 16]).run Try.prog (w.alloc (.cells #[.int .u8 255] 5)) = .ok (.value (.slice (some ⟨w.heap.size + 1, 0, none⟩) 16 cs.size)) (((w.alloc (.cells #[.int .u8 255] 5)).alloc (.cells cs 5)).drewN 2) := by
    rw [run_callFunc_extern Try.func51 (by kernel_rfl) (by kernel_rfl) (by kernel_rfl) (e := Extern.BytealgMakeNoZero.makeNoZero #[3] #[23]) (by kernel_rfl)]
    have h0 : (w.alloc (.cells #[.int .u8 255] 5)).heap.size = w.heap.size + 1 := by simp
    rw [h0] at hrun
    rw [show (16 : Int) = ((16 : Nat) : Int) from rfl, hrun]
    rfl
  have HG : Hid ((((w.alloc (.cells #[.int .u8 255] 5)).alloc (.cells cs 5)).drewN 2).heap[w.heap.size + 1]? = some (.cells cs.toList.toArray 5 (0, 0))) := by
    have h := heap_alloc_new (w.alloc (.cells #[.int .u8 255] 5)) (.cells cs 5)
    simp only [World.size_alloc] at h
    rw [Array.toArray_toList]
    exact h
  have HS : Hid (∀ j v, ([.int .u8 255] : List Value)[j]? = some v → (((w.alloc (.cells #[.int .u8 255] 5)).alloc (.cells cs 5)).drewN 2).cell? ((⟨w.heap.size, 0, none⟩ : Addr).add j) = some v) := fun j v hv => by
    obtain ⟨b, off, e, _, _, hc⟩ := ((Rg.new w 5 1 1 #[.int .u8 255] rfl).bel (((Below.refl _ _).alloc (Nat.le_refl _) (.cells cs 5)))).2 (by omega)
    cases e
    rw [Addr.add_lit]
    exact hc j v hv
  have HB : Hid (Below w.heap.size w (((w.alloc (.cells #[.int .u8 255] 5)).alloc (.cells cs 5)).drewN 2)) := below_drewN (((Below.refl _ _).alloc (Nat.le_refl _) _).alloc (by simp) _) 2
  have hsz : (Try.prog.info? 5).map (·.size) = some 1 := by kernel_rfl
  have Hsz := Lib.hid hsz
  have hcsl : cs.toList.length = cs.size := by simp
  have hcl : 16 ≤ cs.toList.length := by omega
  clear hrun hsz hcsl
  generalize cs.toList = cl at *
  go_enter Try.func48, Try.ntmps48
  go_wp2_with (first
    | (go_at_call 50; refine (Mul_16 _).mono ?_; rintro e w' ⟨rfl, rfl⟩)
    | (with_reducible refine wpList_copy_splice rfl (.tmp 58) (.tmp 59) 23 23 rfl 5 Try.underlying23 Hsz.out (some ⟨w.heap.size + 1, 0, none⟩) (some ⟨w.heap.size, 0, none⟩) 16 16 1 1 rfl rfl (w.heap.size + 1) 0 cl 5 HG.out [.int .u8 255] rfl (fun _ => ⟨rfl, _, rfl, HS.out⟩) (by simp; omega) (by simp [Value.oneCell']) w.heap.size w HB.out (by omega) ?_; intro w1 hg1 hb1; have HB1 := Lib.hid hb1; clear hb1))
  have HP : Hid (Rp w 1 w1) := by
    have h := Rp.mk (w := w) (w2 := w1) (cl := cl) (k := 0) (m := 1) hcl (by intro i hi; omega) (by omega) (by exact hg1.out) HB1.out
    exact h
  clear hg1 HB1 HG HS HB hcl
  go_loopw [10] (fun v wr => ∃ k : Nat, 1 ≤ k ∧ k ≤ 16 ∧ v = .int .i64 k ∧ Rp w k wr) (fun v _ => 16 - (intOf v).toNat)
  case atStart => exact ⟨1, by omega, by omega, rfl, HP.out⟩
  case round =>
    obtain ⟨k, hk1, hk16, rfl, hP⟩ := hrel
    clear HP
    by_cases hlt : k < 16
    · obtain ⟨cl, hg, hl, hk, hb⟩ := hP
      obtain ⟨m, hm, hm1, hm0, hmk⟩ : ∃ m, m = Nat.min k (16 - k) ∧ k + m ≤ 16 ∧ 0 < m ∧ m ≤ k := by
        refine ⟨_, rfl, ?_⟩
        rw [show Nat.min k (16 - k) = min k (16 - k) from rfl]
        omega
      have HM := Lib.hid hm
      have hmin : min (k : Int) 16 = k := by omega
      have HG := Lib.hid (show wr.drew.heap[w.heap.size + 1]? = some (.cells cl.toArray 5 (0, 0)) from hg)
      have HB := Lib.hid hb.drew
      have HS : Hid (∀ w' : World, w'.heap[w.heap.size + 1]? = some (.cells cl.toArray 5 (0, 0)) → ∀ j v, (List.replicate m (Value.int .u8 255))[j]? = some v → w'.cell? ((⟨w.heap.size + 1, 0, none⟩ : Addr).add j) = some v) := fun w' hg j v hv => by
        have hj : j < m := by
          rcases Nat.lt_or_ge j m with h | h
          · exact h
          · rw [List.getElem?_eq_none (by simpa using h)] at hv; cases hv
        rw [Addr.add_lit, Nat.zero_add, cell_of_row w' _ _ _ _ _ hg]
        rw [List.getElem?_toArray, hk j (by omega), ← hv]
        simp [hj]
      have HK := Lib.hid (fun (w2 : World) => Rp.mk (w := w) (w2 := w2) hl hk hm1)
      have e1 : ∀ w', (Instr.slice 23 (.slice (some ⟨w.heap.size + 1, 0, none⟩) 16 16) (some (.int .i64 k)) none none).run Try.prog w' = .ok (.slice (some ⟨w.heap.size + 1, k, none⟩) (16 - k) (16 - k)) w' := fun w' => by
        have h1 : (k : Int) ≤ 16 := by omega
        have h2 : ¬ 16 = k := by omega
        have h3 : (⟨w.heap.size + 1, 0, none⟩ : Addr).add k = ⟨w.heap.size + 1, k, none⟩ := by rw [Addr.add_lit, Nat.zero_add]
        rw [← h3]
        clear HM HG HB HS HK hmin hm hg hb hm0 hm1 h3
        go_simp
      have e2 : ∀ w', (Instr.slice 23 (.slice (some ⟨w.heap.size + 1, 0, none⟩) 16 16) none (some (.int .i64 k)) none).run Try.prog w' = .ok (.slice (some ⟨w.heap.size + 1, 0, none⟩) k 16) w' := fun w' => by
        have h1 : (k : Int) ≤ 16 := by omega
        clear HM HG HB HS HK hmin hm hg hb hm0 hm1
        go_simp
      have HL : Hid (k + (List.replicate m (Value.int .u8 255)).length ≤ cl.length) := by rw [Hid]; simp; omega
      have HN : Hid ((List.replicate m (Value.int .u8 255)).length = Nat.min k (16 - k)) := by rw [Hid, ← hm]; simp
      have HO : Hid (∀ v ∈ List.replicate m (Value.int .u8 255), v.oneCell' = true) := fun v hv => by rw [(List.mem_replicate.1 hv).2]; rfl
      have hlen : (List.replicate m (Value.int .u8 255)).length = m := by simp
      have HLen := Lib.hid hlen
      clear hg hb hk hl hm hlen
      go_wp2_with fail
      go_region_law (refine step_copy_splice (by rfl) (.tmp 70) (.tmp 73) 23 23 (by rfl) 5 Try.underlying23 Hsz.out (some ⟨w.heap.size + 1, k, none⟩) (some ⟨w.heap.size + 1, 0, none⟩) (16 - k) (16 - k) k 16 (by simp only [Act.put, List.getElem_toArray, List.getElem_cons_succ, List.getElem_cons_zero, List.setIfInBounds_toArray, List.set_cons_zero, List.set_cons_succ]; rfl) (by simp only [Act.put, List.getElem_toArray, List.getElem_cons_succ, List.getElem_cons_zero, List.setIfInBounds_toArray, List.set_cons_zero, List.set_cons_succ]; rfl) (w.heap.size + 1) k cl 5 HG.out (List.replicate m (.int .u8 255)) HN.out (fun _ => ⟨rfl, _, rfl, HS.out _ HG.out⟩) HL.out HO.out w.heap.size w HB.out (by omega) ?_; intro w2 hg2 hb2; go_must (have HR := Lib.hid (HK.out w2 (by exact hg2.out) hb2)); clear hg2 hb2; rw [HLen.out]; simp only [goInt])
      all_goals
        simp only [Act.put, List.getElem_toArray, List.getElem_cons_succ, List.getElem_cons_zero, List.setIfInBounds_toArray, List.set_cons_zero, List.set_cons_succ]
        go_wp2_with fail
        have hw : IntKind.i64.wrap ((k : Int) + (m : Int)) = ((k + m : Nat) : Int) := by rw [IntKind.wrap_i64]; omega
        rw [hw]
        exact ⟨⟨k + m, by omega, by omega, rfl, HR.out⟩, by simp [intOf]; omega⟩
    · obtain rfl : k = 16 := by omega
      have HO := Lib.hid hP.own
      obtain ⟨_, _, _, _, hb⟩ := hP
      have HB := Lib.hid hb
      clear hb
      go_wp2_with fail
      go_ret
      exact ⟨_, rfl, HO.out, fun k hk => by rw [sf_some] at hk; have h : w.heap.size + 1 = k := hk; omega, HB.out⟩

theorem Equal_any (A B : Option Addr) (c d : Nat) (x y : List UInt8) (G H : Foot) (w : World) (hx : Rg w G 1 A x.length (bv x)) (hy : Rg w H 1 B y.length (bv y)) :
    Calls Try.prog 61 #[.slice A x.length c, .slice B y.length d] w fun e w' => e = .returned (.bool (decide (x = y))) ∧ w = w' := by
  have h1 := run_str (c := c) hx.rd
  have h2 := run_str (c := d) hy.rd
  clear hx hy
  go_enter Try.func61, Try.ntmps61
  go_wp2_with fail
  go_ret
  exact ⟨by simp; rw [Bool.eq_iff_iff]; simp, rfl⟩
end Go.Proofs.Ythoclemgiopjpaa.frame
