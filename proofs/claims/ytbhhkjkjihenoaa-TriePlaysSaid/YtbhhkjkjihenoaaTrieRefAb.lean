/- What confluenceref14.Above and Below return. Condition: good keys, at most a hundred thousand rows. Printed by gen_refab.py. -/
import Derived.Test.YtbhhkjkjihenoaaTrieRefLaws
namespace Go.Proofs.Ytbhhkjkjihenoaa.tri
open T
open Go.RowKit Go.Proofs.Ytbhhkjkjihenoaa.kit Go.Proofs.Ytbhhkjkjihenoaa.mem Go.Proofs.Ytbhhkjkjihenoaa.foot Go.Proofs.Ytbhhkjkjihenoaa.pfx
set_option linter.unusedVariables false
set_option linter.unusedSimpArgs false

set_option maxRecDepth 100000 in
set_option maxHeartbeats 2000000 in
theorem refAbove_any (B : Nat) (l : Rows) (A : Option Addr) (c : Nat) (a : Nat) (n : Int) (L : List Key) (w : World) (hl : l.length ≤ 100000) (hs : Short l) (ha : a < 4294967296) (hL : L = refAboveL l a n) (hr : Row3 B w 3 A l.length c (rv l)) :
    Calls Try.prog 29 #[.slice A l.length c, .agg #[.int .u32 a, .int .i64 n]] w (RetKeys L w) := by
  have HR := Lib.hid hr
  have HS := Lib.hid hs
  have HL := Lib.hid hL
  obtain ⟨i0, hi, hz0, hz1, hz2⟩ := info_parts info_pfx
  have Hi := Lib.hid hi
  have Hz0 := Lib.hid hz0
  have Hz1 := Lib.hid hz1
  have Hz2 := Lib.hid hz2
  have HBx := Lib.hid (Bk.new w 30 #[.int .u32 (a : Int), .int .i64 n])
  have HA0 : Hid (Acc (w.alloc (.cells #[.int .u32 (a : Int), .int .i64 n] 30)) 30 2 ((w.alloc (.cells #[.int .u32 (a : Int), .int .i64 n] 30)).alloc (.cells #[] 30)) (some ⟨w.heap.size + 1, 0, none⟩) 0 0 []) :=
    Acc.start ((Below.refl _ _).alloc (Nat.le_refl _) _) (by have := Bk.new (w.alloc (.cells #[.int .u32 (a : Int), .int .i64 n] 30)) 30 #[]; simpa using this) (by simp)
  have HB0 : Hid (Below w.heap.size w (w.alloc (.cells #[.int .u32 (a : Int), .int .i64 n] 30))) := (Below.refl _ _).alloc (Nat.le_refl _) _
  obtain ⟨w0, hw0⟩ : ∃ w0, w0 = w.alloc (.cells #[.int .u32 (a : Int), .int .i64 n] 30) := ⟨_, rfl⟩
  have hws : w0.heap.size = w.heap.size + 1 := by rw [hw0]; simp
  have HWs := Lib.hid hws
  rw [← hw0] at HBx HB0
  have HW0 := Lib.hid hw0
  clear hr hs hL hi hz0 hz1 hz2 hw0 hws
  go_enter Try.func29, Try.ntmps29
  go_wp2_with fail
  rw [← HW0.out] at HA0 ⊢
  go_loopw [5, 6] (fun v5 v6 wr => ∃ (k : Nat) (A2 : Option Addr) (c2 : Nat) (xs : List Key), k ≤ l.length ∧ v6 = .int .i64 k ∧ v5 = .slice A2 xs.length c2 ∧ xs = ((l.take k).filter fun r => takeA a n r.1).map (·.1) ∧ Acc w0 30 2 wr A2 xs.length c2 (kv xs)) (fun _ v6 _ => l.length - (intOf v6).toNat)
  case atStart => exact ⟨0, _, 0, [], Nat.zero_le _, rfl, rfl, by simp, HA0.out⟩
  case round =>
    obtain ⟨k, A2, c2, xs, hk, rfl, rfl, hx, hacc⟩ := hrel
    have HX := Lib.hid hx
    have HA := Lib.hid hacc
    have hxl : xs.length ≤ k := by
      rw [hx, List.length_map]
      exact Nat.le_trans (List.length_filter_le _ _) (by simp; omega)
    have HBw : Hid (Below w.heap.size w wr) := HB0.out.trans (hacc.bel.mono HB0.out.size)
    have HP := HBx.out.below hacc.bel (by rw [HWs.out]; omega)
    clear hx hacc HA0
    by_cases hlt : k < l.length
    · obtain ⟨x0, x1, _⟩ := rv_at l k hlt
      obtain ⟨b, off, rfl, hb, _, c0⟩ := HR.out.cell hlt (by omega) x0
      obtain ⟨b', off', e', _, _, c1⟩ := HR.out.cell hlt (by omega) x1
      cases e'
      have q0 := (HBw.out.cell (p := ⟨b, off + k * 3, none⟩) hb).trans c0
      have q1 := (HBw.out.cell (p := ⟨b, off + k * 3 + 1, none⟩) hb).trans c1
      have p0 := HP.cell 0
      have p1 := HP.cell 1
      simp at p0 p1
      have lb : b < wr.drew.heap.size := Nat.lt_of_lt_of_le hb HBw.out.size
      have lp : w.heap.size < wr.drew.heap.size := HP.lt
      have hki : (k : Int) < (l.length : Int) := by omega
      have hsh := HS.out l[k] (List.getElem_mem hlt)
      have HCv := Lib.hid (fun w => ref_Covers (adr l[k].1) (l[k].1.length : Int) a n (adr_lt hsh) ha w)
      have HSt := Lib.hid (filter_step l (fun r => takeA a n r.1) (·.1) hlt)
      have htk : takeA a n l[k].1 = (diffB a n l[k].1 && coversB (adr l[k].1) l[k].1.length a n) := rfl
      have hdf : diffB a n l[k].1 = !(decide (adr l[k].1 = a) && decide ((l[k].1.length : Int) = n)) := rfl
      clear x0 x1 c0 c1 HP
      generalize coversB (adr l[k].1) l[k].1.length a n = cv at *
      by_cases hq : adr l[k].1 = a ∧ (l[k].1.length : Int) = n
      · obtain ⟨ea, en⟩ := hq
        have HX2 : Hid (xs = ((l.take (k + 1)).filter fun r => takeA a n r.1).map (·.1)) := by
          have h2 := HSt.out
          rw [Hid, h2, htk, hdf, ea, en, HX.out]; simp
        have e3 : ((adr l[k].1 : Int) == (a : Int)) = true := by rw [ea]; simp
        have e4 : ((l[k].1.length : Int) == n) = true := by rw [en]; simp
        clear ea en hdf htk HSt
        go_wp2_with fail
        refine wp_region_held_drew (S := (fun w' => w'.cell? ⟨b, off + k * 3, none⟩ = some (.int .u32 (adr l[k].1 : Int)) ∧ w'.cell? ⟨b, off + k * 3 + 1, none⟩ = some (.int .i64 (l[k].1.length : Int)) ∧ w'.cell? ⟨w.heap.size, 0, none⟩ = some (.int .u32 (a : Int)) ∧ w'.cell? ⟨w.heap.size, 1, none⟩ = some (.int .i64 n))) (by kernel_rfl) ?_ (fun hHeld => ?_)
        · exact ⟨by go_simp, by go_simp, by go_simp, by go_simp⟩
        refine wpAnyH_take (i := 0) (oi := _) (v := ?_) rfl (by kernel_rfl) (by kernel_rfl) (by kernel_rfl) (fun _ _ _ h => h) (Or.inl ⟨by rfl, ?_⟩) (by assumption) ?_
        rotate_left
        · (intro w hSw; (try dsimp only at hSw); go_simp <;> with_reducible rfl)
        try simp only [Act.put, List.getElem_toArray, List.getElem_cons_succ, List.getElem_cons_zero, List.setIfInBounds_toArray, List.set_cons_zero, List.set_cons_succ]
        refine wpAnyH_take (i := 1) (oi := _) (v := ?_) rfl (by kernel_rfl) (by kernel_rfl) (by kernel_rfl) (fun _ _ _ h => h) (Or.inl ⟨by rfl, ?_⟩) (by assumption) ?_
        rotate_left
        · (intro w hSw; (try dsimp only at hSw); go_simp <;> with_reducible rfl)
        try simp only [Act.put, List.getElem_toArray, List.getElem_cons_succ, List.getElem_cons_zero, List.setIfInBounds_toArray, List.set_cons_zero, List.set_cons_succ]
        refine wpAnyH_take (i := 2) (oi := _) (v := ?_) rfl (by kernel_rfl) (by kernel_rfl) (by kernel_rfl) (fun _ _ _ h => h) (Or.inl ⟨by rfl, ?_⟩) (by assumption) ?_
        rotate_left
        · (intro w hSw; (try dsimp only at hSw); go_simp <;> with_reducible rfl)
        try simp only [Act.put, List.getElem_toArray, List.getElem_cons_succ, List.getElem_cons_zero, List.setIfInBounds_toArray, List.set_cons_zero, List.set_cons_succ]
        refine wpAnyH_take (i := 3) (oi := _) (v := ?_) rfl (by kernel_rfl) (by kernel_rfl) (by kernel_rfl) (fun _ _ _ h => h) (Or.inl ⟨by rfl, ?_⟩) (by assumption) ?_
        rotate_left
        · (intro w hSw; (try dsimp only at hSw); go_simp <;> with_reducible rfl)
        try simp only [Act.put, List.getElem_toArray, List.getElem_cons_succ, List.getElem_cons_zero, List.setIfInBounds_toArray, List.set_cons_zero, List.set_cons_succ]
        refine wpAnyH_take (i := 4) (oi := _) (v := ?_) rfl (by kernel_rfl) (by kernel_rfl) (by kernel_rfl) (fun _ _ _ h => h) (Or.inl ⟨by rfl, ?_⟩) (by assumption) ?_
        rotate_left
        · (intro w hSw; (try dsimp only at hSw); go_simp <;> with_reducible rfl)
        try simp only [Act.put, List.getElem_toArray, List.getElem_cons_succ, List.getElem_cons_zero, List.setIfInBounds_toArray, List.set_cons_zero, List.set_cons_succ]
        refine wpAnyH_take (i := 5) (oi := _) (v := ?_) rfl (by kernel_rfl) (by kernel_rfl) (by kernel_rfl) (fun _ _ _ h => h) (Or.inl ⟨by rfl, ?_⟩) (by assumption) ?_
        rotate_left
        · (intro w hSw; (try dsimp only at hSw); go_simp <;> with_reducible rfl)
        try simp only [Act.put, List.getElem_toArray, List.getElem_cons_succ, List.getElem_cons_zero, List.setIfInBounds_toArray, List.set_cons_zero, List.set_cons_succ]
        refine wpAnyH_take (i := 6) (oi := _) (v := ?_) rfl (by kernel_rfl) (by kernel_rfl) (by kernel_rfl) (fun _ _ _ h => h) (Or.inl ⟨by rfl, ?_⟩) (by assumption) ?_
        rotate_left
        · (intro w hSw; (try dsimp only at hSw); go_simp <;> with_reducible rfl)
        try simp only [Act.put, List.getElem_toArray, List.getElem_cons_succ, List.getElem_cons_zero, List.setIfInBounds_toArray, List.set_cons_zero, List.set_cons_succ]
        refine wpAnyH_take (i := 7) (oi := _) (v := ?_) rfl (by kernel_rfl) (by kernel_rfl) (by kernel_rfl) (fun _ _ _ h => h) (Or.inl ⟨by rfl, ?_⟩) (by assumption) ?_
        rotate_left
        · (intro w hSw; (try dsimp only at hSw); go_simp <;> with_reducible rfl)
        try simp only [Act.put, List.getElem_toArray, List.getElem_cons_succ, List.getElem_cons_zero, List.setIfInBounds_toArray, List.set_cons_zero, List.set_cons_succ]
        refine wpAnyH_take (i := 8) (oi := _) (v := undef) rfl (by kernel_rfl) (by kernel_rfl) (by kernel_rfl) (fun _ _ _ h => h) (Or.inr ⟨by rfl, rfl⟩) (by assumption) ?_
        try simp only [Act.put, List.getElem_toArray, List.getElem_cons_succ, List.getElem_cons_zero, List.setIfInBounds_toArray, List.set_cons_zero, List.set_cons_succ]
        refine wpAnyH_take (i := 9) (oi := _) (v := undef) rfl (by kernel_rfl) (by kernel_rfl) (by kernel_rfl) (fun _ _ _ h => h) (Or.inr ⟨by rfl, rfl⟩) (by assumption) ?_
        try simp only [Act.put, List.getElem_toArray, List.getElem_cons_succ, List.getElem_cons_zero, List.setIfInBounds_toArray, List.set_cons_zero, List.set_cons_succ]
        refine wpAnyH_take (i := 10) (oi := _) (v := undef) rfl (by kernel_rfl) (by kernel_rfl) (by kernel_rfl) (fun _ _ _ h => h) (Or.inr ⟨by rfl, rfl⟩) (by assumption) ?_
        try simp only [Act.put, List.getElem_toArray, List.getElem_cons_succ, List.getElem_cons_zero, List.setIfInBounds_toArray, List.set_cons_zero, List.set_cons_succ]
        refine wpAnyH_take (i := 11) (oi := _) (v := undef) rfl (by kernel_rfl) (by kernel_rfl) (by kernel_rfl) (fun _ _ _ h => h) (Or.inr ⟨by rfl, rfl⟩) (by assumption) ?_
        try simp only [Act.put, List.getElem_toArray, List.getElem_cons_succ, List.getElem_cons_zero, List.setIfInBounds_toArray, List.set_cons_zero, List.set_cons_succ]
        refine wpAnyH_take (i := 12) (oi := _) (v := undef) rfl (by kernel_rfl) (by kernel_rfl) (by kernel_rfl) (fun _ _ _ h => h) (Or.inr ⟨by rfl, rfl⟩) (by assumption) ?_
        try simp only [Act.put, List.getElem_toArray, List.getElem_cons_succ, List.getElem_cons_zero, List.setIfInBounds_toArray, List.set_cons_zero, List.set_cons_succ]
        refine wpAnyH_take (i := 13) (oi := _) (v := undef) rfl (by kernel_rfl) (by kernel_rfl) (by kernel_rfl) (fun _ _ _ h => h) (Or.inr ⟨by rfl, rfl⟩) (by assumption) ?_
        try simp only [Act.put, List.getElem_toArray, List.getElem_cons_succ, List.getElem_cons_zero, List.setIfInBounds_toArray, List.set_cons_zero, List.set_cons_succ]
        refine wpAnyH_take (i := 14) (oi := _) (v := undef) rfl (by kernel_rfl) (by kernel_rfl) (by kernel_rfl) (fun _ _ _ h => h) (Or.inr ⟨by rfl, rfl⟩) (by assumption) ?_
        try simp only [Act.put, List.getElem_toArray, List.getElem_cons_succ, List.getElem_cons_zero, List.setIfInBounds_toArray, List.set_cons_zero, List.set_cons_succ]
        refine wpAnyH_take (i := 15) (oi := _) (v := ?_) rfl (by kernel_rfl) (by kernel_rfl) (by kernel_rfl) (fun _ _ _ h => h) (Or.inl ⟨by rfl, ?_⟩) (by assumption) ?_
        rotate_left
        · (intro w hSw; (try dsimp only at hSw); go_simp <;> with_reducible rfl)
        try simp only [Act.put, List.getElem_toArray, List.getElem_cons_succ, List.getElem_cons_zero, List.setIfInBounds_toArray, List.set_cons_zero, List.set_cons_succ]
        refine wpAnyH_done (by kernel_rfl) ?_ _

        go_wp2_with fail
        go_roundw
        case rel => exact ⟨k + 1, A2, c2, xs, by omega, by go_num, rfl, HX2.out, HA.out.go ((Below.refl _ _).drew)⟩
        case measure => simp [intOf]; omega
      · have hkk : ((adr l[k].1 : Int) == (a : Int)) = false ∨ (((adr l[k].1 : Int) == (a : Int)) = true ∧ ((l[k].1.length : Int) == n) = false) := by
          by_cases ea : adr l[k].1 = a
          · refine .inr ⟨by rw [ea]; simp, ?_⟩
            rw [beq_eq_false_iff_ne]; exact fun en => hq ⟨ea, en⟩
          · exact .inl (by rw [beq_eq_false_iff_ne]; omega)
        have hd2 : diffB a n l[k].1 = true := by
          rw [hdf, Bool.not_eq_true', Bool.and_eq_false_iff, decide_eq_false_iff_not, decide_eq_false_iff_not]
          exact Decidable.not_and_iff_or_not.1 hq
        rw [hd2, Bool.true_and] at htk
        clear hdf hq hd2
        obtain ⟨v, hv⟩ : ∃ v, v = l[k].1.length := ⟨_, rfl⟩
        cases cv
        case' true =>
          have HX2 : Hid (xs ++ [l[k].1] = ((l.take (k + 1)).filter fun r => takeA a n r.1).map (·.1)) := by
            have h2 := HSt.out
            rw [Hid, h2, htk, HX.out]; simp
          rcases hkk with e3 | ⟨e3, e4⟩
        case' false =>
          have HX2 : Hid (xs = ((l.take (k + 1)).filter fun r => takeA a n r.1).map (·.1)) := by
            have h2 := HSt.out
            rw [Hid, h2, htk, HX.out]; simp
          rcases hkk with e3 | ⟨e3, e4⟩
        case' true.inl => clear hv
        case' true.inr => clear hv
        case' false.inl => clear hv
        case' false.inr => clear hv
        all_goals
          clear htk HSt
          go_wp2_with fail
          refine wp_region_held_drew (S := (fun w' => w'.cell? ⟨b, off + k * 3, none⟩ = some (.int .u32 (adr l[k].1 : Int)) ∧ w'.cell? ⟨b, off + k * 3 + 1, none⟩ = some (.int .i64 (l[k].1.length : Int)) ∧ w'.cell? ⟨w.heap.size, 0, none⟩ = some (.int .u32 (a : Int)) ∧ w'.cell? ⟨w.heap.size, 1, none⟩ = some (.int .i64 n))) (by kernel_rfl) ?_ (fun hHeld => ?_)
          · exact ⟨by go_simp, by go_simp, by go_simp, by go_simp⟩
          refine wpAnyH_take (i := 0) (oi := _) (v := ?_) rfl (by kernel_rfl) (by kernel_rfl) (by kernel_rfl) (fun _ _ _ h => h) (Or.inl ⟨by rfl, ?_⟩) (by assumption) ?_
          rotate_left
          · (intro w hSw; (try dsimp only at hSw); go_simp <;> with_reducible rfl)
          try simp only [Act.put, List.getElem_toArray, List.getElem_cons_succ, List.getElem_cons_zero, List.setIfInBounds_toArray, List.set_cons_zero, List.set_cons_succ]
          refine wpAnyH_take (i := 1) (oi := _) (v := ?_) rfl (by kernel_rfl) (by kernel_rfl) (by kernel_rfl) (fun _ _ _ h => h) (Or.inl ⟨by rfl, ?_⟩) (by assumption) ?_
          rotate_left
          · (intro w hSw; (try dsimp only at hSw); go_simp <;> with_reducible rfl)
          try simp only [Act.put, List.getElem_toArray, List.getElem_cons_succ, List.getElem_cons_zero, List.setIfInBounds_toArray, List.set_cons_zero, List.set_cons_succ]
          refine wpAnyH_take (i := 2) (oi := _) (v := ?_) rfl (by kernel_rfl) (by kernel_rfl) (by kernel_rfl) (fun _ _ _ h => h) (Or.inl ⟨by rfl, ?_⟩) (by assumption) ?_
          rotate_left
          · (intro w hSw; (try dsimp only at hSw); go_simp <;> with_reducible rfl)
          try simp only [Act.put, List.getElem_toArray, List.getElem_cons_succ, List.getElem_cons_zero, List.setIfInBounds_toArray, List.set_cons_zero, List.set_cons_succ]
          refine wpAnyH_take (i := 3) (oi := _) (v := ?_) rfl (by kernel_rfl) (by kernel_rfl) (by kernel_rfl) (fun _ _ _ h => h) (Or.inl ⟨by rfl, ?_⟩) (by assumption) ?_
          rotate_left
          · (intro w hSw; (try dsimp only at hSw); go_simp <;> with_reducible rfl)
          try simp only [Act.put, List.getElem_toArray, List.getElem_cons_succ, List.getElem_cons_zero, List.setIfInBounds_toArray, List.set_cons_zero, List.set_cons_succ]
          refine wpAnyH_take (i := 4) (oi := _) (v := ?_) rfl (by kernel_rfl) (by kernel_rfl) (by kernel_rfl) (fun _ _ _ h => h) (Or.inl ⟨by rfl, ?_⟩) (by assumption) ?_
          rotate_left
          · (intro w hSw; (try dsimp only at hSw); go_simp <;> with_reducible rfl)
          try simp only [Act.put, List.getElem_toArray, List.getElem_cons_succ, List.getElem_cons_zero, List.setIfInBounds_toArray, List.set_cons_zero, List.set_cons_succ]
          refine wpAnyH_take (i := 5) (oi := _) (v := ?_) rfl (by kernel_rfl) (by kernel_rfl) (by kernel_rfl) (fun _ _ _ h => h) (Or.inl ⟨by rfl, ?_⟩) (by assumption) ?_
          rotate_left
          · (intro w hSw; (try dsimp only at hSw); go_simp <;> with_reducible rfl)
          try simp only [Act.put, List.getElem_toArray, List.getElem_cons_succ, List.getElem_cons_zero, List.setIfInBounds_toArray, List.set_cons_zero, List.set_cons_succ]
          refine wpAnyH_take (i := 6) (oi := _) (v := ?_) rfl (by kernel_rfl) (by kernel_rfl) (by kernel_rfl) (fun _ _ _ h => h) (Or.inl ⟨by rfl, ?_⟩) (by assumption) ?_
          rotate_left
          · (intro w hSw; (try dsimp only at hSw); go_simp <;> with_reducible rfl)
          try simp only [Act.put, List.getElem_toArray, List.getElem_cons_succ, List.getElem_cons_zero, List.setIfInBounds_toArray, List.set_cons_zero, List.set_cons_succ]
          refine wpAnyH_take (i := 7) (oi := _) (v := ?_) rfl (by kernel_rfl) (by kernel_rfl) (by kernel_rfl) (fun _ _ _ h => h) (Or.inl ⟨by rfl, ?_⟩) (by assumption) ?_
          rotate_left
          · (intro w hSw; (try dsimp only at hSw); go_simp <;> with_reducible rfl)
          try simp only [Act.put, List.getElem_toArray, List.getElem_cons_succ, List.getElem_cons_zero, List.setIfInBounds_toArray, List.set_cons_zero, List.set_cons_succ]
          refine wpAnyH_take (i := 8) (oi := _) (v := ?_) rfl (by kernel_rfl) (by kernel_rfl) (by kernel_rfl) (fun _ _ _ h => h) (Or.inl ⟨by rfl, ?_⟩) (by assumption) ?_
          rotate_left
          · (intro w hSw; (try dsimp only at hSw); go_simp <;> with_reducible rfl)
          try simp only [Act.put, List.getElem_toArray, List.getElem_cons_succ, List.getElem_cons_zero, List.setIfInBounds_toArray, List.set_cons_zero, List.set_cons_succ]
          refine wpAnyH_take (i := 9) (oi := _) (v := ?_) rfl (by kernel_rfl) (by kernel_rfl) (by kernel_rfl) (fun _ _ _ h => h) (Or.inl ⟨by rfl, ?_⟩) (by assumption) ?_
          rotate_left
          · (intro w hSw; (try dsimp only at hSw); go_simp <;> with_reducible rfl)
          try simp only [Act.put, List.getElem_toArray, List.getElem_cons_succ, List.getElem_cons_zero, List.setIfInBounds_toArray, List.set_cons_zero, List.set_cons_succ]
          refine wpAnyH_take (i := 10) (oi := _) (v := ?_) rfl (by kernel_rfl) (by kernel_rfl) (by kernel_rfl) (fun _ _ _ h => h) (Or.inl ⟨by rfl, ?_⟩) (by assumption) ?_
          rotate_left
          · (intro w hSw; (try dsimp only at hSw); go_simp <;> with_reducible rfl)
          try simp only [Act.put, List.getElem_toArray, List.getElem_cons_succ, List.getElem_cons_zero, List.setIfInBounds_toArray, List.set_cons_zero, List.set_cons_succ]
          refine wpAnyH_take (i := 11) (oi := _) (v := ?_) rfl (by kernel_rfl) (by kernel_rfl) (by kernel_rfl) (fun _ _ _ h => h) (Or.inl ⟨by rfl, ?_⟩) (by assumption) ?_
          rotate_left
          · (intro w hSw; (try dsimp only at hSw); go_simp <;> with_reducible rfl)
          try simp only [Act.put, List.getElem_toArray, List.getElem_cons_succ, List.getElem_cons_zero, List.setIfInBounds_toArray, List.set_cons_zero, List.set_cons_succ]
          refine wpAnyH_take (i := 12) (oi := _) (v := ?_) rfl (by kernel_rfl) (by kernel_rfl) (by kernel_rfl) (fun _ _ _ h => h) (Or.inl ⟨by rfl, ?_⟩) (by assumption) ?_
          rotate_left
          · (intro w hSw; (try dsimp only at hSw); go_simp <;> with_reducible rfl)
          try simp only [Act.put, List.getElem_toArray, List.getElem_cons_succ, List.getElem_cons_zero, List.setIfInBounds_toArray, List.set_cons_zero, List.set_cons_succ]
          refine wpAnyH_take (i := 13) (oi := _) (v := ?_) rfl (by kernel_rfl) (by kernel_rfl) (by kernel_rfl) (fun _ _ _ h => h) (Or.inl ⟨by rfl, ?_⟩) (by assumption) ?_
          rotate_left
          · (intro w hSw; (try dsimp only at hSw); go_simp <;> with_reducible rfl)
          try simp only [Act.put, List.getElem_toArray, List.getElem_cons_succ, List.getElem_cons_zero, List.setIfInBounds_toArray, List.set_cons_zero, List.set_cons_succ]
          refine wpAnyH_ready (rs := [14]) (by kernel_rfl) (by simp) ?_
          refine AllReadyH.cons (o := _) rfl (fun K hK => ?_) AllReadyH.nil
          (go_simp; go_at_call 77; refine (HCv.out _).mono ?_; rintro e w2 ⟨rfl, hb2⟩; go_must (have HB2 : Hid (Below wr.heap.size wr w2) := ((Below.refl _ _).drew).trans hb2); go_must (have q0 := (hb2.cell (p := ⟨b, off + k * 3, none⟩) lb).trans q0); go_must (have q1 := (hb2.cell (p := ⟨b, off + k * 3 + 1, none⟩) lb).trans q1); go_must (have p0 := (hb2.cell (p := ⟨w.heap.size, 0, none⟩) lp).trans p0); go_must (have p1 := (hb2.cell (p := ⟨w.heap.size, 1, none⟩) lp).trans p1); clear hb2)
          refine hK.out _ _ ?_ (fun hHeld => ?_)
          · exact ⟨by go_simp, by go_simp, by go_simp, by go_simp⟩
          clear hK K
          try simp only [Act.put, List.getElem_toArray, List.getElem_cons_succ, List.getElem_cons_zero, List.setIfInBounds_toArray, List.set_cons_zero, List.set_cons_succ]
          refine wpAnyH_take (i := 15) (oi := _) (v := ?_) rfl (by kernel_rfl) (by kernel_rfl) (by kernel_rfl) (fun _ _ _ h => h) (Or.inl ⟨by rfl, ?_⟩) (by assumption) ?_
          rotate_left
          · (intro w hSw; (try dsimp only at hSw); go_simp <;> with_reducible rfl)
          try simp only [Act.put, List.getElem_toArray, List.getElem_cons_succ, List.getElem_cons_zero, List.setIfInBounds_toArray, List.set_cons_zero, List.set_cons_succ]
          refine wpAnyH_done (by kernel_rfl) ?_ _

          have HA2 := Lib.hid (HA.out.go HB2.out)
        · skip
          go_wp2_with fail
          go_roundw
          case rel => exact ⟨k + 1, A2, c2, xs, by omega, by go_num, rfl, HX2.out, HA2.out⟩
          case measure => simp [intOf]; omega
        · skip
          go_wp2_with fail
          go_roundw
          case rel => exact ⟨k + 1, A2, c2, xs, by omega, by go_num, rfl, HX2.out, HA2.out⟩
          case measure => simp [intOf]; omega
        · have HBk : Hid (Rg (w2.alloc (.cells #[.int .u32 (adr l[k].1 : Int), .int .i64 (l[k].1.length : Int)] 30)) (fun k => k = w2.heap.size) 2 (some ⟨w2.heap.size, 0, none⟩) 1 [.int .u32 (adr l[k].1 : Int), .int .i64 (l[k].1.length : Int)]) := Rg.new w2 30 2 1 #[.int .u32 (adr l[k].1 : Int), .int .i64 (l[k].1.length : Int)] rfl
          have HA3 : Hid (Acc w0 30 2 (w2.alloc (.cells #[.int .u32 (adr l[k].1 : Int), .int .i64 (l[k].1.length : Int)] 30)) A2 xs.length c2 (kv xs)) := HA2.out.go ((Below.refl _ _).alloc (Nat.le_refl _) _)
          go_wp2_with (at_builtin; refine wpList_app _ rfl (.tmp 30) (.tmp 36) _ rfl 30 i0 _ 2 16 Try.underlying36 Hi.out Hz0.out Hz1.out Hz2.out rfl (by omega) A2 xs.length c2 (kv xs) rfl HA3.out.own _ (some ⟨w2.heap.size, 0, none⟩) 1 1 (by intro h; cases h) [.int .u32 (adr l[k].1 : Int), .int .i64 (l[k].1.length : Int)] rfl HBk.out (by intro u hu; simp at hu; rcases hu with rfl | rfl <;> rfl) (by unfold maxLen; omega) (by omega) ?_; intro A4 c4 w4 ho4 hc4 hf4; have HA4 := Lib.hid (HA3.out.app ho4 hc4 hf4); clear ho4 hc4 hf4)
          go_roundw
          case rel => exact ⟨k + 1, A4, c4, xs ++ [l[k].1], by omega, by go_num, by simp, HX2.out, by rw [kv_snoc, List.length_append]; exact HA4.out⟩
          case measure => simp [intOf]; omega
        · have HBk : Hid (Rg (w2.alloc (.cells #[.int .u32 (adr l[k].1 : Int), .int .i64 (l[k].1.length : Int)] 30)) (fun k => k = w2.heap.size) 2 (some ⟨w2.heap.size, 0, none⟩) 1 [.int .u32 (adr l[k].1 : Int), .int .i64 (l[k].1.length : Int)]) := Rg.new w2 30 2 1 #[.int .u32 (adr l[k].1 : Int), .int .i64 (l[k].1.length : Int)] rfl
          have HA3 : Hid (Acc w0 30 2 (w2.alloc (.cells #[.int .u32 (adr l[k].1 : Int), .int .i64 (l[k].1.length : Int)] 30)) A2 xs.length c2 (kv xs)) := HA2.out.go ((Below.refl _ _).alloc (Nat.le_refl _) _)
          go_wp2_with (at_builtin; refine wpList_app _ rfl (.tmp 30) (.tmp 36) _ rfl 30 i0 _ 2 16 Try.underlying36 Hi.out Hz0.out Hz1.out Hz2.out rfl (by omega) A2 xs.length c2 (kv xs) rfl HA3.out.own _ (some ⟨w2.heap.size, 0, none⟩) 1 1 (by intro h; cases h) [.int .u32 (adr l[k].1 : Int), .int .i64 (l[k].1.length : Int)] rfl HBk.out (by intro u hu; simp at hu; rcases hu with rfl | rfl <;> rfl) (by unfold maxLen; omega) (by omega) ?_; intro A4 c4 w4 ho4 hc4 hf4; have HA4 := Lib.hid (HA3.out.app ho4 hc4 hf4); clear ho4 hc4 hf4)
          go_roundw
          case rel => exact ⟨k + 1, A4, c4, xs ++ [l[k].1], by omega, by go_num, by simp, HX2.out, by rw [kv_snoc, List.length_append]; exact HA4.out⟩
          case measure => simp [intOf]; omega
    · obtain rfl : k = l.length := by omega
      have HX2 : Hid (xs = L) := by rw [Hid, HL.out, HX.out, List.take_length]; rfl
      go_wp2_with fail
      go_ret
      have hB : Below w.heap.size w wr := HBw.out
      rw [← HX2.out]
      exact ⟨A2, c2, rfl, HA.out.own.nil, HA.out.own.cap, HA.out.own.max, HA.out.own.rg.rd, hB, fun ad e => Nat.le_trans (by rw [HWs.out]; omega) (HA.out.low ad.block (by rw [e, sf_some]))⟩

set_option maxRecDepth 100000 in
set_option maxHeartbeats 2000000 in
theorem refBelow_any (B : Nat) (l : Rows) (A : Option Addr) (c : Nat) (a : Nat) (n : Int) (L : List Key) (w : World) (hl : l.length ≤ 100000) (hs : Short l) (ha : a < 4294967296) (hL : L = refBelowL l a n) (hr : Row3 B w 3 A l.length c (rv l)) :
    Calls Try.prog 27 #[.slice A l.length c, .agg #[.int .u32 a, .int .i64 n]] w (RetKeys L w) := by
  have HR := Lib.hid hr
  have HS := Lib.hid hs
  have HL := Lib.hid hL
  obtain ⟨i0, hi, hz0, hz1, hz2⟩ := info_parts info_pfx
  have Hi := Lib.hid hi
  have Hz0 := Lib.hid hz0
  have Hz1 := Lib.hid hz1
  have Hz2 := Lib.hid hz2
  have HBx := Lib.hid (Bk.new w 30 #[.int .u32 (a : Int), .int .i64 n])
  have HA0 : Hid (Acc (w.alloc (.cells #[.int .u32 (a : Int), .int .i64 n] 30)) 30 2 ((w.alloc (.cells #[.int .u32 (a : Int), .int .i64 n] 30)).alloc (.cells #[] 30)) (some ⟨w.heap.size + 1, 0, none⟩) 0 0 []) :=
    Acc.start ((Below.refl _ _).alloc (Nat.le_refl _) _) (by have := Bk.new (w.alloc (.cells #[.int .u32 (a : Int), .int .i64 n] 30)) 30 #[]; simpa using this) (by simp)
  have HB0 : Hid (Below w.heap.size w (w.alloc (.cells #[.int .u32 (a : Int), .int .i64 n] 30))) := (Below.refl _ _).alloc (Nat.le_refl _) _
  obtain ⟨w0, hw0⟩ : ∃ w0, w0 = w.alloc (.cells #[.int .u32 (a : Int), .int .i64 n] 30) := ⟨_, rfl⟩
  have hws : w0.heap.size = w.heap.size + 1 := by rw [hw0]; simp
  have HWs := Lib.hid hws
  rw [← hw0] at HBx HB0
  have HW0 := Lib.hid hw0
  clear hr hs hL hi hz0 hz1 hz2 hw0 hws
  go_enter Try.func27, Try.ntmps27
  go_wp2_with fail
  rw [← HW0.out] at HA0 ⊢
  go_loopw [5, 6] (fun v5 v6 wr => ∃ (k : Nat) (A2 : Option Addr) (c2 : Nat) (xs : List Key), k ≤ l.length ∧ v6 = .int .i64 k ∧ v5 = .slice A2 xs.length c2 ∧ xs = ((l.take k).filter fun r => takeB a n r.1).map (·.1) ∧ Acc w0 30 2 wr A2 xs.length c2 (kv xs)) (fun _ v6 _ => l.length - (intOf v6).toNat)
  case atStart => exact ⟨0, _, 0, [], Nat.zero_le _, rfl, rfl, by simp, HA0.out⟩
  case round =>
    obtain ⟨k, A2, c2, xs, hk, rfl, rfl, hx, hacc⟩ := hrel
    have HX := Lib.hid hx
    have HA := Lib.hid hacc
    have hxl : xs.length ≤ k := by
      rw [hx, List.length_map]
      exact Nat.le_trans (List.length_filter_le _ _) (by simp; omega)
    have HBw : Hid (Below w.heap.size w wr) := HB0.out.trans (hacc.bel.mono HB0.out.size)
    have HP := HBx.out.below hacc.bel (by rw [HWs.out]; omega)
    clear hx hacc HA0
    by_cases hlt : k < l.length
    · obtain ⟨x0, x1, _⟩ := rv_at l k hlt
      obtain ⟨b, off, rfl, hb, _, c0⟩ := HR.out.cell hlt (by omega) x0
      obtain ⟨b', off', e', _, _, c1⟩ := HR.out.cell hlt (by omega) x1
      cases e'
      have q0 := (HBw.out.cell (p := ⟨b, off + k * 3, none⟩) hb).trans c0
      have q1 := (HBw.out.cell (p := ⟨b, off + k * 3 + 1, none⟩) hb).trans c1
      have p0 := HP.cell 0
      have p1 := HP.cell 1
      simp at p0 p1
      have lb : b < wr.drew.heap.size := Nat.lt_of_lt_of_le hb HBw.out.size
      have lp : w.heap.size < wr.drew.heap.size := HP.lt
      have hki : (k : Int) < (l.length : Int) := by omega
      have hsh := HS.out l[k] (List.getElem_mem hlt)
      have HCv := Lib.hid (fun w => ref_Covers a n (adr l[k].1) (l[k].1.length : Int) ha (adr_lt hsh) w)
      have HSt := Lib.hid (filter_step l (fun r => takeB a n r.1) (·.1) hlt)
      have htk : takeB a n l[k].1 = (diffB a n l[k].1 && coversB a n (adr l[k].1) l[k].1.length) := rfl
      have hdf : diffB a n l[k].1 = !(decide (adr l[k].1 = a) && decide ((l[k].1.length : Int) = n)) := rfl
      clear x0 x1 c0 c1 HP
      generalize coversB a n (adr l[k].1) l[k].1.length = cv at *
      by_cases hq : adr l[k].1 = a ∧ (l[k].1.length : Int) = n
      · obtain ⟨ea, en⟩ := hq
        have HX2 : Hid (xs = ((l.take (k + 1)).filter fun r => takeB a n r.1).map (·.1)) := by
          have h2 := HSt.out
          rw [Hid, h2, htk, hdf, ea, en, HX.out]; simp
        have e3 : ((adr l[k].1 : Int) == (a : Int)) = true := by rw [ea]; simp
        have e4 : ((l[k].1.length : Int) == n) = true := by rw [en]; simp
        clear ea en hdf htk HSt
        go_wp2_with fail
        refine wp_region_held_drew (S := (fun w' => w'.cell? ⟨b, off + k * 3, none⟩ = some (.int .u32 (adr l[k].1 : Int)) ∧ w'.cell? ⟨b, off + k * 3 + 1, none⟩ = some (.int .i64 (l[k].1.length : Int)) ∧ w'.cell? ⟨w.heap.size, 0, none⟩ = some (.int .u32 (a : Int)) ∧ w'.cell? ⟨w.heap.size, 1, none⟩ = some (.int .i64 n))) (by kernel_rfl) ?_ (fun hHeld => ?_)
        · exact ⟨by go_simp, by go_simp, by go_simp, by go_simp⟩
        refine wpAnyH_take (i := 0) (oi := _) (v := ?_) rfl (by kernel_rfl) (by kernel_rfl) (by kernel_rfl) (fun _ _ _ h => h) (Or.inl ⟨by rfl, ?_⟩) (by assumption) ?_
        rotate_left
        · (intro w hSw; (try dsimp only at hSw); go_simp <;> with_reducible rfl)
        try simp only [Act.put, List.getElem_toArray, List.getElem_cons_succ, List.getElem_cons_zero, List.setIfInBounds_toArray, List.set_cons_zero, List.set_cons_succ]
        refine wpAnyH_take (i := 1) (oi := _) (v := ?_) rfl (by kernel_rfl) (by kernel_rfl) (by kernel_rfl) (fun _ _ _ h => h) (Or.inl ⟨by rfl, ?_⟩) (by assumption) ?_
        rotate_left
        · (intro w hSw; (try dsimp only at hSw); go_simp <;> with_reducible rfl)
        try simp only [Act.put, List.getElem_toArray, List.getElem_cons_succ, List.getElem_cons_zero, List.setIfInBounds_toArray, List.set_cons_zero, List.set_cons_succ]
        refine wpAnyH_take (i := 2) (oi := _) (v := ?_) rfl (by kernel_rfl) (by kernel_rfl) (by kernel_rfl) (fun _ _ _ h => h) (Or.inl ⟨by rfl, ?_⟩) (by assumption) ?_
        rotate_left
        · (intro w hSw; (try dsimp only at hSw); go_simp <;> with_reducible rfl)
        try simp only [Act.put, List.getElem_toArray, List.getElem_cons_succ, List.getElem_cons_zero, List.setIfInBounds_toArray, List.set_cons_zero, List.set_cons_succ]
        refine wpAnyH_take (i := 3) (oi := _) (v := ?_) rfl (by kernel_rfl) (by kernel_rfl) (by kernel_rfl) (fun _ _ _ h => h) (Or.inl ⟨by rfl, ?_⟩) (by assumption) ?_
        rotate_left
        · (intro w hSw; (try dsimp only at hSw); go_simp <;> with_reducible rfl)
        try simp only [Act.put, List.getElem_toArray, List.getElem_cons_succ, List.getElem_cons_zero, List.setIfInBounds_toArray, List.set_cons_zero, List.set_cons_succ]
        refine wpAnyH_take (i := 4) (oi := _) (v := ?_) rfl (by kernel_rfl) (by kernel_rfl) (by kernel_rfl) (fun _ _ _ h => h) (Or.inl ⟨by rfl, ?_⟩) (by assumption) ?_
        rotate_left
        · (intro w hSw; (try dsimp only at hSw); go_simp <;> with_reducible rfl)
        try simp only [Act.put, List.getElem_toArray, List.getElem_cons_succ, List.getElem_cons_zero, List.setIfInBounds_toArray, List.set_cons_zero, List.set_cons_succ]
        refine wpAnyH_take (i := 5) (oi := _) (v := ?_) rfl (by kernel_rfl) (by kernel_rfl) (by kernel_rfl) (fun _ _ _ h => h) (Or.inl ⟨by rfl, ?_⟩) (by assumption) ?_
        rotate_left
        · (intro w hSw; (try dsimp only at hSw); go_simp <;> with_reducible rfl)
        try simp only [Act.put, List.getElem_toArray, List.getElem_cons_succ, List.getElem_cons_zero, List.setIfInBounds_toArray, List.set_cons_zero, List.set_cons_succ]
        refine wpAnyH_take (i := 6) (oi := _) (v := ?_) rfl (by kernel_rfl) (by kernel_rfl) (by kernel_rfl) (fun _ _ _ h => h) (Or.inl ⟨by rfl, ?_⟩) (by assumption) ?_
        rotate_left
        · (intro w hSw; (try dsimp only at hSw); go_simp <;> with_reducible rfl)
        try simp only [Act.put, List.getElem_toArray, List.getElem_cons_succ, List.getElem_cons_zero, List.setIfInBounds_toArray, List.set_cons_zero, List.set_cons_succ]
        refine wpAnyH_take (i := 7) (oi := _) (v := ?_) rfl (by kernel_rfl) (by kernel_rfl) (by kernel_rfl) (fun _ _ _ h => h) (Or.inl ⟨by rfl, ?_⟩) (by assumption) ?_
        rotate_left
        · (intro w hSw; (try dsimp only at hSw); go_simp <;> with_reducible rfl)
        try simp only [Act.put, List.getElem_toArray, List.getElem_cons_succ, List.getElem_cons_zero, List.setIfInBounds_toArray, List.set_cons_zero, List.set_cons_succ]
        refine wpAnyH_take (i := 8) (oi := _) (v := undef) rfl (by kernel_rfl) (by kernel_rfl) (by kernel_rfl) (fun _ _ _ h => h) (Or.inr ⟨by rfl, rfl⟩) (by assumption) ?_
        try simp only [Act.put, List.getElem_toArray, List.getElem_cons_succ, List.getElem_cons_zero, List.setIfInBounds_toArray, List.set_cons_zero, List.set_cons_succ]
        refine wpAnyH_take (i := 9) (oi := _) (v := undef) rfl (by kernel_rfl) (by kernel_rfl) (by kernel_rfl) (fun _ _ _ h => h) (Or.inr ⟨by rfl, rfl⟩) (by assumption) ?_
        try simp only [Act.put, List.getElem_toArray, List.getElem_cons_succ, List.getElem_cons_zero, List.setIfInBounds_toArray, List.set_cons_zero, List.set_cons_succ]
        refine wpAnyH_take (i := 10) (oi := _) (v := undef) rfl (by kernel_rfl) (by kernel_rfl) (by kernel_rfl) (fun _ _ _ h => h) (Or.inr ⟨by rfl, rfl⟩) (by assumption) ?_
        try simp only [Act.put, List.getElem_toArray, List.getElem_cons_succ, List.getElem_cons_zero, List.setIfInBounds_toArray, List.set_cons_zero, List.set_cons_succ]
        refine wpAnyH_take (i := 11) (oi := _) (v := undef) rfl (by kernel_rfl) (by kernel_rfl) (by kernel_rfl) (fun _ _ _ h => h) (Or.inr ⟨by rfl, rfl⟩) (by assumption) ?_
        try simp only [Act.put, List.getElem_toArray, List.getElem_cons_succ, List.getElem_cons_zero, List.setIfInBounds_toArray, List.set_cons_zero, List.set_cons_succ]
        refine wpAnyH_take (i := 12) (oi := _) (v := undef) rfl (by kernel_rfl) (by kernel_rfl) (by kernel_rfl) (fun _ _ _ h => h) (Or.inr ⟨by rfl, rfl⟩) (by assumption) ?_
        try simp only [Act.put, List.getElem_toArray, List.getElem_cons_succ, List.getElem_cons_zero, List.setIfInBounds_toArray, List.set_cons_zero, List.set_cons_succ]
        refine wpAnyH_take (i := 13) (oi := _) (v := undef) rfl (by kernel_rfl) (by kernel_rfl) (by kernel_rfl) (fun _ _ _ h => h) (Or.inr ⟨by rfl, rfl⟩) (by assumption) ?_
        try simp only [Act.put, List.getElem_toArray, List.getElem_cons_succ, List.getElem_cons_zero, List.setIfInBounds_toArray, List.set_cons_zero, List.set_cons_succ]
        refine wpAnyH_take (i := 14) (oi := _) (v := undef) rfl (by kernel_rfl) (by kernel_rfl) (by kernel_rfl) (fun _ _ _ h => h) (Or.inr ⟨by rfl, rfl⟩) (by assumption) ?_
        try simp only [Act.put, List.getElem_toArray, List.getElem_cons_succ, List.getElem_cons_zero, List.setIfInBounds_toArray, List.set_cons_zero, List.set_cons_succ]
        refine wpAnyH_take (i := 15) (oi := _) (v := ?_) rfl (by kernel_rfl) (by kernel_rfl) (by kernel_rfl) (fun _ _ _ h => h) (Or.inl ⟨by rfl, ?_⟩) (by assumption) ?_
        rotate_left
        · (intro w hSw; (try dsimp only at hSw); go_simp <;> with_reducible rfl)
        try simp only [Act.put, List.getElem_toArray, List.getElem_cons_succ, List.getElem_cons_zero, List.setIfInBounds_toArray, List.set_cons_zero, List.set_cons_succ]
        refine wpAnyH_done (by kernel_rfl) ?_ _

        go_wp2_with fail
        go_roundw
        case rel => exact ⟨k + 1, A2, c2, xs, by omega, by go_num, rfl, HX2.out, HA.out.go ((Below.refl _ _).drew)⟩
        case measure => simp [intOf]; omega
      · have hkk : ((adr l[k].1 : Int) == (a : Int)) = false ∨ (((adr l[k].1 : Int) == (a : Int)) = true ∧ ((l[k].1.length : Int) == n) = false) := by
          by_cases ea : adr l[k].1 = a
          · refine .inr ⟨by rw [ea]; simp, ?_⟩
            rw [beq_eq_false_iff_ne]; exact fun en => hq ⟨ea, en⟩
          · exact .inl (by rw [beq_eq_false_iff_ne]; omega)
        have hd2 : diffB a n l[k].1 = true := by
          rw [hdf, Bool.not_eq_true', Bool.and_eq_false_iff, decide_eq_false_iff_not, decide_eq_false_iff_not]
          exact Decidable.not_and_iff_or_not.1 hq
        rw [hd2, Bool.true_and] at htk
        clear hdf hq hd2
        obtain ⟨v, hv⟩ : ∃ v, v = l[k].1.length := ⟨_, rfl⟩
        cases cv
        case' true =>
          have HX2 : Hid (xs ++ [l[k].1] = ((l.take (k + 1)).filter fun r => takeB a n r.1).map (·.1)) := by
            have h2 := HSt.out
            rw [Hid, h2, htk, HX.out]; simp
          rcases hkk with e3 | ⟨e3, e4⟩
        case' false =>
          have HX2 : Hid (xs = ((l.take (k + 1)).filter fun r => takeB a n r.1).map (·.1)) := by
            have h2 := HSt.out
            rw [Hid, h2, htk, HX.out]; simp
          rcases hkk with e3 | ⟨e3, e4⟩
        case' true.inl => clear hv
        case' true.inr => clear hv
        case' false.inl => clear hv
        case' false.inr => clear hv
        all_goals
          clear htk HSt
          go_wp2_with fail
          refine wp_region_held_drew (S := (fun w' => w'.cell? ⟨b, off + k * 3, none⟩ = some (.int .u32 (adr l[k].1 : Int)) ∧ w'.cell? ⟨b, off + k * 3 + 1, none⟩ = some (.int .i64 (l[k].1.length : Int)) ∧ w'.cell? ⟨w.heap.size, 0, none⟩ = some (.int .u32 (a : Int)) ∧ w'.cell? ⟨w.heap.size, 1, none⟩ = some (.int .i64 n))) (by kernel_rfl) ?_ (fun hHeld => ?_)
          · exact ⟨by go_simp, by go_simp, by go_simp, by go_simp⟩
          refine wpAnyH_take (i := 0) (oi := _) (v := ?_) rfl (by kernel_rfl) (by kernel_rfl) (by kernel_rfl) (fun _ _ _ h => h) (Or.inl ⟨by rfl, ?_⟩) (by assumption) ?_
          rotate_left
          · (intro w hSw; (try dsimp only at hSw); go_simp <;> with_reducible rfl)
          try simp only [Act.put, List.getElem_toArray, List.getElem_cons_succ, List.getElem_cons_zero, List.setIfInBounds_toArray, List.set_cons_zero, List.set_cons_succ]
          refine wpAnyH_take (i := 1) (oi := _) (v := ?_) rfl (by kernel_rfl) (by kernel_rfl) (by kernel_rfl) (fun _ _ _ h => h) (Or.inl ⟨by rfl, ?_⟩) (by assumption) ?_
          rotate_left
          · (intro w hSw; (try dsimp only at hSw); go_simp <;> with_reducible rfl)
          try simp only [Act.put, List.getElem_toArray, List.getElem_cons_succ, List.getElem_cons_zero, List.setIfInBounds_toArray, List.set_cons_zero, List.set_cons_succ]
          refine wpAnyH_take (i := 2) (oi := _) (v := ?_) rfl (by kernel_rfl) (by kernel_rfl) (by kernel_rfl) (fun _ _ _ h => h) (Or.inl ⟨by rfl, ?_⟩) (by assumption) ?_
          rotate_left
          · (intro w hSw; (try dsimp only at hSw); go_simp <;> with_reducible rfl)
          try simp only [Act.put, List.getElem_toArray, List.getElem_cons_succ, List.getElem_cons_zero, List.setIfInBounds_toArray, List.set_cons_zero, List.set_cons_succ]
          refine wpAnyH_take (i := 3) (oi := _) (v := ?_) rfl (by kernel_rfl) (by kernel_rfl) (by kernel_rfl) (fun _ _ _ h => h) (Or.inl ⟨by rfl, ?_⟩) (by assumption) ?_
          rotate_left
          · (intro w hSw; (try dsimp only at hSw); go_simp <;> with_reducible rfl)
          try simp only [Act.put, List.getElem_toArray, List.getElem_cons_succ, List.getElem_cons_zero, List.setIfInBounds_toArray, List.set_cons_zero, List.set_cons_succ]
          refine wpAnyH_take (i := 4) (oi := _) (v := ?_) rfl (by kernel_rfl) (by kernel_rfl) (by kernel_rfl) (fun _ _ _ h => h) (Or.inl ⟨by rfl, ?_⟩) (by assumption) ?_
          rotate_left
          · (intro w hSw; (try dsimp only at hSw); go_simp <;> with_reducible rfl)
          try simp only [Act.put, List.getElem_toArray, List.getElem_cons_succ, List.getElem_cons_zero, List.setIfInBounds_toArray, List.set_cons_zero, List.set_cons_succ]
          refine wpAnyH_take (i := 5) (oi := _) (v := ?_) rfl (by kernel_rfl) (by kernel_rfl) (by kernel_rfl) (fun _ _ _ h => h) (Or.inl ⟨by rfl, ?_⟩) (by assumption) ?_
          rotate_left
          · (intro w hSw; (try dsimp only at hSw); go_simp <;> with_reducible rfl)
          try simp only [Act.put, List.getElem_toArray, List.getElem_cons_succ, List.getElem_cons_zero, List.setIfInBounds_toArray, List.set_cons_zero, List.set_cons_succ]
          refine wpAnyH_take (i := 6) (oi := _) (v := ?_) rfl (by kernel_rfl) (by kernel_rfl) (by kernel_rfl) (fun _ _ _ h => h) (Or.inl ⟨by rfl, ?_⟩) (by assumption) ?_
          rotate_left
          · (intro w hSw; (try dsimp only at hSw); go_simp <;> with_reducible rfl)
          try simp only [Act.put, List.getElem_toArray, List.getElem_cons_succ, List.getElem_cons_zero, List.setIfInBounds_toArray, List.set_cons_zero, List.set_cons_succ]
          refine wpAnyH_take (i := 7) (oi := _) (v := ?_) rfl (by kernel_rfl) (by kernel_rfl) (by kernel_rfl) (fun _ _ _ h => h) (Or.inl ⟨by rfl, ?_⟩) (by assumption) ?_
          rotate_left
          · (intro w hSw; (try dsimp only at hSw); go_simp <;> with_reducible rfl)
          try simp only [Act.put, List.getElem_toArray, List.getElem_cons_succ, List.getElem_cons_zero, List.setIfInBounds_toArray, List.set_cons_zero, List.set_cons_succ]
          refine wpAnyH_take (i := 8) (oi := _) (v := ?_) rfl (by kernel_rfl) (by kernel_rfl) (by kernel_rfl) (fun _ _ _ h => h) (Or.inl ⟨by rfl, ?_⟩) (by assumption) ?_
          rotate_left
          · (intro w hSw; (try dsimp only at hSw); go_simp <;> with_reducible rfl)
          try simp only [Act.put, List.getElem_toArray, List.getElem_cons_succ, List.getElem_cons_zero, List.setIfInBounds_toArray, List.set_cons_zero, List.set_cons_succ]
          refine wpAnyH_take (i := 9) (oi := _) (v := ?_) rfl (by kernel_rfl) (by kernel_rfl) (by kernel_rfl) (fun _ _ _ h => h) (Or.inl ⟨by rfl, ?_⟩) (by assumption) ?_
          rotate_left
          · (intro w hSw; (try dsimp only at hSw); go_simp <;> with_reducible rfl)
          try simp only [Act.put, List.getElem_toArray, List.getElem_cons_succ, List.getElem_cons_zero, List.setIfInBounds_toArray, List.set_cons_zero, List.set_cons_succ]
          refine wpAnyH_take (i := 10) (oi := _) (v := ?_) rfl (by kernel_rfl) (by kernel_rfl) (by kernel_rfl) (fun _ _ _ h => h) (Or.inl ⟨by rfl, ?_⟩) (by assumption) ?_
          rotate_left
          · (intro w hSw; (try dsimp only at hSw); go_simp <;> with_reducible rfl)
          try simp only [Act.put, List.getElem_toArray, List.getElem_cons_succ, List.getElem_cons_zero, List.setIfInBounds_toArray, List.set_cons_zero, List.set_cons_succ]
          refine wpAnyH_take (i := 11) (oi := _) (v := ?_) rfl (by kernel_rfl) (by kernel_rfl) (by kernel_rfl) (fun _ _ _ h => h) (Or.inl ⟨by rfl, ?_⟩) (by assumption) ?_
          rotate_left
          · (intro w hSw; (try dsimp only at hSw); go_simp <;> with_reducible rfl)
          try simp only [Act.put, List.getElem_toArray, List.getElem_cons_succ, List.getElem_cons_zero, List.setIfInBounds_toArray, List.set_cons_zero, List.set_cons_succ]
          refine wpAnyH_take (i := 12) (oi := _) (v := ?_) rfl (by kernel_rfl) (by kernel_rfl) (by kernel_rfl) (fun _ _ _ h => h) (Or.inl ⟨by rfl, ?_⟩) (by assumption) ?_
          rotate_left
          · (intro w hSw; (try dsimp only at hSw); go_simp <;> with_reducible rfl)
          try simp only [Act.put, List.getElem_toArray, List.getElem_cons_succ, List.getElem_cons_zero, List.setIfInBounds_toArray, List.set_cons_zero, List.set_cons_succ]
          refine wpAnyH_take (i := 13) (oi := _) (v := ?_) rfl (by kernel_rfl) (by kernel_rfl) (by kernel_rfl) (fun _ _ _ h => h) (Or.inl ⟨by rfl, ?_⟩) (by assumption) ?_
          rotate_left
          · (intro w hSw; (try dsimp only at hSw); go_simp <;> with_reducible rfl)
          try simp only [Act.put, List.getElem_toArray, List.getElem_cons_succ, List.getElem_cons_zero, List.setIfInBounds_toArray, List.set_cons_zero, List.set_cons_succ]
          refine wpAnyH_ready (rs := [14]) (by kernel_rfl) (by simp) ?_
          refine AllReadyH.cons (o := _) rfl (fun K hK => ?_) AllReadyH.nil
          (go_simp; go_at_call 77; refine (HCv.out _).mono ?_; rintro e w2 ⟨rfl, hb2⟩; go_must (have HB2 : Hid (Below wr.heap.size wr w2) := ((Below.refl _ _).drew).trans hb2); go_must (have q0 := (hb2.cell (p := ⟨b, off + k * 3, none⟩) lb).trans q0); go_must (have q1 := (hb2.cell (p := ⟨b, off + k * 3 + 1, none⟩) lb).trans q1); go_must (have p0 := (hb2.cell (p := ⟨w.heap.size, 0, none⟩) lp).trans p0); go_must (have p1 := (hb2.cell (p := ⟨w.heap.size, 1, none⟩) lp).trans p1); clear hb2)
          refine hK.out _ _ ?_ (fun hHeld => ?_)
          · exact ⟨by go_simp, by go_simp, by go_simp, by go_simp⟩
          clear hK K
          try simp only [Act.put, List.getElem_toArray, List.getElem_cons_succ, List.getElem_cons_zero, List.setIfInBounds_toArray, List.set_cons_zero, List.set_cons_succ]
          refine wpAnyH_take (i := 15) (oi := _) (v := ?_) rfl (by kernel_rfl) (by kernel_rfl) (by kernel_rfl) (fun _ _ _ h => h) (Or.inl ⟨by rfl, ?_⟩) (by assumption) ?_
          rotate_left
          · (intro w hSw; (try dsimp only at hSw); go_simp <;> with_reducible rfl)
          try simp only [Act.put, List.getElem_toArray, List.getElem_cons_succ, List.getElem_cons_zero, List.setIfInBounds_toArray, List.set_cons_zero, List.set_cons_succ]
          refine wpAnyH_done (by kernel_rfl) ?_ _

          have HA2 := Lib.hid (HA.out.go HB2.out)
        · skip
          go_wp2_with fail
          go_roundw
          case rel => exact ⟨k + 1, A2, c2, xs, by omega, by go_num, rfl, HX2.out, HA2.out⟩
          case measure => simp [intOf]; omega
        · skip
          go_wp2_with fail
          go_roundw
          case rel => exact ⟨k + 1, A2, c2, xs, by omega, by go_num, rfl, HX2.out, HA2.out⟩
          case measure => simp [intOf]; omega
        · have HBk : Hid (Rg (w2.alloc (.cells #[.int .u32 (adr l[k].1 : Int), .int .i64 (l[k].1.length : Int)] 30)) (fun k => k = w2.heap.size) 2 (some ⟨w2.heap.size, 0, none⟩) 1 [.int .u32 (adr l[k].1 : Int), .int .i64 (l[k].1.length : Int)]) := Rg.new w2 30 2 1 #[.int .u32 (adr l[k].1 : Int), .int .i64 (l[k].1.length : Int)] rfl
          have HA3 : Hid (Acc w0 30 2 (w2.alloc (.cells #[.int .u32 (adr l[k].1 : Int), .int .i64 (l[k].1.length : Int)] 30)) A2 xs.length c2 (kv xs)) := HA2.out.go ((Below.refl _ _).alloc (Nat.le_refl _) _)
          go_wp2_with (at_builtin; refine wpList_app _ rfl (.tmp 30) (.tmp 36) _ rfl 30 i0 _ 2 16 Try.underlying36 Hi.out Hz0.out Hz1.out Hz2.out rfl (by omega) A2 xs.length c2 (kv xs) rfl HA3.out.own _ (some ⟨w2.heap.size, 0, none⟩) 1 1 (by intro h; cases h) [.int .u32 (adr l[k].1 : Int), .int .i64 (l[k].1.length : Int)] rfl HBk.out (by intro u hu; simp at hu; rcases hu with rfl | rfl <;> rfl) (by unfold maxLen; omega) (by omega) ?_; intro A4 c4 w4 ho4 hc4 hf4; have HA4 := Lib.hid (HA3.out.app ho4 hc4 hf4); clear ho4 hc4 hf4)
          go_roundw
          case rel => exact ⟨k + 1, A4, c4, xs ++ [l[k].1], by omega, by go_num, by simp, HX2.out, by rw [kv_snoc, List.length_append]; exact HA4.out⟩
          case measure => simp [intOf]; omega
        · have HBk : Hid (Rg (w2.alloc (.cells #[.int .u32 (adr l[k].1 : Int), .int .i64 (l[k].1.length : Int)] 30)) (fun k => k = w2.heap.size) 2 (some ⟨w2.heap.size, 0, none⟩) 1 [.int .u32 (adr l[k].1 : Int), .int .i64 (l[k].1.length : Int)]) := Rg.new w2 30 2 1 #[.int .u32 (adr l[k].1 : Int), .int .i64 (l[k].1.length : Int)] rfl
          have HA3 : Hid (Acc w0 30 2 (w2.alloc (.cells #[.int .u32 (adr l[k].1 : Int), .int .i64 (l[k].1.length : Int)] 30)) A2 xs.length c2 (kv xs)) := HA2.out.go ((Below.refl _ _).alloc (Nat.le_refl _) _)
          go_wp2_with (at_builtin; refine wpList_app _ rfl (.tmp 30) (.tmp 36) _ rfl 30 i0 _ 2 16 Try.underlying36 Hi.out Hz0.out Hz1.out Hz2.out rfl (by omega) A2 xs.length c2 (kv xs) rfl HA3.out.own _ (some ⟨w2.heap.size, 0, none⟩) 1 1 (by intro h; cases h) [.int .u32 (adr l[k].1 : Int), .int .i64 (l[k].1.length : Int)] rfl HBk.out (by intro u hu; simp at hu; rcases hu with rfl | rfl <;> rfl) (by unfold maxLen; omega) (by omega) ?_; intro A4 c4 w4 ho4 hc4 hf4; have HA4 := Lib.hid (HA3.out.app ho4 hc4 hf4); clear ho4 hc4 hf4)
          go_roundw
          case rel => exact ⟨k + 1, A4, c4, xs ++ [l[k].1], by omega, by go_num, by simp, HX2.out, by rw [kv_snoc, List.length_append]; exact HA4.out⟩
          case measure => simp [intOf]; omega
    · obtain rfl : k = l.length := by omega
      have HX2 : Hid (xs = L) := by rw [Hid, HL.out, HX.out, List.take_length]; rfl
      go_wp2_with fail
      go_ret
      have hB : Below w.heap.size w wr := HBw.out
      rw [← HX2.out]
      exact ⟨A2, c2, rfl, HA.out.own.nil, HA.out.own.cap, HA.out.own.max, HA.out.own.rg.rd, hB, fun ad e => Nat.le_trans (by rw [HWs.out]; omega) (HA.out.low ad.block (by rw [e, sf_some]))⟩
end Go.Proofs.Ytbhhkjkjihenoaa.tri
