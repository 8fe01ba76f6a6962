/- The walk of the law OpenWrites: the Go text returns true and writes nothing that was there. No condition. -/
import Derived.Test.YtajilbapjpfloaaOpenEnc3
import Derived.Test.YtajilbapjpfloaaOpenLives
namespace Go.Proofs.Ytajilbapjpfloaa.openWrites
open Go.RowKit Go.Proofs.Ytajilbapjpfloaa.kit Go.Proofs.Ytajilbapjpfloaa.mem Go.Proofs.Ytajilbapjpfloaa.octet Go.Proofs.Ytajilbapjpfloaa.openk Go.Proofs.Ytajilbapjpfloaa.openJudges
set_option linter.unusedVariables false
set_option linter.unusedSimpArgs false

set_option maxRecDepth 100000 in
set_option maxHeartbeats 2000000 in
theorem core_no (n hold id : Int) (four : Bool) (W : World) (hg : goodB n hold id four = false) :
    Calls Try.prog 12 #[.agg #[.int .u32 n, .int .i64 hold, .int .u32 id, .bool four]] W fun e w' => e = .returned (.bool true) ∧ Below W.heap.size W w' := by
  have HA := Lib.hid ((Below.refl W.heap.size W).alloc (Nat.le_refl _) (.cells #[.int .u32 n, .int .i64 hold, .int .u32 id, .bool four] 52))
  have HK := Lib.hid (Bk.new W 52 #[.int .u32 n, .int .i64 hold, .int .u32 id, .bool four])
  have HE := fun w => Lib.hid (Encode_no n hold id four w hg)
  have hG := Good_any n hold id four
  have hR := rGood_any n hold id four
  rw [hg] at hG hR
  have HG := Lib.hid hG
  have HR := Lib.hid hR
  clear hG hR hg
  go_enter Try.func12, Try.ntmps12
  go_wp2_with fail
  refine (HE _).out.mono ?_; rintro e w1 ⟨rfl, hb1⟩
  have K1 := Lib.hid (HK.out.below hb1 HK.out.lt)
  have HA1 := Lib.hid (HA.out.trans (hb1.mono HA.out.size))
  have q0 := K1.out.cell 0
  have q1 := K1.out.cell 1
  have q2 := K1.out.cell 2
  have q3 := K1.out.cell 3
  simp at q0 q1 q2 q3
  have hlt := K1.out.lt
  clear hb1
  go_wp2_with fail
  go_region_held3 (fun w' => w'.cell? ⟨W.heap.size, 0, none⟩ = some (.int .u32 n) ∧ w'.cell? ⟨W.heap.size, 1, none⟩ = some (.int .i64 hold) ∧ w'.cell? ⟨W.heap.size, 2, none⟩ = some (.int .u32 id) ∧ w'.cell? ⟨W.heap.size, 3, none⟩ = some (.bool four)) (first | exact ⟨q0, q1, q2, q3⟩ | exact ⟨(K2.out.cell 0).trans rfl, (K2.out.cell 1).trans rfl, (K2.out.cell 2).trans rfl, (K2.out.cell 3).trans rfl⟩ | exact ⟨(K3.out.cell 0).trans rfl, (K3.out.cell 1).trans rfl, (K3.out.cell 2).trans rfl, (K3.out.cell 3).trans rfl⟩) (first
    | (go_at_call 53; refine (HG.out _).mono ?_; rintro e w2 ⟨rfl, b2⟩; go_must (have K2 : Hid (Bk w2 W.heap.size 52 #[.int .u32 n, .int .i64 hold, .int .u32 id, .bool four]) := Bk.below (w := w1) K1.out ⟨b2.os, b2.tape, b2.output, b2.size, b2.block⟩ hlt); go_must (have HA2 : Hid (Below W.heap.size W w2) := HA1.out.trans (Below.mono (w := w1) ⟨b2.os, b2.tape, b2.output, b2.size, b2.block⟩ HA1.out.size)); go_must (have HC2 : Hid (Below w1.heap.size w1 w2) := ⟨b2.os, b2.tape, b2.output, b2.size, b2.block⟩); clear b2)
    | (go_at_call 54; refine (HR.out _).mono ?_; rintro e w3 ⟨rfl, b3⟩; go_must (have K3 : Hid (Bk w3 W.heap.size 52 #[.int .u32 n, .int .i64 hold, .int .u32 id, .bool four]) := Bk.below (w := w2) K2.out b3 K2.out.lt); go_must (have HA3 := Lib.hid (HA2.out.trans (b3.mono HA2.out.size))); go_must (have HC3 := Lib.hid (HC2.out.trans (b3.mono HC2.out.size))); clear b3))
  all_goals
    have r0 := (K3.out.cell 0).trans rfl
    have r1 := (K3.out.cell 1).trans rfl
    have r2 := (K3.out.cell 2).trans rfl
    have r3 := (K3.out.cell 3).trans rfl
    simp at r0 r1 r2 r3
    clear q0 q1 q2 q3
    go_wp2_with fail
    refine (HR.out _).mono ?_; rintro e w4 ⟨rfl, b4⟩
    have HA4 := Lib.hid (HA3.out.trans (b4.mono HA3.out.size))
    clear b4
    go_wp2_with fail
    refine (openk.lives_any _).mono ?_; rintro e w5 ⟨rfl, b5⟩
    have HA5 := Lib.hid (HA4.out.trans (b5.mono HA4.out.size))
    clear b5
    go_wp2_with fail
    go_ret
    exact ⟨rfl, HA5.out⟩

set_option maxRecDepth 100000 in
set_option maxHeartbeats 2000000 in
theorem core_yes (n hold id : Nat) (four : Bool) (W : World) (hn : n ≤ 4294967295) (hh : hold ≤ 65535) (hid : id ≤ 4294967295) (hg : goodB n hold id four = true) :
    Calls Try.prog 12 #[.agg #[.int .u32 (n : Int), .int .i64 (hold : Int), .int .u32 (id : Int), .bool four]] W fun e w' => e = .returned (.bool true) ∧ Below W.heap.size W w' := by
  have HA := Lib.hid ((Below.refl W.heap.size W).alloc (Nat.le_refl _) (.cells #[.int .u32 (n : Int), .int .i64 (hold : Int), .int .u32 (id : Int), .bool four] 52))
  have HK := Lib.hid (Bk.new W 52 #[.int .u32 (n : Int), .int .i64 (hold : Int), .int .u32 (id : Int), .bool four])
  have HE := fun w => Lib.hid (Encode_yes n hold id four w hg ⟨by omega, by omega⟩ ⟨by omega, by omega⟩)
  have Hod := Lib.hid (odec_enc n hold id four hg hn hid)
  have hG := Good_any n hold id four
  have hR := rGood_any n hold id four
  rw [hg] at hG hR
  have HG := Lib.hid hG
  have HR := Lib.hid hR
  clear hG hR hg
  go_enter Try.func12, Try.ntmps12
  go_wp2_with fail
  refine (HE _).out.mono ?_; rintro e w1 ⟨A1, c1, rfl, g2, g3, g4, g5, hb1⟩
  have HB1 := Lib.hid g5
  have HA0 := Lib.hid (show (A1 = none → c1 = 0) ∧ (enc n hold id four).length ≤ c1 ∧ c1 ≤ maxLen from ⟨g2, g3, g4⟩)
  clear g2 g3 g4 g5
  have K1 := Lib.hid (HK.out.below hb1 HK.out.lt)
  have HA1 := Lib.hid (HA.out.trans (hb1.mono HA.out.size))
  have q0 := K1.out.cell 0
  have q1 := K1.out.cell 1
  have q2 := K1.out.cell 2
  have q3 := K1.out.cell 3
  simp at q0 q1 q2 q3
  have hlt := K1.out.lt
  clear hb1
  go_wp2_with fail
  go_region_held3 (fun w' => w'.cell? ⟨W.heap.size, 0, none⟩ = some (.int .u32 (n : Int)) ∧ w'.cell? ⟨W.heap.size, 1, none⟩ = some (.int .i64 (hold : Int)) ∧ w'.cell? ⟨W.heap.size, 2, none⟩ = some (.int .u32 (id : Int)) ∧ w'.cell? ⟨W.heap.size, 3, none⟩ = some (.bool four)) (first | exact ⟨q0, q1, q2, q3⟩ | exact ⟨(K2.out.cell 0).trans rfl, (K2.out.cell 1).trans rfl, (K2.out.cell 2).trans rfl, (K2.out.cell 3).trans rfl⟩ | exact ⟨(K3.out.cell 0).trans rfl, (K3.out.cell 1).trans rfl, (K3.out.cell 2).trans rfl, (K3.out.cell 3).trans rfl⟩) (first
    | (go_at_call 53; refine (HG.out _).mono ?_; rintro e w2 ⟨rfl, b2⟩; go_must (have K2 : Hid (Bk w2 W.heap.size 52 #[.int .u32 (n : Int), .int .i64 (hold : Int), .int .u32 (id : Int), .bool four]) := Bk.below (w := w1) K1.out ⟨b2.os, b2.tape, b2.output, b2.size, b2.block⟩ hlt); go_must (have HA2 : Hid (Below W.heap.size W w2) := HA1.out.trans (Below.mono (w := w1) ⟨b2.os, b2.tape, b2.output, b2.size, b2.block⟩ HA1.out.size)); go_must (have HC2 : Hid (Below w1.heap.size w1 w2) := ⟨b2.os, b2.tape, b2.output, b2.size, b2.block⟩); clear b2)
    | (go_at_call 54; refine (HR.out _).mono ?_; rintro e w3 ⟨rfl, b3⟩; go_must (have K3 : Hid (Bk w3 W.heap.size 52 #[.int .u32 (n : Int), .int .i64 (hold : Int), .int .u32 (id : Int), .bool four]) := Bk.below (w := w2) K2.out b3 K2.out.lt); go_must (have HA3 := Lib.hid (HA2.out.trans (b3.mono HA2.out.size))); go_must (have HC3 := Lib.hid (HC2.out.trans (b3.mono HC2.out.size))); clear b3))
  all_goals
    have r0 := (K3.out.cell 0).trans rfl
    have r1 := (K3.out.cell 1).trans rfl
    have r2 := (K3.out.cell 2).trans rfl
    have r3 := (K3.out.cell 3).trans rfl
    simp at r0 r1 r2 r3
    clear q0 q1 q2 q3
    go_wp2_with fail
    refine (HR.out _).mono ?_; rintro e w4 ⟨rfl, b4⟩
    have K4 := Lib.hid (K3.out.below b4 K3.out.lt)
    have HA4 := Lib.hid (HA3.out.trans (b4.mono HA3.out.size))
    have HC4 : Hid (Below w1.heap.size w1 w4) := HC3.out.trans (b4.mono HC3.out.size)
    have hz14 := HC4.out.size
    have hown := own_empty2 w4 5 w4.heap.size 1 (Nat.le_refl _)
    have HOwn := Lib.hid hown
    have hsrc : Bs (w4.alloc (.cells #[] 5)) w1.heap.size A1 (enc n hold id four) := (HB1.out.below HC4.out (Nat.le_refl _)).alloc hz14 _
    have HSrc := Lib.hid hsrc
    have hel : (enc n hold id four).length ≤ 100 := by unfold enc; cases four <;> simp
    clear hown hsrc b4 r0 r1 r2 r3
    obtain ⟨i0, hi, hz0, hz1, hz2⟩ := info_parts info_u8
    have Hi := Lib.hid hi
    have Hz0 := Lib.hid hz0
    have Hz1 := Lib.hid hz1
    have Hz2 := Lib.hid hz2
    clear hi hz0 hz1 hz2
    generalize hy : enc n hold id four = y at *
    have Hy := Lib.hid hy
    clear hy
    go_wp2_with (at_builtin; refine wpList_append_sl rfl (.tmp 31) (.tmp 32) _ rfl w4.heap.size 5 i0 _ 1 1 Try.underlying26 Hi.out Hz0.out Hz1.out Hz2.out rfl (by omega) (.slice (some ⟨w4.heap.size, 0, none⟩) 0 0) 0 [] rfl HOwn.out w1.heap.size A1 y.length c1 HA0.out.1 (bv y) rfl HSrc.out (bv_one _) (by unfold maxLen; omega) (by omega) (by simp) ?_; intro A5 c5 w5 hown5 hg5 hat5; have Hown5 := Lib.hid hown5; have Hg5 := Lib.hid hg5; clear hown5 hg5 hat5)
    have ho5 := Hown5.out
    rw [Nat.zero_add, List.nil_append] at ho5
    have hnil : A5 = none → c5 = 0 := by
      obtain ⟨A', c', h1, h2, _⟩ := own_form ho5
      injection h1 with h1 _ h3
      subst h1 h3
      exact h2
    have hD := Decode_any A5 c5 w5.heap.size y w5 (by omega) hnil (Nat.le_refl _) (Rd.of_own ho5)
    unfold OpenPost at hD
    rw [Hod.out] at hD
    have HD := Lib.hid hD
    have h45 : Below w4.heap.size w4 w5 := ((Below.refl w4.heap.size w4).alloc (Nat.le_refl _) _).trans (below_grown Hg5.out (by simp) (by simp [Value.ownBlock]))
    have K5 := Lib.hid (K4.out.below h45 K4.out.lt)
    have HA5 := Lib.hid (HA4.out.trans (h45.mono HA4.out.size))
    have HC5 := Lib.hid (HC4.out.trans (h45.mono HC4.out.size))
    clear ho5 hnil hD h45 Hown5 Hg5
    refine HD.out.mono ?_; rintro e w6 ⟨A6, c6, rfl, d2, d3, d4⟩
    have K6 := Lib.hid (K5.out.below d4 K5.out.lt)
    have HA6 := Lib.hid (HA5.out.trans (d4.mono HA5.out.size))
    have HC6 := Lib.hid (HC5.out.trans (d4.mono HC5.out.size))
    have HB6 := Lib.hid d3
    clear d2 d3 d4 HD
    go_wp2_with fail
    obtain ⟨wx, hwx⟩ : ∃ wx, wx = ((w6.alloc (.cells #[.int .u32 (n : Int), .int .i64 (hold : Int), .int .u32 (id : Int), .bool four] 52)).alloc (.cells #[.int .i64 0, .int .i64 0, .slice A6 0 c6] 55)).drew := ⟨_, rfl⟩
    have h6x : Below w6.heap.size w6 wx := by rw [hwx]; exact (((Below.refl _ _).alloc (Nat.le_refl _) _).alloc (by simp) _).drew
    have b0 : Bk wx w6.heap.size 52 #[.int .u32 (n : Int), .int .i64 (hold : Int), .int .u32 (id : Int), .bool four] := by rw [hwx]; exact (Bk.new w6 _ _).alloc _
    have b1 : Bk wx (w6.heap.size + 1) 55 #[.int .i64 0, .int .i64 0, .slice A6 0 c6] := by
      rw [hwx]
      have := Bk.new (w6.alloc (.cells #[.int .u32 (n : Int), .int .i64 (hold : Int), .int .u32 (id : Int), .bool four] 52)) 55 #[.int .i64 0, .int .i64 0, .slice A6 0 c6]
      have := this.drew
      simpa using this
    have X0 := Lib.hid b0
    have X1 := Lib.hid b1
    have KX := Lib.hid (K6.out.below h6x K6.out.lt)
    have HAX := Lib.hid (HA6.out.trans (h6x.mono HA6.out.size))
    have HCX := Lib.hid (HC6.out.trans (h6x.mono HC6.out.size))
    have HBX := Lib.hid ((HB6.out.below h6x (Nat.le_refl _)).more h6x.size)
    have HSt : Hid (∀ w, Below w1.heap.size w1 w → (convert 26 9 (.slice A1 y.length c1)).run Try.prog w = .ok (.string ⟨y.toArray⟩) w) := fun w h => run_str (HB1.out.below h (Nat.le_refl _))
    have hc0 := HSt.out _ HCX.out
    have hre := rEncode_any n hold id four wx hn hh hid
    rw [Hy.out] at hre
    have HRE := Lib.hid hre
    clear h6x b0 b1 hre
    subst hwx
    refine wp_region_noPanic ?_
    refine wp_region_held_drew (S := (fun w' => (convert 26 9 (.slice A1 y.length c1)).run Try.prog w' = .ok (.string ⟨y.toArray⟩) w' ∧ w'.cell? ⟨W.heap.size, 0, none⟩ = some (.int .u32 (n : Int)) ∧ w'.cell? ⟨W.heap.size, 1, none⟩ = some (.int .i64 (hold : Int)) ∧ w'.cell? ⟨W.heap.size, 2, none⟩ = some (.int .u32 (id : Int)) ∧ w'.cell? ⟨W.heap.size, 3, none⟩ = some (.bool four) ∧ w'.cell? ⟨w6.heap.size, 0, none⟩ = some (.int .u32 (n : Int)) ∧ w'.cell? ⟨w6.heap.size, 1, none⟩ = some (.int .i64 (hold : Int)) ∧ w'.cell? ⟨w6.heap.size, 2, none⟩ = some (.int .u32 (id : Int)) ∧ w'.cell? ⟨w6.heap.size, 3, none⟩ = some (.bool four) ∧ w'.cell? ⟨w6.heap.size + 1, 0, none⟩ = some (.int .i64 0) ∧ w'.cell? ⟨w6.heap.size + 1, 1, none⟩ = some (.int .i64 0) ∧ w'.cell? ⟨w6.heap.size + 1, 2, none⟩ = some (.slice A6 0 c6))) (by kernel_rfl) ?_ (fun hHeld => ?_)
    · exact ⟨hc0, (KX.out.cell 0).trans rfl, (KX.out.cell 1).trans rfl, (KX.out.cell 2).trans rfl, (KX.out.cell 3).trans rfl, (X0.out.cell 0).trans rfl, (X0.out.cell 1).trans rfl, (X0.out.cell 2).trans rfl, (X0.out.cell 3).trans rfl, (X1.out.cell 0).trans rfl, (X1.out.cell 1).trans rfl, (X1.out.cell 2).trans rfl⟩
    refine wpAnyH_take (i := 0) (oi := _) (v := ?_) rfl (by kernel_rfl) (by kernel_rfl) (by kernel_rfl) (fun _ _ _ h => h) (Or.inl ⟨by rfl, ?_⟩) (by assumption) ?_
    rotate_left
    · (intro w hSw; (try dsimp only at hSw); go_simp <;> with_reducible rfl)
    try simp only [Act.put, List.getElem_toArray, List.getElem_cons_succ, List.getElem_cons_zero, List.setIfInBounds_toArray, List.set_cons_zero, List.set_cons_succ]
    refine wpAnyH_take (i := 1) (oi := _) (v := ?_) rfl (by kernel_rfl) (by kernel_rfl) (by kernel_rfl) (fun _ _ _ h => h) (Or.inl ⟨by rfl, ?_⟩) (by assumption) ?_
    rotate_left
    · (intro w hSw; (try dsimp only at hSw); go_simp <;> with_reducible rfl)
    try simp only [Act.put, List.getElem_toArray, List.getElem_cons_succ, List.getElem_cons_zero, List.setIfInBounds_toArray, List.set_cons_zero, List.set_cons_succ]
    refine wpAnyH_take (i := 2) (oi := _) (v := ?_) rfl (by kernel_rfl) (by kernel_rfl) (by kernel_rfl) (fun _ _ _ h => h) (Or.inl ⟨by rfl, ?_⟩) (by assumption) ?_
    rotate_left
    · (intro w hSw; (try dsimp only at hSw); go_simp <;> with_reducible rfl)
    try simp only [Act.put, List.getElem_toArray, List.getElem_cons_succ, List.getElem_cons_zero, List.setIfInBounds_toArray, List.set_cons_zero, List.set_cons_succ]
    refine wpAnyH_take (i := 3) (oi := _) (v := ?_) rfl (by kernel_rfl) (by kernel_rfl) (by kernel_rfl) (fun _ _ _ h => h) (Or.inl ⟨by rfl, ?_⟩) (by assumption) ?_
    rotate_left
    · (intro w hSw; (try dsimp only at hSw); go_simp <;> with_reducible rfl)
    try simp only [Act.put, List.getElem_toArray, List.getElem_cons_succ, List.getElem_cons_zero, List.setIfInBounds_toArray, List.set_cons_zero, List.set_cons_succ]
    refine wpAnyH_take (i := 4) (oi := _) (v := ?_) rfl (by kernel_rfl) (by kernel_rfl) (by kernel_rfl) (fun _ _ _ h => h) (Or.inl ⟨by rfl, ?_⟩) (by assumption) ?_
    rotate_left
    · (intro w hSw; (try dsimp only at hSw); go_simp <;> with_reducible rfl)
    try simp only [Act.put, List.getElem_toArray, List.getElem_cons_succ, List.getElem_cons_zero, List.setIfInBounds_toArray, List.set_cons_zero, List.set_cons_succ]
    refine wpAnyH_take (i := 5) (oi := _) (v := ?_) rfl (by kernel_rfl) (by kernel_rfl) (by kernel_rfl) (fun _ _ _ h => h) (Or.inl ⟨by rfl, ?_⟩) (by assumption) ?_
    rotate_left
    · (intro w hSw; (try dsimp only at hSw); go_simp <;> with_reducible rfl)
    try simp only [Act.put, List.getElem_toArray, List.getElem_cons_succ, List.getElem_cons_zero, List.setIfInBounds_toArray, List.set_cons_zero, List.set_cons_succ]
    refine wpAnyH_ready (rs := [6]) (by kernel_rfl) (by simp) ?_
    refine AllReadyH.cons (o := _) rfl (fun K hK => ?_) AllReadyH.nil
    go_simp; refine HRE.out.mono ?_; rintro e w8 ⟨A8, c8, rfl, hn8⟩; have K8 := Lib.hid (KX.out.below hn8.bel KX.out.lt); have Y0 := Lib.hid (X0.out.below hn8.bel X0.out.lt); have Y1 := Lib.hid (X1.out.below hn8.bel X1.out.lt); have HA8 := Lib.hid (HAX.out.trans (hn8.bel.mono HAX.out.size)); have hc1 := HSt.out _ (HCX.out.trans (hn8.bel.mono HCX.out.size)); have hstr := run_str (c := c8) (l := y) hn8.rd; have HB8 := Lib.hid ((HBX.out.below hn8.bel (Nat.le_refl _)).more hn8.bel.size); have HC8 := Lib.hid (HCX.out.trans (hn8.bel.mono HCX.out.size)); clear hn8
    refine hK.out _ _ ?_ (fun hHeld => ?_)
    · exact ⟨hc1, (K8.out.cell 0).trans rfl, (K8.out.cell 1).trans rfl, (K8.out.cell 2).trans rfl, (K8.out.cell 3).trans rfl, (Y0.out.cell 0).trans rfl, (Y0.out.cell 1).trans rfl, (Y0.out.cell 2).trans rfl, (Y0.out.cell 3).trans rfl, (Y1.out.cell 0).trans rfl, (Y1.out.cell 1).trans rfl, (Y1.out.cell 2).trans rfl⟩
    clear hK K
    try simp only [Act.put, List.getElem_toArray, List.getElem_cons_succ, List.getElem_cons_zero, List.setIfInBounds_toArray, List.set_cons_zero, List.set_cons_succ]
    refine wpAnyH_ready (rs := [7]) (by kernel_rfl) (by simp) ?_
    refine AllReadyH.cons (o := _) rfl (fun K hK => ?_) AllReadyH.nil
    go_simp
    refine hK.out _ _ ?_ (fun hHeld => ?_)
    · exact ⟨hc1, (K8.out.cell 0).trans rfl, (K8.out.cell 1).trans rfl, (K8.out.cell 2).trans rfl, (K8.out.cell 3).trans rfl, (Y0.out.cell 0).trans rfl, (Y0.out.cell 1).trans rfl, (Y0.out.cell 2).trans rfl, (Y0.out.cell 3).trans rfl, (Y1.out.cell 0).trans rfl, (Y1.out.cell 1).trans rfl, (Y1.out.cell 2).trans rfl⟩
    clear hK K
    try simp only [Act.put, List.getElem_toArray, List.getElem_cons_succ, List.getElem_cons_zero, List.setIfInBounds_toArray, List.set_cons_zero, List.set_cons_succ]
    refine wpAnyH_take (i := 8) (oi := _) (v := ?_) rfl (by kernel_rfl) (by kernel_rfl) (by kernel_rfl) (fun _ _ _ h => h) (Or.inl ⟨by rfl, ?_⟩) (by assumption) ?_
    rotate_left
    · (intro w hSw; (try dsimp only at hSw); go_simp <;> with_reducible rfl)
    try simp only [Act.put, List.getElem_toArray, List.getElem_cons_succ, List.getElem_cons_zero, List.setIfInBounds_toArray, List.set_cons_zero, List.set_cons_succ]
    refine wpAnyH_take (i := 9) (oi := _) (v := ?_) rfl (by kernel_rfl) (by kernel_rfl) (by kernel_rfl) (fun _ _ _ h => h) (Or.inl ⟨by rfl, ?_⟩) (by assumption) ?_
    rotate_left
    · (intro w hSw; (try dsimp only at hSw); go_simp <;> with_reducible rfl)
    try simp only [Act.put, List.getElem_toArray, List.getElem_cons_succ, List.getElem_cons_zero, List.setIfInBounds_toArray, List.set_cons_zero, List.set_cons_succ]
    refine wpAnyH_take (i := 10) (oi := _) (v := ?_) rfl (by kernel_rfl) (by kernel_rfl) (by kernel_rfl) (fun _ _ _ h => h) (Or.inl ⟨by rfl, ?_⟩) (by assumption) ?_
    rotate_left
    · (intro w hSw; (try dsimp only at hSw); go_simp <;> with_reducible rfl)
    try simp only [Act.put, List.getElem_toArray, List.getElem_cons_succ, List.getElem_cons_zero, List.setIfInBounds_toArray, List.set_cons_zero, List.set_cons_succ]
    refine wpAnyH_take (i := 11) (oi := _) (v := ?_) rfl (by kernel_rfl) (by kernel_rfl) (by kernel_rfl) (fun _ _ _ h => h) (Or.inl ⟨by rfl, ?_⟩) (by assumption) ?_
    rotate_left
    · (intro w hSw; (try dsimp only at hSw); go_simp <;> with_reducible rfl)
    try simp only [Act.put, List.getElem_toArray, List.getElem_cons_succ, List.getElem_cons_zero, List.setIfInBounds_toArray, List.set_cons_zero, List.set_cons_succ]
    refine wpAnyH_take (i := 12) (oi := _) (v := ?_) rfl (by kernel_rfl) (by kernel_rfl) (by kernel_rfl) (fun _ _ _ h => h) (Or.inl ⟨by rfl, ?_⟩) (by assumption) ?_
    rotate_left
    · (intro w hSw; (try dsimp only at hSw); go_simp <;> with_reducible rfl)
    try simp only [Act.put, List.getElem_toArray, List.getElem_cons_succ, List.getElem_cons_zero, List.setIfInBounds_toArray, List.set_cons_zero, List.set_cons_succ]
    refine wpAnyH_take (i := 13) (oi := _) (v := ?_) rfl (by kernel_rfl) (by kernel_rfl) (by kernel_rfl) (fun _ _ _ h => h) (Or.inl ⟨by rfl, ?_⟩) (by assumption) ?_
    rotate_left
    · (intro w hSw; (try dsimp only at hSw); go_simp <;> with_reducible rfl)
    try simp only [Act.put, List.getElem_toArray, List.getElem_cons_succ, List.getElem_cons_zero, List.setIfInBounds_toArray, List.set_cons_zero, List.set_cons_succ]
    refine wpAnyH_take (i := 14) (oi := _) (v := ?_) rfl (by kernel_rfl) (by kernel_rfl) (by kernel_rfl) (fun _ _ _ h => h) (Or.inl ⟨by rfl, ?_⟩) (by assumption) ?_
    rotate_left
    · (intro w hSw; (try dsimp only at hSw); go_simp <;> with_reducible rfl)
    try simp only [Act.put, List.getElem_toArray, List.getElem_cons_succ, List.getElem_cons_zero, List.setIfInBounds_toArray, List.set_cons_zero, List.set_cons_succ]
    refine wpAnyH_take (i := 15) (oi := _) (v := ?_) rfl (by kernel_rfl) (by kernel_rfl) (by kernel_rfl) (fun _ _ _ h => h) (Or.inl ⟨by rfl, ?_⟩) (by assumption) ?_
    rotate_left
    · (intro w hSw; (try dsimp only at hSw); go_simp <;> with_reducible rfl)
    try simp only [Act.put, List.getElem_toArray, List.getElem_cons_succ, List.getElem_cons_zero, List.setIfInBounds_toArray, List.set_cons_zero, List.set_cons_succ]
    refine wpAnyH_take (i := 16) (oi := _) (v := ?_) rfl (by kernel_rfl) (by kernel_rfl) (by kernel_rfl) (fun _ _ _ h => h) (Or.inl ⟨by rfl, ?_⟩) (by assumption) ?_
    rotate_left
    · (intro w hSw; (try dsimp only at hSw); go_simp <;> with_reducible rfl)
    try simp only [Act.put, List.getElem_toArray, List.getElem_cons_succ, List.getElem_cons_zero, List.setIfInBounds_toArray, List.set_cons_zero, List.set_cons_succ]
    refine wpAnyH_take (i := 17) (oi := _) (v := ?_) rfl (by kernel_rfl) (by kernel_rfl) (by kernel_rfl) (fun _ _ _ h => h) (Or.inl ⟨by rfl, ?_⟩) (by assumption) ?_
    rotate_left
    · (intro w hSw; (try dsimp only at hSw); go_simp <;> with_reducible rfl)
    try simp only [Act.put, List.getElem_toArray, List.getElem_cons_succ, List.getElem_cons_zero, List.setIfInBounds_toArray, List.set_cons_zero, List.set_cons_succ]
    refine wpAnyH_ready (rs := [18]) (by kernel_rfl) (by simp) ?_
    refine AllReadyH.cons (o := _) rfl (fun K hK => ?_) AllReadyH.nil
    go_simp; refine (Told_yes 0 0 [] A6 none c6 0 w8.heap.size w8.heap.size w8 (Nat.le_refl _) (Nat.le_refl _) HB8.out (Rd.nil _ _ _ _)).mono ?_; rintro e w9 ⟨rfl, b9⟩; have K9 := Lib.hid (K8.out.below b9 K8.out.lt); have Z0 := Lib.hid (Y0.out.below b9 Y0.out.lt); have Z1 := Lib.hid (Y1.out.below b9 Y1.out.lt); have HA9 := Lib.hid (HA8.out.trans (b9.mono HA8.out.size)); have hc2 := HSt.out _ (HC8.out.trans (b9.mono HC8.out.size)); have HC9 := Lib.hid (HC8.out.trans (b9.mono HC8.out.size)); clear b9
    refine hK.out _ _ ?_ (fun hHeld => ?_)
    · exact ⟨hc2, (K9.out.cell 0).trans rfl, (K9.out.cell 1).trans rfl, (K9.out.cell 2).trans rfl, (K9.out.cell 3).trans rfl, (Z0.out.cell 0).trans rfl, (Z0.out.cell 1).trans rfl, (Z0.out.cell 2).trans rfl, (Z0.out.cell 3).trans rfl, (Z1.out.cell 0).trans rfl, (Z1.out.cell 1).trans rfl, (Z1.out.cell 2).trans rfl⟩
    clear hK K
    try simp only [Act.put, List.getElem_toArray, List.getElem_cons_succ, List.getElem_cons_zero, List.setIfInBounds_toArray, List.set_cons_zero, List.set_cons_succ]
    refine wpAnyH_take (i := 19) (oi := _) (v := ?_) rfl (by kernel_rfl) (by kernel_rfl) (by kernel_rfl) (fun _ _ _ h => h) (Or.inl ⟨by rfl, ?_⟩) (by assumption) ?_
    rotate_left
    · (intro w hSw; (try dsimp only at hSw); go_simp <;> with_reducible rfl)
    try simp only [Act.put, List.getElem_toArray, List.getElem_cons_succ, List.getElem_cons_zero, List.setIfInBounds_toArray, List.set_cons_zero, List.set_cons_succ]
    refine wpAnyH_take (i := 20) (oi := _) (v := ?_) rfl (by kernel_rfl) (by kernel_rfl) (by kernel_rfl) (fun _ _ _ h => h) (Or.inl ⟨by rfl, ?_⟩) (by assumption) ?_
    rotate_left
    · (intro w hSw; (try dsimp only at hSw); go_simp <;> with_reducible rfl)
    try simp only [Act.put, List.getElem_toArray, List.getElem_cons_succ, List.getElem_cons_zero, List.setIfInBounds_toArray, List.set_cons_zero, List.set_cons_succ]
    refine wpAnyH_ready (rs := [21]) (by kernel_rfl) (by simp) ?_
    refine AllReadyH.cons (o := _) rfl (fun K hK => ?_) AllReadyH.nil
    go_simp; refine (openk.lives_any w9).mono ?_; rintro e w10 ⟨rfl, b10⟩; have K10 := Lib.hid (K9.out.below b10 K9.out.lt); have V0 := Lib.hid (Z0.out.below b10 Z0.out.lt); have V1 := Lib.hid (Z1.out.below b10 Z1.out.lt); have HA10 := Lib.hid (HA9.out.trans (b10.mono HA9.out.size)); have hc3 := HSt.out _ (HC9.out.trans (b10.mono HC9.out.size)); clear b10
    refine hK.out _ _ ?_ (fun hHeld => ?_)
    · exact ⟨hc3, (K10.out.cell 0).trans rfl, (K10.out.cell 1).trans rfl, (K10.out.cell 2).trans rfl, (K10.out.cell 3).trans rfl, (V0.out.cell 0).trans rfl, (V0.out.cell 1).trans rfl, (V0.out.cell 2).trans rfl, (V0.out.cell 3).trans rfl, (V1.out.cell 0).trans rfl, (V1.out.cell 1).trans rfl, (V1.out.cell 2).trans rfl⟩
    clear hK K
    try simp only [Act.put, List.getElem_toArray, List.getElem_cons_succ, List.getElem_cons_zero, List.setIfInBounds_toArray, List.set_cons_zero, List.set_cons_succ]
    refine wpAnyH_take (i := 22) (oi := _) (v := ?_) rfl (by kernel_rfl) (by kernel_rfl) (by kernel_rfl) (fun _ _ _ h => h) (Or.inl ⟨by rfl, ?_⟩) (by assumption) ?_
    rotate_left
    · (intro w hSw; (try dsimp only at hSw); go_simp <;> with_reducible rfl)
    try simp only [Act.put, List.getElem_toArray, List.getElem_cons_succ, List.getElem_cons_zero, List.setIfInBounds_toArray, List.set_cons_zero, List.set_cons_succ]
    refine wpAnyH_take (i := 23) (oi := _) (v := ?_) rfl (by kernel_rfl) (by kernel_rfl) (by kernel_rfl) (fun _ _ _ h => h) (Or.inl ⟨by rfl, ?_⟩) (by assumption) ?_
    rotate_left
    · (intro w hSw; (try dsimp only at hSw); go_simp <;> with_reducible rfl)
    try simp only [Act.put, List.getElem_toArray, List.getElem_cons_succ, List.getElem_cons_zero, List.setIfInBounds_toArray, List.set_cons_zero, List.set_cons_succ]
    refine wpAnyH_done (by kernel_rfl) ?_ _
    refine NoPanic.normal ?_
    go_wp2_with fail
    go_ret
    exact ⟨rfl, HA10.out⟩

set_option maxRecDepth 100000 in
theorem walk {H : Type} {enc : TypeId × Value → H} {W : World} {base : Nat} {v0 : Value} {d0 : DataW H} {p0 : List MemPlace}
    (hv0 : Value.okWide Try.prog W .any base 52 v0) (h0 : DataW.Trod enc Try.prog W 0 (fun _ => true) true 52 v0 d0 p0) :
    Calls Try.prog 12 #[v0] W fun e w' => e = .returned (.bool true) ∧ Below W.heap.size W w' := by
  obtain ⟨c0, c1, c2, c3, y0, y1, y2, y3, m, rfl, rfl, rfl, hy0, hy1, hy2, hy3⟩ := Go.Joins.open_agg4 Try.underlying52 (by kernel_rfl) (by kernel_rfl) hv0 h0
  obtain ⟨n, e0, _, wn⟩ := DataW.trod_int Try.underlying33 hy0
  obtain ⟨hold, e1, _, _⟩ := DataW.trod_int Try.underlying3 hy1
  obtain ⟨id, e2, _, wi⟩ := DataW.trod_int Try.underlying33 hy2
  obtain ⟨four, e3, _⟩ := DataW.trod_bool Try.underlying4 hy3
  simp at e0 e1 e2 e3
  subst e0 e1 e2 e3
  rcases hg : goodB n hold id four with _ | _
  · exact core_no n hold id four W hg
  · have b1 := wf_u32 wn
    have b2 := wf_u32 wi
    have hp := good_parts n hold id four hg
    obtain ⟨n', rfl⟩ := Int.eq_ofNat_of_zero_le b1.1
    obtain ⟨id', rfl⟩ := Int.eq_ofNat_of_zero_le b2.1
    obtain ⟨h', rfl⟩ := Int.eq_ofNat_of_zero_le hp.2.2.2.1
    exact core_yes n' h' id' four W (by omega) (by omega) (by omega) hg
end Go.Proofs.Ytajilbapjpfloaa.openWrites
