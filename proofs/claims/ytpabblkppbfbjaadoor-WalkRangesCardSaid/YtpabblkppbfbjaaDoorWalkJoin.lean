/- What walk.joined returns of two good prefixes. Condition: both are good. -/
import Derived.Test.YtpabblkppbfbjaaDoorWalkTops
import Derived.Test.YtpabblkppbfbjaaDoorKeyCommon
namespace Go.Proofs.YtpabblkppbfbjaaDoor.wlk
open Go.RowKit Go.Proofs.YtpabblkppbfbjaaDoor.kit Go.Proofs.YtpabblkppbfbjaaDoor.pfx Go.Proofs.YtpabblkppbfbjaaDoor.mem Go.Proofs.YtpabblkppbfbjaaDoor.foot Go.Proofs.YtpabblkppbfbjaaDoor.tri Go.Proofs.YtpabblkppbfbjaaDoor.srt
set_option linter.unusedVariables false
set_option linter.unusedSimpArgs false

/-- a struct and a value handed back -/
theorem res_cv {P : Program} {fn : Func} {p m : Tmp} {ty : TypeId} (h : fn.results = #[.cell p ty, .tmp m]) (tmps : Array Value) (w : World) (g : Nat) (t : TypeId) (v : Value) (cs : Array Value) (fr : Nat × Nat) (d : TypeDesc)
    (hm : tmps.getD m undef = v) (hp : tmps.getD p undef = .pointer (some ⟨g, 0, none⟩)) (hg : w.heap[g]? = some (.cells cs t fr))
    (hu : P.underlying ty = some d) (hd : (match d with | .struct _ | .array _ _ => true | _ => false) = true) (hi : (P.info? ty).map (·.size) = some cs.size) :
    (results fn tmps).run P w = .ok (.tuple #[.agg cs, v]) w := by
  have hp' : tmps[p]?.getD undef = .pointer (some ⟨g, 0, none⟩) := by simpa using hp
  have hm' : tmps[m]?.getD undef = v := by simpa using hm
  simp [results, h, hp', hm', asAddr, run_loadVar_row w g t ty cs fr d hg hu hd hi]

/-- are two the halves of one? -/
def joinB (a b : Key) : Bool := decide (a.length = b.length ∧ (lcp a b).length + 1 = a.length)

set_option maxRecDepth 100000 in
set_option maxHeartbeats 2000000 in
theorem joined_key (a b : Key) (ha : a.length ≤ 32) (hb : b.length ≤ 32) (w : World) :
    Calls Tryd.prog 24 #[.agg #[.int .u32 (adr a : Int), .int .i64 (a.length : Int)], .agg #[.int .u32 (adr b : Int), .int .i64 (b.length : Int)]] w fun e w' => e = .returned (.tuple #[.agg #[.int .u32 (adr (lcp a b) : Int), .int .i64 ((lcp a b).length : Int)], .bool (joinB a b)]) ∧ Below w.heap.size w w' := by
  have HC := Lib.hid (common_any a b ha hb)
  obtain ⟨j, hj⟩ : ∃ j, j = joinB a b := ⟨_, rfl⟩
  rw [← hj]
  have HJ : Hid (j = decide (a.length = b.length ∧ (lcp a b).length + 1 = a.length)) := hj
  clear hj
  generalize adr (lcp a b) = ac at *
  generalize (lcp a b).length = lc at *
  have hla : a.length ≤ 32 := ha
  have hlb : b.length ≤ 32 := hb
  generalize adr a = xa at *
  generalize adr b = xb at *
  generalize a.length = n at *
  generalize b.length = m at *
  have HB0 : Hid (Below w.heap.size w (((w.alloc (.cells #[.int .u32 (xa : Int), .int .i64 (n : Int)] 24)).alloc (.cells #[.int .u32 (xb : Int), .int .i64 (m : Int)] 24)).alloc (.cells #[.int .u32 0, .int .i64 0] 24))) := (((Below.refl _ _).alloc (Nat.le_refl _) _).alloc (by simp) _).alloc (by simp; omega) _
  have K0 : Hid (Bk (((w.alloc (.cells #[.int .u32 (xa : Int), .int .i64 (n : Int)] 24)).alloc (.cells #[.int .u32 (xb : Int), .int .i64 (m : Int)] 24)).alloc (.cells #[.int .u32 0, .int .i64 0] 24)) w.heap.size 24 #[.int .u32 (xa : Int), .int .i64 (n : Int)]) := (Bk.new w _ _).below (((Below.refl _ _).alloc (Nat.le_refl _) _).alloc (by simp) _) (by simp)
  have K1 : Hid (Bk (((w.alloc (.cells #[.int .u32 (xa : Int), .int .i64 (n : Int)] 24)).alloc (.cells #[.int .u32 (xb : Int), .int .i64 (m : Int)] 24)).alloc (.cells #[.int .u32 0, .int .i64 0] 24)) (w.heap.size + 1) 24 #[.int .u32 (xb : Int), .int .i64 (m : Int)]) := by
    have h := (Bk.new (w.alloc (.cells #[.int .u32 (xa : Int), .int .i64 (n : Int)] 24)) 24 #[.int .u32 (xb : Int), .int .i64 (m : Int)]).below ((Below.refl _ _).alloc (Nat.le_refl _) (.cells #[.int .u32 0, .int .i64 0] 24)) (by simp)
    rw [World.size_alloc] at h
    exact h
  have K2 : Hid (Bk (((w.alloc (.cells #[.int .u32 (xa : Int), .int .i64 (n : Int)] 24)).alloc (.cells #[.int .u32 (xb : Int), .int .i64 (m : Int)] 24)).alloc (.cells #[.int .u32 0, .int .i64 0] 24)) (w.heap.size + 1 + 1) 24 #[.int .u32 0, .int .i64 0]) := by
    have h := Bk.new ((w.alloc (.cells #[.int .u32 (xa : Int), .int .i64 (n : Int)] 24)).alloc (.cells #[.int .u32 (xb : Int), .int .i64 (m : Int)] 24)) 24 #[.int .u32 0, .int .i64 0]
    rw [World.size_alloc, World.size_alloc] at h
    exact h
  clear ha hb
  go_enter Tryd.func24, Tryd.ntmps24
  go_wp2_with fail
  refine (HC.out _).mono ?_; rintro e w1 ⟨rfl, hb1⟩
  have k0 := K0.out.below hb1 K0.out.lt
  have k1 := K1.out.below hb1 K1.out.lt
  have k2 := K2.out.below hb1 K2.out.lt
  have HB1 := Lib.hid (HB0.out.trans (hb1.mono HB0.out.size))
  have p := fun i => k0.cell i
  have pl := k0.lt
  have q := fun i => k1.cell i
  have ql := k1.lt
  have r := fun i => k2.cell i
  have rl := k2.lt
  have rf := fun i => k2.free i
  have H2 := Lib.hid k2
  clear k0 k1 k2 hb1 HB0 K0 K1 K2 HC
  have hw1 : IntKind.i64.wrap ((n : Int) - 1) = (n : Int) - 1 := IntWalk.i64_in _ (by omega)
  rcases (show (n = m ∧ lc + 1 = n) ∨ (n = m ∧ lc + 1 ≠ n) ∨ n ≠ m from by omega) with ⟨h1, h2⟩ | ⟨h1, h2⟩ | h1
  case' inl =>
    have e1 : ((n : Int) == (m : Int)) = true := by rw [beq_iff_eq, h1]
    have e2 : ((lc : Int) == (n : Int) - 1) = true := by rw [beq_iff_eq]; omega
    have hj : j = true := by rw [HJ.out]; exact decide_eq_true ⟨h1, h2⟩
    clear h2
  case' inr.inl =>
    have e1 : ((n : Int) == (m : Int)) = true := by rw [beq_iff_eq, h1]
    have e2 : ((lc : Int) == (n : Int) - 1) = false := by rw [beq_eq_false_iff_ne]; omega
    have hj : j = false := by rw [HJ.out]; exact decide_eq_false fun h => h2 h.2
    clear h2
  case' inr.inr =>
    have e1 : ((n : Int) == (m : Int)) = false := by rw [beq_eq_false_iff_ne]; omega
    have hj : j = false := by rw [HJ.out]; exact decide_eq_false fun h => h1 h.1
  all_goals
    clear h1 HJ
    subst hj
  case' inl =>
    go_wp2_with fail
    go_region_held3 (fun w' => w'.cell? ⟨w1.heap.size, 0, none⟩ = some (.int .u32 (ac : Int)) ∧ w'.cell? ⟨w1.heap.size, 1, none⟩ = some (.int .i64 (lc : Int)) ∧ w'.cell? ⟨w.heap.size, 1, none⟩ = some (.int .i64 (n : Int)) ∧ w'.cell? ⟨w.heap.size + 1, 1, none⟩ = some (.int .i64 (m : Int))) (exact ⟨by go_simp, by go_simp, by go_simp, by go_simp⟩) (fail)
  case' inr.inl =>
    go_wp2_with fail
    go_region_held3 (fun w' => w'.cell? ⟨w1.heap.size, 0, none⟩ = some (.int .u32 (ac : Int)) ∧ w'.cell? ⟨w1.heap.size, 1, none⟩ = some (.int .i64 (lc : Int)) ∧ w'.cell? ⟨w.heap.size, 1, none⟩ = some (.int .i64 (n : Int)) ∧ w'.cell? ⟨w.heap.size + 1, 1, none⟩ = some (.int .i64 (m : Int))) (exact ⟨by go_simp, by go_simp, by go_simp, by go_simp⟩) (fail)
  case' inr.inr =>
    go_wp2_with fail
    refine wp_region_held_drew (S := fun w' => w'.cell? ⟨w1.heap.size, 0, none⟩ = some (.int .u32 (ac : Int)) ∧ w'.cell? ⟨w1.heap.size, 1, none⟩ = some (.int .i64 (lc : Int)) ∧ w'.cell? ⟨w.heap.size, 1, none⟩ = some (.int .i64 (n : Int)) ∧ w'.cell? ⟨w.heap.size + 1, 1, none⟩ = some (.int .i64 (m : Int))) (by kernel_rfl) ?_ (fun hHeld => ?_)
    · exact ⟨by go_simp, by go_simp, by go_simp, by go_simp⟩
    refine wpAnyH_take (i := 0) (oi := _) (v := ?_) rfl (by kernel_rfl) (by kernel_rfl) (by kernel_rfl) (fun _ _ _ h => h) (Or.inl ⟨by rfl, ?_⟩) (by assumption) ?_
    rotate_left
    · (intro w hSw; (try dsimp only at hSw); go_simp <;> with_reducible rfl)
    try simp only [Act.put, List.getElem_toArray, List.getElem_cons_succ, List.getElem_cons_zero, List.setIfInBounds_toArray, List.set_cons_zero, List.set_cons_succ]
    refine wpAnyH_take (i := 1) (oi := _) (v := ?_) rfl (by kernel_rfl) (by kernel_rfl) (by kernel_rfl) (fun _ _ _ h => h) (Or.inl ⟨by rfl, ?_⟩) (by assumption) ?_
    rotate_left
    · (intro w hSw; (try dsimp only at hSw); go_simp <;> with_reducible rfl)
    try simp only [Act.put, List.getElem_toArray, List.getElem_cons_succ, List.getElem_cons_zero, List.setIfInBounds_toArray, List.set_cons_zero, List.set_cons_succ]
    refine wpAnyH_take (i := 2) (oi := _) (v := ?_) rfl (by kernel_rfl) (by kernel_rfl) (by kernel_rfl) (fun _ _ _ h => h) (Or.inl ⟨by rfl, ?_⟩) (by assumption) ?_
    rotate_left
    · (intro w hSw; (try dsimp only at hSw); go_simp <;> with_reducible rfl)
    try simp only [Act.put, List.getElem_toArray, List.getElem_cons_succ, List.getElem_cons_zero, List.setIfInBounds_toArray, List.set_cons_zero, List.set_cons_succ]
    refine wpAnyH_take (i := 3) (oi := _) (v := ?_) rfl (by kernel_rfl) (by kernel_rfl) (by kernel_rfl) (fun _ _ _ h => h) (Or.inl ⟨by rfl, ?_⟩) (by assumption) ?_
    rotate_left
    · (intro w hSw; (try dsimp only at hSw); go_simp <;> with_reducible rfl)
    try simp only [Act.put, List.getElem_toArray, List.getElem_cons_succ, List.getElem_cons_zero, List.setIfInBounds_toArray, List.set_cons_zero, List.set_cons_succ]
    refine wpAnyH_take (i := 4) (oi := _) (v := ?_) rfl (by kernel_rfl) (by kernel_rfl) (by kernel_rfl) (fun _ _ _ h => h) (Or.inl ⟨by rfl, ?_⟩) (by assumption) ?_
    rotate_left
    · (intro w hSw; (try dsimp only at hSw); go_simp <;> with_reducible rfl)
    try simp only [Act.put, List.getElem_toArray, List.getElem_cons_succ, List.getElem_cons_zero, List.setIfInBounds_toArray, List.set_cons_zero, List.set_cons_succ]
    refine wpAnyH_take (i := 5) (oi := _) (v := ?_) rfl (by kernel_rfl) (by kernel_rfl) (by kernel_rfl) (fun _ _ _ h => h) (Or.inl ⟨by rfl, ?_⟩) (by assumption) ?_
    rotate_left
    · (intro w hSw; (try dsimp only at hSw); go_simp <;> with_reducible rfl)
    try simp only [Act.put, List.getElem_toArray, List.getElem_cons_succ, List.getElem_cons_zero, List.setIfInBounds_toArray, List.set_cons_zero, List.set_cons_succ]
    refine wpAnyH_take (i := 6) (oi := _) (v := ?_) rfl (by kernel_rfl) (by kernel_rfl) (by kernel_rfl) (fun _ _ _ h => h) (Or.inl ⟨by rfl, ?_⟩) (by assumption) ?_
    rotate_left
    · (intro w hSw; (try dsimp only at hSw); go_simp <;> with_reducible rfl)
    try simp only [Act.put, List.getElem_toArray, List.getElem_cons_succ, List.getElem_cons_zero, List.setIfInBounds_toArray, List.set_cons_zero, List.set_cons_succ]
    refine wpAnyH_take (i := 7) (oi := _) (v := undef) rfl (by kernel_rfl) (by kernel_rfl) (by kernel_rfl) (fun _ _ _ h => h) (Or.inr ⟨by rfl, rfl⟩) (by assumption) ?_
    try simp only [Act.put, List.getElem_toArray, List.getElem_cons_succ, List.getElem_cons_zero, List.setIfInBounds_toArray, List.set_cons_zero, List.set_cons_succ]
    refine wpAnyH_take (i := 8) (oi := _) (v := undef) rfl (by kernel_rfl) (by kernel_rfl) (by kernel_rfl) (fun _ _ _ h => h) (Or.inr ⟨by rfl, rfl⟩) (by assumption) ?_
    try simp only [Act.put, List.getElem_toArray, List.getElem_cons_succ, List.getElem_cons_zero, List.setIfInBounds_toArray, List.set_cons_zero, List.set_cons_succ]
    refine wpAnyH_take (i := 9) (oi := _) (v := undef) rfl (by kernel_rfl) (by kernel_rfl) (by kernel_rfl) (fun _ _ _ h => h) (Or.inr ⟨by rfl, rfl⟩) (by assumption) ?_
    try simp only [Act.put, List.getElem_toArray, List.getElem_cons_succ, List.getElem_cons_zero, List.setIfInBounds_toArray, List.set_cons_zero, List.set_cons_succ]
    refine wpAnyH_take (i := 10) (oi := _) (v := undef) rfl (by kernel_rfl) (by kernel_rfl) (by kernel_rfl) (fun _ _ _ h => h) (Or.inr ⟨by rfl, rfl⟩) (by assumption) ?_
    try simp only [Act.put, List.getElem_toArray, List.getElem_cons_succ, List.getElem_cons_zero, List.setIfInBounds_toArray, List.set_cons_zero, List.set_cons_succ]
    refine wpAnyH_take (i := 11) (oi := _) (v := undef) rfl (by kernel_rfl) (by kernel_rfl) (by kernel_rfl) (fun _ _ _ h => h) (Or.inr ⟨by rfl, rfl⟩) (by assumption) ?_
    try simp only [Act.put, List.getElem_toArray, List.getElem_cons_succ, List.getElem_cons_zero, List.setIfInBounds_toArray, List.set_cons_zero, List.set_cons_succ]
    refine wpAnyH_take (i := 12) (oi := _) (v := undef) rfl (by kernel_rfl) (by kernel_rfl) (by kernel_rfl) (fun _ _ _ h => h) (Or.inr ⟨by rfl, rfl⟩) (by assumption) ?_
    try simp only [Act.put, List.getElem_toArray, List.getElem_cons_succ, List.getElem_cons_zero, List.setIfInBounds_toArray, List.set_cons_zero, List.set_cons_succ]
    refine wpAnyH_take (i := 13) (oi := _) (v := ?_) rfl (by kernel_rfl) (by kernel_rfl) (by kernel_rfl) (fun _ _ _ h => h) (Or.inl ⟨by rfl, ?_⟩) (by assumption) ?_
    rotate_left
    · (intro w hSw; (try dsimp only at hSw); go_simp <;> with_reducible rfl)
    try simp only [Act.put, List.getElem_toArray, List.getElem_cons_succ, List.getElem_cons_zero, List.setIfInBounds_toArray, List.set_cons_zero, List.set_cons_succ]
    refine wpAnyH_ready (rs := [14]) (by kernel_rfl) (by simp) ?_
    refine AllReadyH.cons (o := _) rfl (fun K hK => ?_) AllReadyH.nil
    go_simp
    refine hK.out _ _ ?_ (fun hHeld => ?_)
    · exact ⟨by go_simp, by go_simp, by go_simp, by go_simp⟩
    clear hK K
    try simp only [Act.put, List.getElem_toArray, List.getElem_cons_succ, List.getElem_cons_zero, List.setIfInBounds_toArray, List.set_cons_zero, List.set_cons_succ]
    refine wpAnyH_take (i := 15) (oi := _) (v := ?_) rfl (by kernel_rfl) (by kernel_rfl) (by kernel_rfl) (fun _ _ _ h => h) (Or.inl ⟨by rfl, ?_⟩) (by assumption) ?_
    rotate_left
    · (intro w hSw; (try dsimp only at hSw); go_simp <;> with_reducible rfl)
    try simp only [Act.put, List.getElem_toArray, List.getElem_cons_succ, List.getElem_cons_zero, List.setIfInBounds_toArray, List.set_cons_zero, List.set_cons_succ]
    refine wpAnyH_done (by kernel_rfl) ?_ _
  all_goals
    go_wp2_with fail
    have c0 := stores_all [.int .u32 (ac : Int), .int .i64 (lc : Int)] H2.out rfl
    have c1 := Bk.below c0 ((Below.refl _ _).alloc (Nat.le_refl _) (.cells #[.int .u32 (ac : Int), .int .i64 (lc : Int)] 24)) c0.lt
    simp only [stores, Nat.zero_add] at c1
    refine bodyPost_ret (res_cv rfl _ _ (w.heap.size + 1 + 1) 24 _ #[.int .u32 (ac : Int), .int .i64 (lc : Int)] (0, 0) _ rfl rfl (hpd c1) Tryd.underlying24 rfl info_pf2) rfl ?_
    have hs := ((HB1.out.setCell (p := ⟨w.heap.size + 1 + 1, 0, none⟩) (by show w.heap.size ≤ w.heap.size + 1 + 1; omega) (.int .u32 (ac : Int))).setCell (p := ⟨w.heap.size + 1 + 1, 1, none⟩) (by show w.heap.size ≤ w.heap.size + 1 + 1; omega) (.int .i64 (lc : Int)))
    exact ⟨rfl, (hs.alloc hs.size _).drew⟩
end Go.Proofs.YtpabblkppbfbjaaDoor.wlk
