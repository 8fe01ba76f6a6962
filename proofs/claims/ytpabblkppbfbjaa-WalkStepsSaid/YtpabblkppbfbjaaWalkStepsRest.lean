/- The two loops of the law WalkSteps. Conditions as the lemma states. Printed by gen_walksteps.py. -/
import Derived.Test.YtpabblkppbfbjaaWalkStepsMath
import Derived.Test.YtpabblkppbfbjaaCode
import Derived.Deep.RegionLaw
namespace Go.Proofs.Ytpabblkppbfbjaa.walkSteps
open Go.RowKit Go.Proofs.Ytpabblkppbfbjaa.kit Go.Proofs.Ytpabblkppbfbjaa.pfx Go.Proofs.Ytpabblkppbfbjaa.mem Go.Proofs.Ytpabblkppbfbjaa.foot Go.Proofs.Ytpabblkppbfbjaa.tri Go.Proofs.Ytpabblkppbfbjaa.srt Go.Proofs.Ytpabblkppbfbjaa.wlk Go.Proofs.Ytpabblkppbfbjaa.code
set_option linter.unusedVariables false
set_option linter.unusedSimpArgs false

theorem cmp_less (x y : Key) (h : plt (kp x) (kp y)) (w : World) :
    Calls Try.prog 25 #[.agg #[.int .u32 (adr x : Int), .int .i64 (x.length : Int)], .agg #[.int .u32 (adr y : Int), .int .i64 (y.length : Int)]] w fun e w' => e = .returned (.int .i64 (-1)) ∧ Below w.heap.size w w' := by
  unfold plt kp at h
  dsimp only at h
  rcases h with h | ⟨h1, h2⟩
  · go_enter Try.func25, Try.ntmps25
    go_wp2_with fail
    go_ret
    exact ⟨rfl, Go.Joins.below_alloc2 w _ _⟩
  · have h2 : x.length < y.length := by omega
    rw [h1]
    clear h1
    go_enter Try.func25, Try.ntmps25
    go_wp2_with fail
    go_ret
    exact ⟨rfl, Go.Joins.below_alloc2 w _ _⟩

set_option maxRecDepth 100000 in
set_option maxHeartbeats 4000000 in
theorem second {W w0 : World} (k : Key) (D qa g0 g1 c : Nat) (qn : Int) (A : Option Addr) (s : List Pf) (hk : k.length ≤ 32) (hD : D ≤ 8) (hqa : qa < 4294967296) (hs : IsSort gdP (pfs (stepsK D k)) s)
    (hrow : Own w0 35 2 A s.length c (fv s)) (hp : Bk w0 g0 35 #[.int .u32 (adr k : Int), .int .i64 (k.length : Int)]) (hq : Bk w0 g1 35 #[.int .u32 (qa : Int), .int .i64 qn]) (hW : Below W.heap.size W w0) (hsz : s.length < 1024)
    (u0 u2 u4 u9 u10 u11 u12 u13 u14 u15 u16 u17 u18 u19 u20 u21 u22 u23 u24 u25 u26 u27 u28 u29 u30 u31 u32 u33 u34 u35 u36 u37 u38 u39 u40 u41 u42 u43 u44 u45 u46 u47 u48 u49 u50 u51 u52 u53 u54 u55 u56 u57 u58 u59 u60 u61 u62 u63 u64 u65 u66 u67 u68 u69 u70 u71 u72 u73 u74 u75 u76 u77 u78 u79 u80 u81 u82 u83 u84 u85 u86 u87 u88 u89 u90 u91 u92 u93 u94 u95 u96 u97 u98 u99 u100 u101 u102 u103 u104 u105 u106 u107 u108 u109 u110 u111 u112 u113 u114 u115 u116 u117 u118 u119 u120 u121 u122 u123 u124 u125 : Value) (K : Act → World → Prop) (hK : ∀ a w, Code.wp Try.prog (right (right (right (right (right (right (right (right (right (bodyOf Try.f5)))))))))) (bodyPost Try.prog Try.f5 fun e w' => e = .returned (.bool true) ∧ Below W.heap.size W w') a w → K a w) :
    Code.wp Try.prog (left (right (right (right (right (right (right (right (right (bodyOf Try.f5))))))))))
      (Exit.then K (bodyPost Try.prog Try.f5 fun e w' => e = .returned (.bool true) ∧ Below W.heap.size W w')) { tmps := #[u0, .int .i64 (D : Int), u2, .pointer (some ⟨g0, 0, none⟩), u4, .pointer (some ⟨g1, 0, none⟩), .bool false, .slice A s.length c, .int .i64 (s.length : Int), u9, u10, u11, u12, u13, u14, u15, u16, u17, u18, u19, u20, u21, u22, u23, u24, u25, u26, u27, u28, u29, u30, u31, u32, u33, u34, u35, u36, u37, u38, u39, u40, u41, u42, u43, u44, u45, u46, u47, u48, u49, u50, u51, u52, u53, u54, u55, u56, u57, u58, u59, u60, u61, u62, u63, u64, u65, u66, u67, u68, u69, u70, u71, u72, u73, u74, u75, u76, u77, u78, u79, u80, u81, u82, u83, u84, u85, u86, u87, u88, u89, u90, u91, u92, u93, u94, u95, u96, u97, u98, u99, u100, u101, u102, u103, u104, u105, u106, u107, u108, u109, u110, u111, u112, u113, u114, u115, u116, u117, u118, u119, u120, u121, u122, u123, u124, u125], defers := [] } w0 := by
  have hin := sort_iff hk hs qa qn hqa
  have HIn := Lib.hid hin
  have HSr := Lib.hid (And.intro hs hk)
  have HR := Lib.hid hrow
  have HP := Lib.hid hp
  have HQb := Lib.hid hq
  have HW := Lib.hid hW
  have HCv := Lib.hid (fun w => ref_Covers (adr k) k.length qa qn (adr_lt hk) hqa w)
  clear hin hs hrow hp hq hW
  simp only [left, right, bodyOf, Try.f5] at hK ⊢
  go_wp2_with fail
  go_loopw [6, 11, 12] (fun v6 v11 v12 wr => ∃ i : Nat, i ≤ s.length ∧ v6 = .bool false ∧ v11 = .bool (decide ((qa, qn) ∈ s.take i)) ∧ v12 = .int .i64 (i : Int) ∧ Below w0.heap.size w0 wr) (fun _ _ v12 _ => s.length - (intOf v12).toNat)
  case atStart => exact ⟨0, Nat.zero_le _, rfl, by simp, rfl, Below.refl _ _⟩
  case round =>
    obtain ⟨i, hi, rfl, rfl, rfl, hbr⟩ := hrel
    have HBr := Lib.hid hbr
    clear hbr
    by_cases hlt : i < s.length
    · obtain ⟨x, hx⟩ : ∃ x, s[i]? = some x := ⟨s[i], List.getElem?_eq_getElem hlt⟩
      obtain ⟨y, rfl, hy1, hy2, hy3⟩ := (sort_mem HSr.out.2 HSr.out.1 x).1 (List.mem_of_getElem? hx)
      obtain ⟨b, off, rfl⟩ : ∃ b off, A = some ⟨b, off, none⟩ := by
        obtain ⟨b, off, e, _⟩ := HR.out.rg.2 (by omega)
        exact ⟨b, off, e⟩
      have hrw := HR.out.bel HBr.out
      have hc := own_cells hrw i (kp y) hx
      have i0 := hc.1
      have i1 := hc.2
      have lb := own_lt hrw
      have hp2 := HP.out.below HBr.out HP.out.lt
      have p0 := hp2.cell 0
      have p1 := hp2.cell 1
      have lg0 := hp2.lt
      have hq2 := HQb.out.below HBr.out HQb.out.lt
      have q0 := hq2.cell 0
      have q1 := hq2.cell 1
      have lg1 := hq2.lt
      simp only [kp] at i0 i1
      simp at p0 p1 q0 q1
      have HCy := Lib.hid (fun w => ref_Covers (adr k) k.length (adr y) y.length (adr_lt HSr.out.2) (adr_lt hy3) w)
      rw [covers_key HSr.out.2 hy3, decide_eq_true hy1] at HCy
      obtain ⟨dy, hdy⟩ : ∃ dy : Nat, (y.length : Int) - (k.length : Int) = (dy : Int) := ⟨y.length - k.length, by have := hy1.length_le; omega⟩
      have hdD : dy ≤ D := by omega
      have hwd : IntKind.i64.wrap (dy : Int) = (dy : Int) := by rw [IntWalk.i64_left]; exact IntWalk.wrap64_in _ ⟨by omega, by omega⟩
      have hgt : decide (D < dy) = false := by simp; omega
      have HX := Lib.hid hx
      clear hx hc hrw hp2 hq2 hy1
      have hsi : (i : Int) < (s.length : Int) := by omega
      have htk : decide ((qa, qn) ∈ s.take (i + 1)) = (decide ((qa, qn) ∈ s.take i) || decide (qa = adr y ∧ qn = (y.length : Int))) := by
        rw [List.take_add_one, HX.out, Bool.eq_iff_iff]
        simp [kp, Prod.ext_iff]
      have HTk := Lib.hid htk
      clear htk
      obtain ⟨is, his⟩ : ∃ is, is = decide ((qa, qn) ∈ s.take i) := ⟨_, rfl⟩
      rw [← his] at HTk ⊢
      clear his
      rcases Nat.eq_zero_or_pos i with hi0 | hi0
      · have h0 : decide (0 < i) = false := by simp; omega
        clear hi0
        go_wp2_with fail
        refine wp_region_held_drew (S := (fun w' => w'.cell? ⟨g0, 0, none⟩ = some (.int .u32 (adr k : Int)) ∧ w'.cell? ⟨g0, 1, none⟩ = some (.int .i64 (k.length : Int)) ∧ w'.cell? ⟨b, off + i * 2, none⟩ = some (.int .u32 (adr y : Int)) ∧ w'.cell? ⟨b, off + i * 2 + 1, none⟩ = some (.int .i64 (y.length : Int)))) (by kernel_rfl) ?_ (fun hHeld => ?_)
        · exact ⟨by go_simp, by go_simp, by go_simp, by go_simp⟩
        refine wpAnyH_take (i := 0) (oi := _) (v := ?_) rfl (by kernel_rfl) (by kernel_rfl) (by kernel_rfl) (fun _ _ _ h => h) (Or.inl ⟨by rfl, ?_⟩) (by assumption) ?_
        rotate_left
        · (intro w hSw; (try dsimp only at hSw); go_simp <;> with_reducible rfl)
        try simp only [Act.put, List.getElem_toArray, List.getElem_cons_succ, List.getElem_cons_zero, List.setIfInBounds_toArray, List.set_cons_zero, List.set_cons_succ]
        refine wpAnyH_take (i := 1) (oi := _) (v := ?_) rfl (by kernel_rfl) (by kernel_rfl) (by kernel_rfl) (fun _ _ _ h => h) (Or.inl ⟨by rfl, ?_⟩) (by assumption) ?_
        rotate_left
        · (intro w hSw; (try dsimp only at hSw); go_simp <;> with_reducible rfl)
        try simp only [Act.put, List.getElem_toArray, List.getElem_cons_succ, List.getElem_cons_zero, List.setIfInBounds_toArray, List.set_cons_zero, List.set_cons_succ]
        refine wpAnyH_take (i := 2) (oi := _) (v := ?_) rfl (by kernel_rfl) (by kernel_rfl) (by kernel_rfl) (fun _ _ _ h => h) (Or.inl ⟨by rfl, ?_⟩) (by assumption) ?_
        rotate_left
        · (intro w hSw; (try dsimp only at hSw); go_simp <;> with_reducible rfl)
        try simp only [Act.put, List.getElem_toArray, List.getElem_cons_succ, List.getElem_cons_zero, List.setIfInBounds_toArray, List.set_cons_zero, List.set_cons_succ]
        refine wpAnyH_take (i := 3) (oi := _) (v := undef) rfl (by kernel_rfl) (by kernel_rfl) (by kernel_rfl) (fun _ _ _ h => h) (Or.inr ⟨by rfl, rfl⟩) (by assumption) ?_
        try simp only [Act.put, List.getElem_toArray, List.getElem_cons_succ, List.getElem_cons_zero, List.setIfInBounds_toArray, List.set_cons_zero, List.set_cons_succ]
        refine wpAnyH_take (i := 4) (oi := _) (v := undef) rfl (by kernel_rfl) (by kernel_rfl) (by kernel_rfl) (fun _ _ _ h => h) (Or.inr ⟨by rfl, rfl⟩) (by assumption) ?_
        try simp only [Act.put, List.getElem_toArray, List.getElem_cons_succ, List.getElem_cons_zero, List.setIfInBounds_toArray, List.set_cons_zero, List.set_cons_succ]
        refine wpAnyH_take (i := 5) (oi := _) (v := undef) rfl (by kernel_rfl) (by kernel_rfl) (by kernel_rfl) (fun _ _ _ h => h) (Or.inr ⟨by rfl, rfl⟩) (by assumption) ?_
        try simp only [Act.put, List.getElem_toArray, List.getElem_cons_succ, List.getElem_cons_zero, List.setIfInBounds_toArray, List.set_cons_zero, List.set_cons_succ]
        refine wpAnyH_take (i := 6) (oi := _) (v := undef) rfl (by kernel_rfl) (by kernel_rfl) (by kernel_rfl) (fun _ _ _ h => h) (Or.inr ⟨by rfl, rfl⟩) (by assumption) ?_
        try simp only [Act.put, List.getElem_toArray, List.getElem_cons_succ, List.getElem_cons_zero, List.setIfInBounds_toArray, List.set_cons_zero, List.set_cons_succ]
        refine wpAnyH_take (i := 7) (oi := _) (v := undef) rfl (by kernel_rfl) (by kernel_rfl) (by kernel_rfl) (fun _ _ _ h => h) (Or.inr ⟨by rfl, rfl⟩) (by assumption) ?_
        try simp only [Act.put, List.getElem_toArray, List.getElem_cons_succ, List.getElem_cons_zero, List.setIfInBounds_toArray, List.set_cons_zero, List.set_cons_succ]
        refine wpAnyH_take (i := 8) (oi := _) (v := undef) rfl (by kernel_rfl) (by kernel_rfl) (by kernel_rfl) (fun _ _ _ h => h) (Or.inr ⟨by rfl, rfl⟩) (by assumption) ?_
        try simp only [Act.put, List.getElem_toArray, List.getElem_cons_succ, List.getElem_cons_zero, List.setIfInBounds_toArray, List.set_cons_zero, List.set_cons_succ]
        refine wpAnyH_take (i := 9) (oi := _) (v := undef) rfl (by kernel_rfl) (by kernel_rfl) (by kernel_rfl) (fun _ _ _ h => h) (Or.inr ⟨by rfl, rfl⟩) (by assumption) ?_
        try simp only [Act.put, List.getElem_toArray, List.getElem_cons_succ, List.getElem_cons_zero, List.setIfInBounds_toArray, List.set_cons_zero, List.set_cons_succ]
        refine wpAnyH_take (i := 10) (oi := _) (v := undef) rfl (by kernel_rfl) (by kernel_rfl) (by kernel_rfl) (fun _ _ _ h => h) (Or.inr ⟨by rfl, rfl⟩) (by assumption) ?_
        try simp only [Act.put, List.getElem_toArray, List.getElem_cons_succ, List.getElem_cons_zero, List.setIfInBounds_toArray, List.set_cons_zero, List.set_cons_succ]
        refine wpAnyH_take (i := 11) (oi := _) (v := undef) rfl (by kernel_rfl) (by kernel_rfl) (by kernel_rfl) (fun _ _ _ h => h) (Or.inr ⟨by rfl, rfl⟩) (by assumption) ?_
        try simp only [Act.put, List.getElem_toArray, List.getElem_cons_succ, List.getElem_cons_zero, List.setIfInBounds_toArray, List.set_cons_zero, List.set_cons_succ]
        refine wpAnyH_take (i := 12) (oi := _) (v := undef) rfl (by kernel_rfl) (by kernel_rfl) (by kernel_rfl) (fun _ _ _ h => h) (Or.inr ⟨by rfl, rfl⟩) (by assumption) ?_
        try simp only [Act.put, List.getElem_toArray, List.getElem_cons_succ, List.getElem_cons_zero, List.setIfInBounds_toArray, List.set_cons_zero, List.set_cons_succ]
        refine wpAnyH_take (i := 13) (oi := _) (v := undef) rfl (by kernel_rfl) (by kernel_rfl) (by kernel_rfl) (fun _ _ _ h => h) (Or.inr ⟨by rfl, rfl⟩) (by assumption) ?_
        try simp only [Act.put, List.getElem_toArray, List.getElem_cons_succ, List.getElem_cons_zero, List.setIfInBounds_toArray, List.set_cons_zero, List.set_cons_succ]
        refine wpAnyH_take (i := 14) (oi := _) (v := ?_) rfl (by kernel_rfl) (by kernel_rfl) (by kernel_rfl) (fun _ _ _ h => h) (Or.inl ⟨by rfl, ?_⟩) (by assumption) ?_
        rotate_left
        · (intro w hSw; (try dsimp only at hSw); go_simp <;> with_reducible rfl)
        try simp only [Act.put, List.getElem_toArray, List.getElem_cons_succ, List.getElem_cons_zero, List.setIfInBounds_toArray, List.set_cons_zero, List.set_cons_succ]
        refine wpAnyH_take (i := 15) (oi := _) (v := ?_) rfl (by kernel_rfl) (by kernel_rfl) (by kernel_rfl) (fun _ _ _ h => h) (Or.inl ⟨by rfl, ?_⟩) (by assumption) ?_
        rotate_left
        · (intro w hSw; (try dsimp only at hSw); go_simp <;> with_reducible rfl)
        try simp only [Act.put, List.getElem_toArray, List.getElem_cons_succ, List.getElem_cons_zero, List.setIfInBounds_toArray, List.set_cons_zero, List.set_cons_succ]
        refine wpAnyH_take (i := 16) (oi := _) (v := ?_) rfl (by kernel_rfl) (by kernel_rfl) (by kernel_rfl) (fun _ _ _ h => h) (Or.inl ⟨by rfl, ?_⟩) (by assumption) ?_
        rotate_left
        · (intro w hSw; (try dsimp only at hSw); go_simp <;> with_reducible rfl)
        try simp only [Act.put, List.getElem_toArray, List.getElem_cons_succ, List.getElem_cons_zero, List.setIfInBounds_toArray, List.set_cons_zero, List.set_cons_succ]
        refine wpAnyH_take (i := 17) (oi := _) (v := ?_) rfl (by kernel_rfl) (by kernel_rfl) (by kernel_rfl) (fun _ _ _ h => h) (Or.inl ⟨by rfl, ?_⟩) (by assumption) ?_
        rotate_left
        · (intro w hSw; (try dsimp only at hSw); go_simp <;> with_reducible rfl)
        try simp only [Act.put, List.getElem_toArray, List.getElem_cons_succ, List.getElem_cons_zero, List.setIfInBounds_toArray, List.set_cons_zero, List.set_cons_succ]
        refine wpAnyH_take (i := 18) (oi := _) (v := ?_) rfl (by kernel_rfl) (by kernel_rfl) (by kernel_rfl) (fun _ _ _ h => h) (Or.inl ⟨by rfl, ?_⟩) (by assumption) ?_
        rotate_left
        · (intro w hSw; (try dsimp only at hSw); go_simp <;> with_reducible rfl)
        try simp only [Act.put, List.getElem_toArray, List.getElem_cons_succ, List.getElem_cons_zero, List.setIfInBounds_toArray, List.set_cons_zero, List.set_cons_succ]
        refine wpAnyH_take (i := 19) (oi := _) (v := ?_) rfl (by kernel_rfl) (by kernel_rfl) (by kernel_rfl) (fun _ _ _ h => h) (Or.inl ⟨by rfl, ?_⟩) (by assumption) ?_
        rotate_left
        · (intro w hSw; (try dsimp only at hSw); go_simp <;> with_reducible rfl)
        try simp only [Act.put, List.getElem_toArray, List.getElem_cons_succ, List.getElem_cons_zero, List.setIfInBounds_toArray, List.set_cons_zero, List.set_cons_succ]
        refine wpAnyH_take (i := 20) (oi := _) (v := ?_) rfl (by kernel_rfl) (by kernel_rfl) (by kernel_rfl) (fun _ _ _ h => h) (Or.inl ⟨by rfl, ?_⟩) (by assumption) ?_
        rotate_left
        · (intro w hSw; (try dsimp only at hSw); go_simp <;> with_reducible rfl)
        try simp only [Act.put, List.getElem_toArray, List.getElem_cons_succ, List.getElem_cons_zero, List.setIfInBounds_toArray, List.set_cons_zero, List.set_cons_succ]
        refine wpAnyH_ready (rs := [21]) (by kernel_rfl) (by simp) ?_
        refine AllReadyH.cons (o := _) rfl (fun K hK => ?_) AllReadyH.nil
        go_simp
        go_at_call 15
        refine (HCy.out _).mono ?_
        rintro e w7 ⟨rfl, hb7⟩
        have HB7 : Hid (Below wr.drew.heap.size wr.drew w7) := hb7
        have HS7 : Hid (w7.cell? ⟨g0, 0, none⟩ = some (.int .u32 (adr k : Int)) ∧ w7.cell? ⟨g0, 1, none⟩ = some (.int .i64 (k.length : Int)) ∧ w7.cell? ⟨b, off + i * 2, none⟩ = some (.int .u32 (adr y : Int)) ∧ w7.cell? ⟨b, off + i * 2 + 1, none⟩ = some (.int .i64 (y.length : Int))) := ⟨(hb7).cell (p := ⟨g0, 0, none⟩) lg0 |>.trans p0, (hb7).cell (p := ⟨g0, 1, none⟩) lg0 |>.trans p1, (hb7).cell (p := ⟨b, off + i * 2, none⟩) lb |>.trans i0, (hb7).cell (p := ⟨b, off + i * 2 + 1, none⟩) lb |>.trans i1⟩
        clear hb7
        refine hK.out _ _ ?_ (fun hHeld => ?_)
        · exact HS7.out
        clear hK K
        try simp only [Act.put, List.getElem_toArray, List.getElem_cons_succ, List.getElem_cons_zero, List.setIfInBounds_toArray, List.set_cons_zero, List.set_cons_succ]
        refine wpAnyH_take (i := 22) (oi := _) (v := ?_) rfl (by kernel_rfl) (by kernel_rfl) (by kernel_rfl) (fun _ _ _ h => h) (Or.inl ⟨by rfl, ?_⟩) (by assumption) ?_
        rotate_left
        · (intro w hSw; (try dsimp only at hSw); go_simp <;> with_reducible rfl)
        try simp only [Act.put, List.getElem_toArray, List.getElem_cons_succ, List.getElem_cons_zero, List.setIfInBounds_toArray, List.set_cons_zero, List.set_cons_succ]
        refine wpAnyH_take (i := 23) (oi := _) (v := ?_) rfl (by kernel_rfl) (by kernel_rfl) (by kernel_rfl) (fun _ _ _ h => h) (Or.inl ⟨by rfl, ?_⟩) (by assumption) ?_
        rotate_left
        · (intro w hSw; (try dsimp only at hSw); go_simp <;> with_reducible rfl)
        try simp only [Act.put, List.getElem_toArray, List.getElem_cons_succ, List.getElem_cons_zero, List.setIfInBounds_toArray, List.set_cons_zero, List.set_cons_succ]
        refine wpAnyH_take (i := 24) (oi := _) (v := ?_) rfl (by kernel_rfl) (by kernel_rfl) (by kernel_rfl) (fun _ _ _ h => h) (Or.inl ⟨by rfl, ?_⟩) (by assumption) ?_
        rotate_left
        · (intro w hSw; (try dsimp only at hSw); go_simp <;> with_reducible rfl)
        try simp only [Act.put, List.getElem_toArray, List.getElem_cons_succ, List.getElem_cons_zero, List.setIfInBounds_toArray, List.set_cons_zero, List.set_cons_succ]
        refine wpAnyH_take (i := 25) (oi := _) (v := ?_) rfl (by kernel_rfl) (by kernel_rfl) (by kernel_rfl) (fun _ _ _ h => h) (Or.inl ⟨by rfl, ?_⟩) (by assumption) ?_
        rotate_left
        · (intro w hSw; (try dsimp only at hSw); go_simp <;> with_reducible rfl)
        try simp only [Act.put, List.getElem_toArray, List.getElem_cons_succ, List.getElem_cons_zero, List.setIfInBounds_toArray, List.set_cons_zero, List.set_cons_succ]
        refine wpAnyH_take (i := 26) (oi := _) (v := ?_) rfl (by kernel_rfl) (by kernel_rfl) (by kernel_rfl) (fun _ _ _ h => h) (Or.inl ⟨by rfl, ?_⟩) (by assumption) ?_
        rotate_left
        · (intro w hSw; (try dsimp only at hSw); go_simp <;> with_reducible rfl)
        try simp only [Act.put, List.getElem_toArray, List.getElem_cons_succ, List.getElem_cons_zero, List.setIfInBounds_toArray, List.set_cons_zero, List.set_cons_succ]
        refine wpAnyH_take (i := 27) (oi := _) (v := ?_) rfl (by kernel_rfl) (by kernel_rfl) (by kernel_rfl) (fun _ _ _ h => h) (Or.inl ⟨by rfl, ?_⟩) (by assumption) ?_
        rotate_left
        · (intro w hSw; (try dsimp only at hSw); go_simp <;> with_reducible rfl)
        try simp only [Act.put, List.getElem_toArray, List.getElem_cons_succ, List.getElem_cons_zero, List.setIfInBounds_toArray, List.set_cons_zero, List.set_cons_succ]
        refine wpAnyH_take (i := 28) (oi := _) (v := ?_) rfl (by kernel_rfl) (by kernel_rfl) (by kernel_rfl) (fun _ _ _ h => h) (Or.inl ⟨by rfl, ?_⟩) (by assumption) ?_
        rotate_left
        · (intro w hSw; (try dsimp only at hSw); go_simp <;> with_reducible rfl)
        try simp only [Act.put, List.getElem_toArray, List.getElem_cons_succ, List.getElem_cons_zero, List.setIfInBounds_toArray, List.set_cons_zero, List.set_cons_succ]
        refine wpAnyH_take (i := 29) (oi := _) (v := ?_) rfl (by kernel_rfl) (by kernel_rfl) (by kernel_rfl) (fun _ _ _ h => h) (Or.inl ⟨by rfl, ?_⟩) (by assumption) ?_
        rotate_left
        · (intro w hSw; (try dsimp only at hSw); go_simp <;> with_reducible rfl)
        try simp only [Act.put, List.getElem_toArray, List.getElem_cons_succ, List.getElem_cons_zero, List.setIfInBounds_toArray, List.set_cons_zero, List.set_cons_succ]
        refine wpAnyH_take (i := 30) (oi := _) (v := ?_) rfl (by kernel_rfl) (by kernel_rfl) (by kernel_rfl) (fun _ _ _ h => h) (Or.inl ⟨by rfl, ?_⟩) (by assumption) ?_
        rotate_left
        · (intro w hSw; (try dsimp only at hSw); go_simp <;> with_reducible rfl)
        try simp only [Act.put, List.getElem_toArray, List.getElem_cons_succ, List.getElem_cons_zero, List.setIfInBounds_toArray, List.set_cons_zero, List.set_cons_succ]
        refine wpAnyH_take (i := 31) (oi := _) (v := ?_) rfl (by kernel_rfl) (by kernel_rfl) (by kernel_rfl) (fun _ _ _ h => h) (Or.inl ⟨by rfl, ?_⟩) (by assumption) ?_
        rotate_left
        · (intro w hSw; (try dsimp only at hSw); go_simp <;> with_reducible rfl)
        try simp only [Act.put, List.getElem_toArray, List.getElem_cons_succ, List.getElem_cons_zero, List.setIfInBounds_toArray, List.set_cons_zero, List.set_cons_succ]
        refine wpAnyH_take (i := 32) (oi := _) (v := ?_) rfl (by kernel_rfl) (by kernel_rfl) (by kernel_rfl) (fun _ _ _ h => h) (Or.inl ⟨by rfl, ?_⟩) (by assumption) ?_
        rotate_left
        · (intro w hSw; (try dsimp only at hSw); go_simp <;> with_reducible rfl)
        try simp only [Act.put, List.getElem_toArray, List.getElem_cons_succ, List.getElem_cons_zero, List.setIfInBounds_toArray, List.set_cons_zero, List.set_cons_succ]
        refine wpAnyH_take (i := 33) (oi := _) (v := ?_) rfl (by kernel_rfl) (by kernel_rfl) (by kernel_rfl) (fun _ _ _ h => h) (Or.inl ⟨by rfl, ?_⟩) (by assumption) ?_
        rotate_left
        · (intro w hSw; (try dsimp only at hSw); go_simp <;> with_reducible rfl)
        try simp only [Act.put, List.getElem_toArray, List.getElem_cons_succ, List.getElem_cons_zero, List.setIfInBounds_toArray, List.set_cons_zero, List.set_cons_succ]
        refine wpAnyH_take (i := 34) (oi := _) (v := ?_) rfl (by kernel_rfl) (by kernel_rfl) (by kernel_rfl) (fun _ _ _ h => h) (Or.inl ⟨by rfl, ?_⟩) (by assumption) ?_
        rotate_left
        · (intro w hSw; (try dsimp only at hSw); go_simp <;> with_reducible rfl)
        try simp only [Act.put, List.getElem_toArray, List.getElem_cons_succ, List.getElem_cons_zero, List.setIfInBounds_toArray, List.set_cons_zero, List.set_cons_succ]
        refine wpAnyH_take (i := 35) (oi := _) (v := ?_) rfl (by kernel_rfl) (by kernel_rfl) (by kernel_rfl) (fun _ _ _ h => h) (Or.inl ⟨by rfl, ?_⟩) (by assumption) ?_
        rotate_left
        · (intro w hSw; (try dsimp only at hSw); go_simp <;> with_reducible rfl)
        try simp only [Act.put, List.getElem_toArray, List.getElem_cons_succ, List.getElem_cons_zero, List.setIfInBounds_toArray, List.set_cons_zero, List.set_cons_succ]
        refine wpAnyH_done (by kernel_rfl) ?_ _

        have hb7 := HBr.out.drew.trans (HB7.out.mono HBr.out.size)
        have hx7 : Below wr.heap.size wr w7 := ((Below.refl wr.heap.size wr).drew).trans HB7.out
        have q0 := (hx7.cell (p := ⟨g1, 0, none⟩) lg1).trans q0
        have q1 := (hx7.cell (p := ⟨g1, 1, none⟩) lg1).trans q1
        have i0 := (hx7.cell (p := ⟨b, off + i * 2, none⟩) lb).trans i0
        have i1 := (hx7.cell (p := ⟨b, off + i * 2 + 1, none⟩) lb).trans i1
        have H7 := Lib.hid hb7
        have ql := Nat.lt_of_lt_of_le lg1 hx7.size
        have bl := Nat.lt_of_lt_of_le lb hx7.size
        clear hb7 hx7 HB7 HS7
        obtain ⟨r, hr⟩ : ∃ r, r = decide (qa = adr y ∧ qn = (y.length : Int)) := ⟨_, rfl⟩
        have HTr := HTk.out
        rw [← hr] at HTr
        have HT2 := Lib.hid HTr
        have hkk : ((((adr y : Int) == (qa : Int)) = true ∧ ((y.length : Int) == qn) = true) ∧ r = true) ∨ (((adr y : Int) == (qa : Int)) = false ∧ r = false) ∨ ((((adr y : Int) == (qa : Int)) = true ∧ ((y.length : Int) == qn) = false) ∧ r = false) := by
          rw [hr]
          by_cases ea : qa = adr y
          · by_cases en : qn = (y.length : Int)
            · left; exact ⟨⟨by rw [ea]; simp, by rw [en]; simp⟩, by simp [ea, en]⟩
            · right; right; exact ⟨⟨by rw [ea]; simp, by rw [beq_eq_false_iff_ne]; exact fun e => en e.symm⟩, by simp [en]⟩
          · right; left; exact ⟨by rw [beq_eq_false_iff_ne]; omega, by simp [ea]⟩
        clear HTr hr HTk
        cases is
        case' true =>
          clear hkk
          go_wp2_with fail
          go_quiet (fail)
          have HT3 : Hid (decide ((qa, qn) ∈ s.take (i + 1)) = true) := by rw [Hid, HT2.out]; rfl
        case' false => rcases hkk with ⟨⟨e3, e4⟩, rfl⟩ | ⟨e3, rfl⟩ | ⟨⟨e3, e4⟩, rfl⟩
        case' false.inl =>
          go_wp2_with fail
          go_quiet (fail)
          have HT3 : Hid (decide ((qa, qn) ∈ s.take (i + 1)) = true) := by rw [Hid, HT2.out]; rfl
        case' false.inr.inl =>
          go_wp2_with fail
          go_quiet (fail)
          have HT3 : Hid (decide ((qa, qn) ∈ s.take (i + 1)) = false) := by rw [Hid, HT2.out]; rfl
        case' false.inr.inr =>
          go_wp2_with fail
          go_quiet (fail)
          have HT3 : Hid (decide ((qa, qn) ∈ s.take (i + 1)) = false) := by rw [Hid, HT2.out]; rfl
        all_goals
          have H8 : Hid (Below w0.heap.size w0 (w7.drewN nq)) := below_drewN H7.out _
          go_wp2_with fail
          go_roundw
          case rel => exact ⟨i + 1, by omega, rfl, by rw [HT3.out], by go_num, H8.out⟩
          case measure => simp [intOf]; omega
      · obtain ⟨t, ht⟩ : ∃ t, i = t + 1 := ⟨i - 1, by omega⟩
        have hit : (i : Int) - 1 = (t : Int) := by omega
        have h0 : 0 < i := by omega
        obtain ⟨xz, hxz⟩ : ∃ xz, s[t]? = some xz := ⟨s[t], List.getElem?_eq_getElem (by omega)⟩
        obtain ⟨z, rfl, hz1, hz2, hz3⟩ := (sort_mem HSr.out.2 HSr.out.1 xz).1 (List.mem_of_getElem? hxz)
        have hc := own_cells (HR.out.bel HBr.out) t (kp z) hxz
        have j0 := hc.1
        have j1 := hc.2
        simp only [kp] at j0 j1
        have hpl : plt (kp z) (kp y) := by
          have h1 := HX.out
          obtain ⟨a1, e1⟩ := List.getElem?_eq_some_iff.1 h1
          obtain ⟨a2, e2⟩ := List.getElem?_eq_some_iff.1 hxz
          have h2 := List.pairwise_iff_getElem.1 HSr.out.1.strict t i a2 a1 (by omega)
          rw [e1, e2] at h2
          exact h2
        have HCm := Lib.hid (fun w => cmp_less z y hpl w)
        have hti : (0 : Int) ≤ (t : Int) := by omega
        have hwt : IntKind.i64.wrap (t : Int) = (t : Int) := by rw [IntWalk.i64_left]; exact IntWalk.wrap64_in _ ⟨by omega, by omega⟩
        have htl : (t : Int) < (s.length : Int) := by omega
        have HT := Lib.hid ht
        clear hi0 hxz hc hz1 hz2 hz3 hpl ht
        go_wp2_with fail
        refine wp_region_held_drew (S := (fun w' => w'.cell? ⟨g0, 0, none⟩ = some (.int .u32 (adr k : Int)) ∧ w'.cell? ⟨g0, 1, none⟩ = some (.int .i64 (k.length : Int)) ∧ w'.cell? ⟨b, off + i * 2, none⟩ = some (.int .u32 (adr y : Int)) ∧ w'.cell? ⟨b, off + i * 2 + 1, none⟩ = some (.int .i64 (y.length : Int)) ∧ w'.cell? ⟨b, off + t * 2, none⟩ = some (.int .u32 (adr z : Int)) ∧ w'.cell? ⟨b, off + t * 2 + 1, none⟩ = some (.int .i64 (z.length : Int)))) (by kernel_rfl) ?_ (fun hHeld => ?_)
        · exact ⟨by go_simp, by go_simp, by go_simp, by go_simp, by go_simp, by go_simp⟩
        refine wpAnyH_take (i := 0) (oi := _) (v := ?_) rfl (by kernel_rfl) (by kernel_rfl) (by kernel_rfl) (fun _ _ _ h => h) (Or.inl ⟨by rfl, ?_⟩) (by assumption) ?_
        rotate_left
        · (intro w hSw; (try dsimp only at hSw); go_simp <;> with_reducible rfl)
        try simp only [Act.put, List.getElem_toArray, List.getElem_cons_succ, List.getElem_cons_zero, List.setIfInBounds_toArray, List.set_cons_zero, List.set_cons_succ]
        refine wpAnyH_take (i := 1) (oi := _) (v := ?_) rfl (by kernel_rfl) (by kernel_rfl) (by kernel_rfl) (fun _ _ _ h => h) (Or.inl ⟨by rfl, ?_⟩) (by assumption) ?_
        rotate_left
        · (intro w hSw; (try dsimp only at hSw); go_simp <;> with_reducible rfl)
        try simp only [Act.put, List.getElem_toArray, List.getElem_cons_succ, List.getElem_cons_zero, List.setIfInBounds_toArray, List.set_cons_zero, List.set_cons_succ]
        refine wpAnyH_take (i := 2) (oi := _) (v := ?_) rfl (by kernel_rfl) (by kernel_rfl) (by kernel_rfl) (fun _ _ _ h => h) (Or.inl ⟨by rfl, ?_⟩) (by assumption) ?_
        rotate_left
        · (intro w hSw; (try dsimp only at hSw); go_simp <;> with_reducible rfl)
        try simp only [Act.put, List.getElem_toArray, List.getElem_cons_succ, List.getElem_cons_zero, List.setIfInBounds_toArray, List.set_cons_zero, List.set_cons_succ]
        refine wpAnyH_take (i := 3) (oi := _) (v := ?_) rfl (by kernel_rfl) (by kernel_rfl) (by kernel_rfl) (fun _ _ _ h => h) (Or.inl ⟨by rfl, ?_⟩) (by assumption) ?_
        rotate_left
        · (intro w hSw; (try dsimp only at hSw); go_simp <;> with_reducible rfl)
        try simp only [Act.put, List.getElem_toArray, List.getElem_cons_succ, List.getElem_cons_zero, List.setIfInBounds_toArray, List.set_cons_zero, List.set_cons_succ]
        refine wpAnyH_take (i := 4) (oi := _) (v := ?_) rfl (by kernel_rfl) (by kernel_rfl) (by kernel_rfl) (fun _ _ _ h => h) (Or.inl ⟨by rfl, ?_⟩) (by assumption) ?_
        rotate_left
        · (intro w hSw; (try dsimp only at hSw); go_simp <;> with_reducible rfl)
        try simp only [Act.put, List.getElem_toArray, List.getElem_cons_succ, List.getElem_cons_zero, List.setIfInBounds_toArray, List.set_cons_zero, List.set_cons_succ]
        refine wpAnyH_take (i := 5) (oi := _) (v := ?_) rfl (by kernel_rfl) (by kernel_rfl) (by kernel_rfl) (fun _ _ _ h => h) (Or.inl ⟨by rfl, ?_⟩) (by assumption) ?_
        rotate_left
        · (intro w hSw; (try dsimp only at hSw); go_simp <;> with_reducible rfl)
        try simp only [Act.put, List.getElem_toArray, List.getElem_cons_succ, List.getElem_cons_zero, List.setIfInBounds_toArray, List.set_cons_zero, List.set_cons_succ]
        refine wpAnyH_take (i := 6) (oi := _) (v := ?_) rfl (by kernel_rfl) (by kernel_rfl) (by kernel_rfl) (fun _ _ _ h => h) (Or.inl ⟨by rfl, ?_⟩) (by assumption) ?_
        rotate_left
        · (intro w hSw; (try dsimp only at hSw); go_simp <;> with_reducible rfl)
        try simp only [Act.put, List.getElem_toArray, List.getElem_cons_succ, List.getElem_cons_zero, List.setIfInBounds_toArray, List.set_cons_zero, List.set_cons_succ]
        refine wpAnyH_take (i := 7) (oi := _) (v := ?_) rfl (by kernel_rfl) (by kernel_rfl) (by kernel_rfl) (fun _ _ _ h => h) (Or.inl ⟨by rfl, ?_⟩) (by assumption) ?_
        rotate_left
        · (intro w hSw; (try dsimp only at hSw); go_simp <;> with_reducible rfl)
        try simp only [Act.put, List.getElem_toArray, List.getElem_cons_succ, List.getElem_cons_zero, List.setIfInBounds_toArray, List.set_cons_zero, List.set_cons_succ]
        refine wpAnyH_take (i := 8) (oi := _) (v := ?_) rfl (by kernel_rfl) (by kernel_rfl) (by kernel_rfl) (fun _ _ _ h => h) (Or.inl ⟨by rfl, ?_⟩) (by assumption) ?_
        rotate_left
        · (intro w hSw; (try dsimp only at hSw); go_simp <;> with_reducible rfl)
        try simp only [Act.put, List.getElem_toArray, List.getElem_cons_succ, List.getElem_cons_zero, List.setIfInBounds_toArray, List.set_cons_zero, List.set_cons_succ]
        refine wpAnyH_take (i := 9) (oi := _) (v := ?_) rfl (by kernel_rfl) (by kernel_rfl) (by kernel_rfl) (fun _ _ _ h => h) (Or.inl ⟨by rfl, ?_⟩) (by assumption) ?_
        rotate_left
        · (intro w hSw; (try dsimp only at hSw); go_simp <;> with_reducible rfl)
        try simp only [Act.put, List.getElem_toArray, List.getElem_cons_succ, List.getElem_cons_zero, List.setIfInBounds_toArray, List.set_cons_zero, List.set_cons_succ]
        refine wpAnyH_take (i := 10) (oi := _) (v := ?_) rfl (by kernel_rfl) (by kernel_rfl) (by kernel_rfl) (fun _ _ _ h => h) (Or.inl ⟨by rfl, ?_⟩) (by assumption) ?_
        rotate_left
        · (intro w hSw; (try dsimp only at hSw); go_simp <;> with_reducible rfl)
        try simp only [Act.put, List.getElem_toArray, List.getElem_cons_succ, List.getElem_cons_zero, List.setIfInBounds_toArray, List.set_cons_zero, List.set_cons_succ]
        refine wpAnyH_take (i := 11) (oi := _) (v := ?_) rfl (by kernel_rfl) (by kernel_rfl) (by kernel_rfl) (fun _ _ _ h => h) (Or.inl ⟨by rfl, ?_⟩) (by assumption) ?_
        rotate_left
        · (intro w hSw; (try dsimp only at hSw); go_simp <;> with_reducible rfl)
        try simp only [Act.put, List.getElem_toArray, List.getElem_cons_succ, List.getElem_cons_zero, List.setIfInBounds_toArray, List.set_cons_zero, List.set_cons_succ]
        refine wpAnyH_ready (rs := [12]) (by kernel_rfl) (by simp) ?_
        refine AllReadyH.cons (o := _) rfl (fun K hK => ?_) AllReadyH.nil
        go_simp
        go_at_call 25
        refine (HCm.out _).mono ?_
        rintro e w6 ⟨rfl, hb6⟩
        have HB6 : Hid (Below wr.drew.heap.size wr.drew w6) := hb6
        have HS6 : Hid (w6.cell? ⟨g0, 0, none⟩ = some (.int .u32 (adr k : Int)) ∧ w6.cell? ⟨g0, 1, none⟩ = some (.int .i64 (k.length : Int)) ∧ w6.cell? ⟨b, off + i * 2, none⟩ = some (.int .u32 (adr y : Int)) ∧ w6.cell? ⟨b, off + i * 2 + 1, none⟩ = some (.int .i64 (y.length : Int)) ∧ w6.cell? ⟨b, off + t * 2, none⟩ = some (.int .u32 (adr z : Int)) ∧ w6.cell? ⟨b, off + t * 2 + 1, none⟩ = some (.int .i64 (z.length : Int))) := ⟨(hb6.cell (p := ⟨g0, 0, none⟩) lg0).trans p0, (hb6.cell (p := ⟨g0, 1, none⟩) lg0).trans p1, (hb6.cell (p := ⟨b, off + i * 2, none⟩) lb).trans i0, (hb6.cell (p := ⟨b, off + i * 2 + 1, none⟩) lb).trans i1, (hb6.cell (p := ⟨b, off + t * 2, none⟩) lb).trans j0, (hb6.cell (p := ⟨b, off + t * 2 + 1, none⟩) lb).trans j1⟩
        clear hb6
        refine hK.out _ _ ?_ (fun hHeld => ?_)
        · exact HS6.out
        clear hK K
        try simp only [Act.put, List.getElem_toArray, List.getElem_cons_succ, List.getElem_cons_zero, List.setIfInBounds_toArray, List.set_cons_zero, List.set_cons_succ]
        refine wpAnyH_take (i := 13) (oi := _) (v := ?_) rfl (by kernel_rfl) (by kernel_rfl) (by kernel_rfl) (fun _ _ _ h => h) (Or.inl ⟨by rfl, ?_⟩) (by assumption) ?_
        rotate_left
        · (intro w hSw; (try dsimp only at hSw); go_simp <;> with_reducible rfl)
        try simp only [Act.put, List.getElem_toArray, List.getElem_cons_succ, List.getElem_cons_zero, List.setIfInBounds_toArray, List.set_cons_zero, List.set_cons_succ]
        refine wpAnyH_take (i := 14) (oi := _) (v := ?_) rfl (by kernel_rfl) (by kernel_rfl) (by kernel_rfl) (fun _ _ _ h => h) (Or.inl ⟨by rfl, ?_⟩) (by assumption) ?_
        rotate_left
        · (intro w hSw; (try dsimp only at hSw); go_simp <;> with_reducible rfl)
        try simp only [Act.put, List.getElem_toArray, List.getElem_cons_succ, List.getElem_cons_zero, List.setIfInBounds_toArray, List.set_cons_zero, List.set_cons_succ]
        refine wpAnyH_take (i := 15) (oi := _) (v := ?_) rfl (by kernel_rfl) (by kernel_rfl) (by kernel_rfl) (fun _ _ _ h => h) (Or.inl ⟨by rfl, ?_⟩) (by assumption) ?_
        rotate_left
        · (intro w hSw; (try dsimp only at hSw); go_simp <;> with_reducible rfl)
        try simp only [Act.put, List.getElem_toArray, List.getElem_cons_succ, List.getElem_cons_zero, List.setIfInBounds_toArray, List.set_cons_zero, List.set_cons_succ]
        refine wpAnyH_take (i := 16) (oi := _) (v := ?_) rfl (by kernel_rfl) (by kernel_rfl) (by kernel_rfl) (fun _ _ _ h => h) (Or.inl ⟨by rfl, ?_⟩) (by assumption) ?_
        rotate_left
        · (intro w hSw; (try dsimp only at hSw); go_simp <;> with_reducible rfl)
        try simp only [Act.put, List.getElem_toArray, List.getElem_cons_succ, List.getElem_cons_zero, List.setIfInBounds_toArray, List.set_cons_zero, List.set_cons_succ]
        refine wpAnyH_take (i := 17) (oi := _) (v := ?_) rfl (by kernel_rfl) (by kernel_rfl) (by kernel_rfl) (fun _ _ _ h => h) (Or.inl ⟨by rfl, ?_⟩) (by assumption) ?_
        rotate_left
        · (intro w hSw; (try dsimp only at hSw); go_simp <;> with_reducible rfl)
        try simp only [Act.put, List.getElem_toArray, List.getElem_cons_succ, List.getElem_cons_zero, List.setIfInBounds_toArray, List.set_cons_zero, List.set_cons_succ]
        refine wpAnyH_take (i := 18) (oi := _) (v := ?_) rfl (by kernel_rfl) (by kernel_rfl) (by kernel_rfl) (fun _ _ _ h => h) (Or.inl ⟨by rfl, ?_⟩) (by assumption) ?_
        rotate_left
        · (intro w hSw; (try dsimp only at hSw); go_simp <;> with_reducible rfl)
        try simp only [Act.put, List.getElem_toArray, List.getElem_cons_succ, List.getElem_cons_zero, List.setIfInBounds_toArray, List.set_cons_zero, List.set_cons_succ]
        refine wpAnyH_take (i := 19) (oi := _) (v := ?_) rfl (by kernel_rfl) (by kernel_rfl) (by kernel_rfl) (fun _ _ _ h => h) (Or.inl ⟨by rfl, ?_⟩) (by assumption) ?_
        rotate_left
        · (intro w hSw; (try dsimp only at hSw); go_simp <;> with_reducible rfl)
        try simp only [Act.put, List.getElem_toArray, List.getElem_cons_succ, List.getElem_cons_zero, List.setIfInBounds_toArray, List.set_cons_zero, List.set_cons_succ]
        refine wpAnyH_take (i := 20) (oi := _) (v := ?_) rfl (by kernel_rfl) (by kernel_rfl) (by kernel_rfl) (fun _ _ _ h => h) (Or.inl ⟨by rfl, ?_⟩) (by assumption) ?_
        rotate_left
        · (intro w hSw; (try dsimp only at hSw); go_simp <;> with_reducible rfl)
        try simp only [Act.put, List.getElem_toArray, List.getElem_cons_succ, List.getElem_cons_zero, List.setIfInBounds_toArray, List.set_cons_zero, List.set_cons_succ]
        refine wpAnyH_ready (rs := [21]) (by kernel_rfl) (by simp) ?_
        refine AllReadyH.cons (o := _) rfl (fun K hK => ?_) AllReadyH.nil
        go_simp
        go_at_call 15
        refine (HCy.out _).mono ?_
        rintro e w7 ⟨rfl, hb7⟩
        have HB7 : Hid (Below wr.drew.heap.size wr.drew w7) := HB6.out.trans (hb7.mono HB6.out.size)
        have HS7 : Hid (w7.cell? ⟨g0, 0, none⟩ = some (.int .u32 (adr k : Int)) ∧ w7.cell? ⟨g0, 1, none⟩ = some (.int .i64 (k.length : Int)) ∧ w7.cell? ⟨b, off + i * 2, none⟩ = some (.int .u32 (adr y : Int)) ∧ w7.cell? ⟨b, off + i * 2 + 1, none⟩ = some (.int .i64 (y.length : Int)) ∧ w7.cell? ⟨b, off + t * 2, none⟩ = some (.int .u32 (adr z : Int)) ∧ w7.cell? ⟨b, off + t * 2 + 1, none⟩ = some (.int .i64 (z.length : Int))) := ⟨(HB6.out.trans (hb7.mono HB6.out.size)).cell (p := ⟨g0, 0, none⟩) lg0 |>.trans p0, (HB6.out.trans (hb7.mono HB6.out.size)).cell (p := ⟨g0, 1, none⟩) lg0 |>.trans p1, (HB6.out.trans (hb7.mono HB6.out.size)).cell (p := ⟨b, off + i * 2, none⟩) lb |>.trans i0, (HB6.out.trans (hb7.mono HB6.out.size)).cell (p := ⟨b, off + i * 2 + 1, none⟩) lb |>.trans i1, (HB6.out.trans (hb7.mono HB6.out.size)).cell (p := ⟨b, off + t * 2, none⟩) lb |>.trans j0, (HB6.out.trans (hb7.mono HB6.out.size)).cell (p := ⟨b, off + t * 2 + 1, none⟩) lb |>.trans j1⟩
        clear hb7
        refine hK.out _ _ ?_ (fun hHeld => ?_)
        · exact HS7.out
        clear hK K
        try simp only [Act.put, List.getElem_toArray, List.getElem_cons_succ, List.getElem_cons_zero, List.setIfInBounds_toArray, List.set_cons_zero, List.set_cons_succ]
        refine wpAnyH_take (i := 22) (oi := _) (v := ?_) rfl (by kernel_rfl) (by kernel_rfl) (by kernel_rfl) (fun _ _ _ h => h) (Or.inl ⟨by rfl, ?_⟩) (by assumption) ?_
        rotate_left
        · (intro w hSw; (try dsimp only at hSw); go_simp <;> with_reducible rfl)
        try simp only [Act.put, List.getElem_toArray, List.getElem_cons_succ, List.getElem_cons_zero, List.setIfInBounds_toArray, List.set_cons_zero, List.set_cons_succ]
        refine wpAnyH_take (i := 23) (oi := _) (v := ?_) rfl (by kernel_rfl) (by kernel_rfl) (by kernel_rfl) (fun _ _ _ h => h) (Or.inl ⟨by rfl, ?_⟩) (by assumption) ?_
        rotate_left
        · (intro w hSw; (try dsimp only at hSw); go_simp <;> with_reducible rfl)
        try simp only [Act.put, List.getElem_toArray, List.getElem_cons_succ, List.getElem_cons_zero, List.setIfInBounds_toArray, List.set_cons_zero, List.set_cons_succ]
        refine wpAnyH_take (i := 24) (oi := _) (v := ?_) rfl (by kernel_rfl) (by kernel_rfl) (by kernel_rfl) (fun _ _ _ h => h) (Or.inl ⟨by rfl, ?_⟩) (by assumption) ?_
        rotate_left
        · (intro w hSw; (try dsimp only at hSw); go_simp <;> with_reducible rfl)
        try simp only [Act.put, List.getElem_toArray, List.getElem_cons_succ, List.getElem_cons_zero, List.setIfInBounds_toArray, List.set_cons_zero, List.set_cons_succ]
        refine wpAnyH_take (i := 25) (oi := _) (v := ?_) rfl (by kernel_rfl) (by kernel_rfl) (by kernel_rfl) (fun _ _ _ h => h) (Or.inl ⟨by rfl, ?_⟩) (by assumption) ?_
        rotate_left
        · (intro w hSw; (try dsimp only at hSw); go_simp <;> with_reducible rfl)
        try simp only [Act.put, List.getElem_toArray, List.getElem_cons_succ, List.getElem_cons_zero, List.setIfInBounds_toArray, List.set_cons_zero, List.set_cons_succ]
        refine wpAnyH_take (i := 26) (oi := _) (v := ?_) rfl (by kernel_rfl) (by kernel_rfl) (by kernel_rfl) (fun _ _ _ h => h) (Or.inl ⟨by rfl, ?_⟩) (by assumption) ?_
        rotate_left
        · (intro w hSw; (try dsimp only at hSw); go_simp <;> with_reducible rfl)
        try simp only [Act.put, List.getElem_toArray, List.getElem_cons_succ, List.getElem_cons_zero, List.setIfInBounds_toArray, List.set_cons_zero, List.set_cons_succ]
        refine wpAnyH_take (i := 27) (oi := _) (v := ?_) rfl (by kernel_rfl) (by kernel_rfl) (by kernel_rfl) (fun _ _ _ h => h) (Or.inl ⟨by rfl, ?_⟩) (by assumption) ?_
        rotate_left
        · (intro w hSw; (try dsimp only at hSw); go_simp <;> with_reducible rfl)
        try simp only [Act.put, List.getElem_toArray, List.getElem_cons_succ, List.getElem_cons_zero, List.setIfInBounds_toArray, List.set_cons_zero, List.set_cons_succ]
        refine wpAnyH_take (i := 28) (oi := _) (v := ?_) rfl (by kernel_rfl) (by kernel_rfl) (by kernel_rfl) (fun _ _ _ h => h) (Or.inl ⟨by rfl, ?_⟩) (by assumption) ?_
        rotate_left
        · (intro w hSw; (try dsimp only at hSw); go_simp <;> with_reducible rfl)
        try simp only [Act.put, List.getElem_toArray, List.getElem_cons_succ, List.getElem_cons_zero, List.setIfInBounds_toArray, List.set_cons_zero, List.set_cons_succ]
        refine wpAnyH_take (i := 29) (oi := _) (v := ?_) rfl (by kernel_rfl) (by kernel_rfl) (by kernel_rfl) (fun _ _ _ h => h) (Or.inl ⟨by rfl, ?_⟩) (by assumption) ?_
        rotate_left
        · (intro w hSw; (try dsimp only at hSw); go_simp <;> with_reducible rfl)
        try simp only [Act.put, List.getElem_toArray, List.getElem_cons_succ, List.getElem_cons_zero, List.setIfInBounds_toArray, List.set_cons_zero, List.set_cons_succ]
        refine wpAnyH_take (i := 30) (oi := _) (v := ?_) rfl (by kernel_rfl) (by kernel_rfl) (by kernel_rfl) (fun _ _ _ h => h) (Or.inl ⟨by rfl, ?_⟩) (by assumption) ?_
        rotate_left
        · (intro w hSw; (try dsimp only at hSw); go_simp <;> with_reducible rfl)
        try simp only [Act.put, List.getElem_toArray, List.getElem_cons_succ, List.getElem_cons_zero, List.setIfInBounds_toArray, List.set_cons_zero, List.set_cons_succ]
        refine wpAnyH_take (i := 31) (oi := _) (v := ?_) rfl (by kernel_rfl) (by kernel_rfl) (by kernel_rfl) (fun _ _ _ h => h) (Or.inl ⟨by rfl, ?_⟩) (by assumption) ?_
        rotate_left
        · (intro w hSw; (try dsimp only at hSw); go_simp <;> with_reducible rfl)
        try simp only [Act.put, List.getElem_toArray, List.getElem_cons_succ, List.getElem_cons_zero, List.setIfInBounds_toArray, List.set_cons_zero, List.set_cons_succ]
        refine wpAnyH_take (i := 32) (oi := _) (v := ?_) rfl (by kernel_rfl) (by kernel_rfl) (by kernel_rfl) (fun _ _ _ h => h) (Or.inl ⟨by rfl, ?_⟩) (by assumption) ?_
        rotate_left
        · (intro w hSw; (try dsimp only at hSw); go_simp <;> with_reducible rfl)
        try simp only [Act.put, List.getElem_toArray, List.getElem_cons_succ, List.getElem_cons_zero, List.setIfInBounds_toArray, List.set_cons_zero, List.set_cons_succ]
        refine wpAnyH_take (i := 33) (oi := _) (v := ?_) rfl (by kernel_rfl) (by kernel_rfl) (by kernel_rfl) (fun _ _ _ h => h) (Or.inl ⟨by rfl, ?_⟩) (by assumption) ?_
        rotate_left
        · (intro w hSw; (try dsimp only at hSw); go_simp <;> with_reducible rfl)
        try simp only [Act.put, List.getElem_toArray, List.getElem_cons_succ, List.getElem_cons_zero, List.setIfInBounds_toArray, List.set_cons_zero, List.set_cons_succ]
        refine wpAnyH_take (i := 34) (oi := _) (v := ?_) rfl (by kernel_rfl) (by kernel_rfl) (by kernel_rfl) (fun _ _ _ h => h) (Or.inl ⟨by rfl, ?_⟩) (by assumption) ?_
        rotate_left
        · (intro w hSw; (try dsimp only at hSw); go_simp <;> with_reducible rfl)
        try simp only [Act.put, List.getElem_toArray, List.getElem_cons_succ, List.getElem_cons_zero, List.setIfInBounds_toArray, List.set_cons_zero, List.set_cons_succ]
        refine wpAnyH_take (i := 35) (oi := _) (v := ?_) rfl (by kernel_rfl) (by kernel_rfl) (by kernel_rfl) (fun _ _ _ h => h) (Or.inl ⟨by rfl, ?_⟩) (by assumption) ?_
        rotate_left
        · (intro w hSw; (try dsimp only at hSw); go_simp <;> with_reducible rfl)
        try simp only [Act.put, List.getElem_toArray, List.getElem_cons_succ, List.getElem_cons_zero, List.setIfInBounds_toArray, List.set_cons_zero, List.set_cons_succ]
        refine wpAnyH_done (by kernel_rfl) ?_ _

        have hb7 := HBr.out.drew.trans (HB7.out.mono HBr.out.size)
        have hx7 : Below wr.heap.size wr w7 := ((Below.refl wr.heap.size wr).drew).trans HB7.out
        have q0 := (hx7.cell (p := ⟨g1, 0, none⟩) lg1).trans q0
        have q1 := (hx7.cell (p := ⟨g1, 1, none⟩) lg1).trans q1
        have i0 := (hx7.cell (p := ⟨b, off + i * 2, none⟩) lb).trans i0
        have i1 := (hx7.cell (p := ⟨b, off + i * 2 + 1, none⟩) lb).trans i1
        have H7 := Lib.hid hb7
        have ql := Nat.lt_of_lt_of_le lg1 hx7.size
        have bl := Nat.lt_of_lt_of_le lb hx7.size
        clear hb7 hx7 HB7 HS7
        obtain ⟨r, hr⟩ : ∃ r, r = decide (qa = adr y ∧ qn = (y.length : Int)) := ⟨_, rfl⟩
        have HTr := HTk.out
        rw [← hr] at HTr
        have HT2 := Lib.hid HTr
        have hkk : ((((adr y : Int) == (qa : Int)) = true ∧ ((y.length : Int) == qn) = true) ∧ r = true) ∨ (((adr y : Int) == (qa : Int)) = false ∧ r = false) ∨ ((((adr y : Int) == (qa : Int)) = true ∧ ((y.length : Int) == qn) = false) ∧ r = false) := by
          rw [hr]
          by_cases ea : qa = adr y
          · by_cases en : qn = (y.length : Int)
            · left; exact ⟨⟨by rw [ea]; simp, by rw [en]; simp⟩, by simp [ea, en]⟩
            · right; right; exact ⟨⟨by rw [ea]; simp, by rw [beq_eq_false_iff_ne]; exact fun e => en e.symm⟩, by simp [en]⟩
          · right; left; exact ⟨by rw [beq_eq_false_iff_ne]; omega, by simp [ea]⟩
        clear HTr hr HTk
        cases is
        case' true =>
          clear hkk
          go_wp2_with fail
          go_quiet (fail)
          have HT3 : Hid (decide ((qa, qn) ∈ s.take (i + 1)) = true) := by rw [Hid, HT2.out]; rfl
        case' false => rcases hkk with ⟨⟨e3, e4⟩, rfl⟩ | ⟨e3, rfl⟩ | ⟨⟨e3, e4⟩, rfl⟩
        case' false.inl =>
          go_wp2_with fail
          go_quiet (fail)
          have HT3 : Hid (decide ((qa, qn) ∈ s.take (i + 1)) = true) := by rw [Hid, HT2.out]; rfl
        case' false.inr.inl =>
          go_wp2_with fail
          go_quiet (fail)
          have HT3 : Hid (decide ((qa, qn) ∈ s.take (i + 1)) = false) := by rw [Hid, HT2.out]; rfl
        case' false.inr.inr =>
          go_wp2_with fail
          go_quiet (fail)
          have HT3 : Hid (decide ((qa, qn) ∈ s.take (i + 1)) = false) := by rw [Hid, HT2.out]; rfl
        all_goals
          have H8 : Hid (Below w0.heap.size w0 (w7.drewN nq)) := below_drewN H7.out _
          go_wp2_with fail
          go_roundw
          case rel => exact ⟨i + 1, by omega, rfl, by rw [HT3.out], by go_num, H8.out⟩
          case measure => simp [intOf]; omega
    · obtain rfl : i = s.length := by omega
      rw [List.take_length, HIn.out]
      have hp2 := HP.out.below HBr.out HP.out.lt
      have p0 := hp2.cell 0
      have p1 := hp2.cell 1
      have lg0 := hp2.lt
      have hq2 := HQb.out.below HBr.out HQb.out.lt
      have q0 := hq2.cell 0
      have q1 := hq2.cell 1
      have lg1 := hq2.lt
      simp at p0 p1 q0 q1
      obtain ⟨cv, hcv⟩ : ∃ cv, cv = coversB (adr k) k.length qa qn := ⟨_, rfl⟩
      have HCv2 := HCv.out
      rw [← hcv] at HCv2 ⊢
      clear HCv
      have HCv := Lib.hid HCv2
      have hqn : cv = true → -100 ≤ qn ∧ qn ≤ 100 := by
        intro h
        rw [hcv] at h
        unfold coversB at h
        simp only [Bool.and_eq_true] at h
        have := (goodB_iff qa qn).1 h.1.1.2
        omega
      clear HCv2 hcv hp2 hq2
      go_wp2_with fail
      refine (HCv.out _).mono ?_; rintro e w2 ⟨rfl, hb2⟩
      have p0 := (hb2.cell (p := ⟨g0, 0, none⟩) lg0).trans p0
      have p1 := (hb2.cell (p := ⟨g0, 1, none⟩) lg0).trans p1
      have q0 := (hb2.cell (p := ⟨g1, 0, none⟩) lg1).trans q0
      have q1 := (hb2.cell (p := ⟨g1, 1, none⟩) lg1).trans q1
      have HB2 := Lib.hid ((HW.out.trans (HBr.out.mono HW.out.size)).trans (hb2.mono (HW.out.trans (HBr.out.mono HW.out.size)).size))
      have lg0 := Nat.lt_of_lt_of_le lg0 hb2.size
      have lg1 := Nat.lt_of_lt_of_le lg1 hb2.size
      clear hb2
      cases cv
      case' false =>
        go_wp2_with fail
      case' true =>
        have hqn := hqn rfl
        rcases Int.lt_or_le (D : Int) (qn - (k.length : Int)) with hd | hd
      case' true.inr => go_wp2_with fail
      case' true.inl => go_wp2_with fail
      all_goals
        refine (lives_any _).mono ?_; rintro e w3 ⟨rfl, hb3⟩
        have HB3 := Lib.hid (HB2.out.trans (hb3.mono HB2.out.size))
        clear hb3
        go_wp2_with fail
        go_ret
        exact ⟨rfl, HB3.out⟩

set_option maxRecDepth 100000 in
set_option maxHeartbeats 4000000 in
theorem rest {W w0 : World} (k : Key) (D qa g0 g1 c : Nat) (qn : Int) (A : Option Addr) (s : List Pf) (hk : k.length ≤ 32) (hD : D ≤ 8) (hqa : qa < 4294967296) (hs : IsSort gdP (pfs (stepsK D k)) s)
    (hrow : Own w0 35 2 A s.length c (fv s)) (hp : Bk w0 g0 35 #[.int .u32 (adr k : Int), .int .i64 (k.length : Int)]) (hq : Bk w0 g1 35 #[.int .u32 (qa : Int), .int .i64 qn]) (hW : Below W.heap.size W w0)
    (u0 u2 u4 u8 u9 u10 u11 u12 u13 u14 u15 u16 u17 u18 u19 u20 u21 u22 u23 u24 u25 u26 u27 u28 u29 u30 u31 u32 u33 u34 u35 u36 u37 u38 u39 u40 u41 u42 u43 u44 u45 u46 u47 u48 u49 u50 u51 u52 u53 u54 u55 u56 u57 u58 u59 u60 u61 u62 u63 u64 u65 u66 u67 u68 u69 u70 u71 u72 u73 u74 u75 u76 u77 u78 u79 u80 u81 u82 u83 u84 u85 u86 u87 u88 u89 u90 u91 u92 u93 u94 u95 u96 u97 u98 u99 u100 u101 u102 u103 u104 u105 u106 u107 u108 u109 u110 u111 u112 u113 u114 u115 u116 u117 u118 u119 u120 u121 u122 u123 u124 u125 : Value) (K : Act → World → Prop) (hK : ∀ a w, Code.wp Try.prog (right (right (right (right (right (right (right (bodyOf Try.f5)))))))) (bodyPost Try.prog Try.f5 fun e w' => e = .returned (.bool true) ∧ Below W.heap.size W w') a w → K a w) :
    Code.wp Try.prog (left (right (right (right (right (right (right (bodyOf Try.f5))))))))
      (Exit.then K (bodyPost Try.prog Try.f5 fun e w' => e = .returned (.bool true) ∧ Below W.heap.size W w')) { tmps := #[u0, .int .i64 (D : Int), u2, .pointer (some ⟨g0, 0, none⟩), u4, .pointer (some ⟨g1, 0, none⟩), .bool false, .slice A s.length c, u8, u9, u10, u11, u12, u13, u14, u15, u16, u17, u18, u19, u20, u21, u22, u23, u24, u25, u26, u27, u28, u29, u30, u31, u32, u33, u34, u35, u36, u37, u38, u39, u40, u41, u42, u43, u44, u45, u46, u47, u48, u49, u50, u51, u52, u53, u54, u55, u56, u57, u58, u59, u60, u61, u62, u63, u64, u65, u66, u67, u68, u69, u70, u71, u72, u73, u74, u75, u76, u77, u78, u79, u80, u81, u82, u83, u84, u85, u86, u87, u88, u89, u90, u91, u92, u93, u94, u95, u96, u97, u98, u99, u100, u101, u102, u103, u104, u105, u106, u107, u108, u109, u110, u111, u112, u113, u114, u115, u116, u117, u118, u119, u120, u121, u122, u123, u124, u125], defers := [] } w0 := by
  have hlen : s.length + 1 = 2 ^ (min D (32 - k.length) + 1) := by
    have h1 := steps_num D k hk
    have h2 := sort_len hs (steps_nodup D k hk) (fun x hx => ((mem_steps D k x hk).1 hx).2.2)
    omega
  have hsz : s.length < 1024 := by
    have : 2 ^ (min D (32 - k.length) + 1) ≤ 2 ^ 9 := Nat.pow_le_pow_right (by omega) (by omega)
    omega
  have HS2 := Lib.hid (second (W := W) k D qa g0 g1 c qn A s hk hD hqa hs hrow hp hq hW hsz)
  obtain ⟨m, hm⟩ : ∃ m, m = min (D + 1) (33 - k.length) := ⟨_, rfl⟩
  have hm1 : m ≤ 9 := by omega
  have hm2 : m ≤ D + 1 := by omega
  have hm3 : m + k.length ≤ 33 := by omega
  have hm4 : m = D + 1 ∨ m + k.length = 33 := by omega
  have HMm : Hid (s.length + 1 = 2 ^ m) := by rw [Hid, hlen]; congr 1; omega
  have kp0 := fun i => hp.cell i
  have kpl := hp.lt
  clear hlen hs hrow hp hq hW hm hsz
  simp only [left, right, bodyOf, Try.f5] at HS2 hK ⊢
  go_wp2_with fail
  go_loopw [8, 9, 10] (fun v8 v9 v10 wr => ∃ i N : Nat, i ≤ m ∧ N + 1 = 2 ^ i ∧ N < 1024 ∧ v8 = .int .i64 (N : Int) ∧ v9 = .int .i64 ((N : Int) + 1) ∧ v10 = .int .i64 (i : Int) ∧ wr = w0) (fun _ _ v10 _ => m - (intOf v10).toNat)
  case atStart => exact ⟨0, 0, Nat.zero_le _, rfl, by omega, rfl, rfl, rfl, rfl⟩
  case round =>
    obtain ⟨i, N, hi, hN, hNb, rfl, rfl, rfl, rfl⟩ := hrel
    have HN := Lib.hid hN
    clear hN
    by_cases hlt : i < m
    · have h1 : (i : Int) ≤ (D : Int) := by omega
      have h2 : (k.length : Int) + (i : Int) ≤ 32 := by omega
      go_wp2_with fail
      go_roundw
      case rel =>
        have h3 : 2 ^ (i + 1) ≤ 2 ^ 9 := Nat.pow_le_pow_right (by omega) (by omega)
        have h4 := HN.out
        rw [Nat.pow_succ] at h3
        exact ⟨i + 1, 2 * N + 1, by omega, by rw [Nat.pow_succ]; omega, by omega, by go_num, by go_num, by go_num, trivial⟩
      case measure => simp [intOf]; omega
    · obtain rfl : i = m := by omega
      have hNs : N = s.length := by have h1 := HN.out; have h2 := HMm.out; omega
      subst hNs
      by_cases hx : i ≤ D
      · have h1 : (i : Int) ≤ (D : Int) := by omega
        have h2 : decide ((k.length : Int) + (i : Int) ≤ 32) = false := by simp; omega
        go_upto_region 15 with fail
        exact HS2.out _ _ _ _ _ _ _ _ _ _ _ _ _ _ _ _ _ _ _ _ _ _ _ _ _ _ _ _ _ _ _ _ _ _ _ _ _ _ _ _ _ _ _ _ _ _ _ _ _ _ _ _ _ _ _ _ _ _ _ _ _ _ _ _ _ _ _ _ _ _ _ _ _ _ _ _ _ _ _ _ _ _ _ _ _ _ _ _ _ _ _ _ _ _ _ _ _ _ _ _ _ _ _ _ _ _ _ _ _ _ _ _ _ _ _ _ _ _ _ _ _ (by assumption)
      · have h1 : decide ((i : Int) ≤ (D : Int)) = false := by simp; omega
        go_upto_region 15 with fail
        exact HS2.out _ _ _ _ _ _ _ _ _ _ _ _ _ _ _ _ _ _ _ _ _ _ _ _ _ _ _ _ _ _ _ _ _ _ _ _ _ _ _ _ _ _ _ _ _ _ _ _ _ _ _ _ _ _ _ _ _ _ _ _ _ _ _ _ _ _ _ _ _ _ _ _ _ _ _ _ _ _ _ _ _ _ _ _ _ _ _ _ _ _ _ _ _ _ _ _ _ _ _ _ _ _ _ _ _ _ _ _ _ _ _ _ _ _ _ _ _ _ _ _ _ (by assumption)
end Go.Proofs.Ytpabblkppbfbjaa.walkSteps