/- The walk of the law WalkSteps: the Go text returns true and writes nothing that was there. No condition. -/
import Derived.Test.YtpabblkppbfbjaaWalkStepsRest
namespace Go.Proofs.Ytpabblkppbfbjaa.walkSteps
open Go.RowKit Go.Joins Go.Proofs.Ytpabblkppbfbjaa.kit Go.Proofs.Ytpabblkppbfbjaa.pfx Go.Proofs.Ytpabblkppbfbjaa.mem Go.Proofs.Ytpabblkppbfbjaa.foot Go.Proofs.Ytpabblkppbfbjaa.tri Go.Proofs.Ytpabblkppbfbjaa.srt Go.Proofs.Ytpabblkppbfbjaa.wlk Go.Proofs.Ytpabblkppbfbjaa.code
set_option linter.unusedVariables false
set_option linter.unusedSimpArgs false

set_option maxRecDepth 100000 in
set_option maxHeartbeats 1000000 in
theorem bad_core (a qa : Nat) (m d qn : Int) (ha : a < 4294967296) (hg : goodB a m = false) (W : World) :
    Calls Try.prog 5 #[.agg #[.int .u32 (a : Int), .int .i64 m], .int .i64 d, .agg #[.int .u32 (qa : Int), .int .i64 qn]] W fun e w' => e = .returned (.bool true) ∧ Below W.heap.size W w' := by
  have HS := Lib.hid (fun d w => Steps_bad a m d ha hg w)
  have HG := ref_Good a m ha
  rw [hg] at HG
  have HGd := Lib.hid HG
  have hk0 := Bk.new W 35 #[.int .u32 (a : Int), .int .i64 m]
  have HB0 : Hid (Below W.heap.size W ((W.alloc (.cells #[.int .u32 (a : Int), .int .i64 m] 35)).alloc (.cells #[.int .u32 (qa : Int), .int .i64 qn] 35))) := ((Below.refl _ _).alloc (Nat.le_refl _) _).alloc (by simp) _
  have HK0 : Hid (Bk ((W.alloc (.cells #[.int .u32 (a : Int), .int .i64 m] 35)).alloc (.cells #[.int .u32 (qa : Int), .int .i64 qn] 35)) W.heap.size 35 #[.int .u32 (a : Int), .int .i64 m]) := hk0.below ((Below.refl _ _).alloc (Nat.le_refl _) _) hk0.lt
  clear hk0 HG hg
  go_enter Try.func5, Try.ntmps5
  rcases (show d ≤ 4 ∨ (4 < d ∧ d ≤ 8) ∨ 8 < d by omega) with h | ⟨h, h'⟩ | h
  case' inl => go_upto_region 3 with fail
  case' inr.inl => go_upto_region 3 with fail
  case' inr.inr => go_upto_region 3 with fail
  all_goals
    go_wp2_with fail
    refine (HS.out _ _).mono ?_; rintro e w1 ⟨rfl, hb1⟩
    have hk1 := HK0.out.below hb1 HK0.out.lt
    have p0 := hk1.cell 0
    have p1 := hk1.cell 1
    have pl := hk1.lt
    simp at p0 p1
    have HB1 := Lib.hid (HB0.out.trans (hb1.mono HB0.out.size))
    clear hb1 hk1
    go_wp2_with fail
    refine (HGd.out _).mono ?_; rintro e w2 ⟨rfl, hb2⟩
    have HB2 := Lib.hid (HB1.out.trans (hb2.mono HB1.out.size))
    clear hb2
    go_wp2_with fail
    refine (lives_any _).mono ?_; rintro e w3 ⟨rfl, hb3⟩
    have HB3 := Lib.hid (HB2.out.trans (hb3.mono HB2.out.size))
    clear hb3
    go_wp2_with fail
    go_ret
    exact ⟨rfl, HB3.out⟩

theorem deep_of (d : Int) (h : d ≤ 4 ∨ 8 < d) : ((deepOf d : Nat) : Int) = if d < 0 then 0 else if 8 < d then 8 else d := by
  unfold deepOf
  split
  · omega
  · split <;> omega

set_option maxRecDepth 100000 in
set_option maxHeartbeats 4000000 in
theorem good_core (k : Key) (qa : Nat) (d qn : Int) (hk : k.length ≤ 32) (hqa : qa < 4294967296) (W : World) :
    Calls Try.prog 5 #[.agg #[.int .u32 (adr k : Int), .int .i64 (k.length : Int)], .int .i64 d, .agg #[.int .u32 (qa : Int), .int .i64 qn]] W fun e w' => e = .returned (.bool true) ∧ Below W.heap.size W w' := by
  have HS := Lib.hid (fun d w => Steps_ok k d hk w)
  have HG := ref_Good (adr k) k.length (adr_lt hk)
  rw [good_adr hk] at HG
  have HGd := Lib.hid HG
  have hk0 := Bk.new W 35 #[.int .u32 (adr k : Int), .int .i64 (k.length : Int)]
  have hq0 := Bk.new (W.alloc (.cells #[.int .u32 (adr k : Int), .int .i64 (k.length : Int)] 35)) 35 #[.int .u32 (qa : Int), .int .i64 qn]
  rw [show (W.alloc (.cells #[.int .u32 (adr k : Int), .int .i64 (k.length : Int)] 35)).heap.size = W.heap.size + 1 from by simp] at hq0
  have HB0 : Hid (Below W.heap.size W ((W.alloc (.cells #[.int .u32 (adr k : Int), .int .i64 (k.length : Int)] 35)).alloc (.cells #[.int .u32 (qa : Int), .int .i64 qn] 35))) := ((Below.refl _ _).alloc (Nat.le_refl _) _).alloc (by simp) _
  have HK0 : Hid (Bk ((W.alloc (.cells #[.int .u32 (adr k : Int), .int .i64 (k.length : Int)] 35)).alloc (.cells #[.int .u32 (qa : Int), .int .i64 qn] 35)) W.heap.size 35 #[.int .u32 (adr k : Int), .int .i64 (k.length : Int)]) := hk0.below ((Below.refl _ _).alloc (Nat.le_refl _) _) hk0.lt
  have HQ0 := Lib.hid hq0
  have HH := Lib.hid (And.intro hk hqa)
  clear hk0 HG hq0
  go_enter Try.func5, Try.ntmps5
  rcases (show d < 0 ∨ (0 ≤ d ∧ d ≤ 4) ∨ (4 < d ∧ d ≤ 8) ∨ 8 < d by omega) with h | ⟨h, h'⟩ | ⟨h, h'⟩ | h
  case inl =>
    have hd4 : ¬ (4 : Int) < d := by omega
    obtain ⟨D, hD⟩ : ∃ D, D = deepOf d := ⟨_, rfl⟩
    have hDv : D = 0 := by rw [hD]; unfold deepOf; omega
    have HD := Lib.hid hD
    clear hD
    go_upto_region 3 with fail
    go_wp2_with fail
    refine (HS.out _ _).mono ?_; rintro e w1 ⟨A, c, s, rfl, hs, ho, hlo, hb1⟩
    rw [← HD.out] at hs
    have hk1 := HK0.out.below hb1 HK0.out.lt
    have HQ1 := Lib.hid (HQ0.out.below hb1 HQ0.out.lt)
    have p0 := hk1.cell 0
    have p1 := hk1.cell 1
    have pl := hk1.lt
    simp at p0 p1
    have HK1 := Lib.hid hk1
    have HB1 := Lib.hid (HB0.out.trans (hb1.mono HB0.out.size))
    have HSr := Lib.hid hs
    have HO := Lib.hid ho
    clear hb1 hk1 hs ho hlo
    go_wp2_with fail
    refine (HGd.out _).mono ?_; rintro e w2 ⟨rfl, hb2⟩
    have HB2 := Lib.hid (HB1.out.trans (hb2.mono HB1.out.size))
    have HQ2 := Lib.hid (HQ1.out.below hb2 HQ1.out.lt)
    have HK2 := Lib.hid (HK1.out.below hb2 HK1.out.lt)
    have HO2 := Lib.hid (HO.out.bel hb2)
    clear hb2
    go_upto_region 10 with fail
    subst hDv
    exact rest (W := W) k _ qa _ _ _ qn _ s HH.out.1 (by omega) HH.out.2 HSr.out HO2.out HK2.out HQ2.out HB2.out _ _ _ _ _ _ _ _ _ _ _ _ _ _ _ _ _ _ _ _ _ _ _ _ _ _ _ _ _ _ _ _ _ _ _ _ _ _ _ _ _ _ _ _ _ _ _ _ _ _ _ _ _ _ _ _ _ _ _ _ _ _ _ _ _ _ _ _ _ _ _ _ _ _ _ _ _ _ _ _ _ _ _ _ _ _ _ _ _ _ _ _ _ _ _ _ _ _ _ _ _ _ _ _ _ _ _ _ _ _ _ _ _ _ _ _ _ _ _ _ _ _ (by assumption)
  case inr.inl =>
    have hd0 : ¬ d < (0 : Int) := by omega
    have hd4 : ¬ (4 : Int) < d := by omega
    have hd8 : ¬ (8 : Int) < d := by omega
    obtain ⟨D, hD⟩ : ∃ D, D = deepOf d := ⟨_, rfl⟩
    have hDi : d = (D : Int) := by rw [hD]; unfold deepOf; omega
    have HD := Lib.hid hD
    clear hD
    subst hDi
    go_upto_region 3 with fail
    go_wp2_with fail
    refine (HS.out _ _).mono ?_; rintro e w1 ⟨A, c, s, rfl, hs, ho, hlo, hb1⟩
    rw [← HD.out] at hs
    have hk1 := HK0.out.below hb1 HK0.out.lt
    have HQ1 := Lib.hid (HQ0.out.below hb1 HQ0.out.lt)
    have p0 := hk1.cell 0
    have p1 := hk1.cell 1
    have pl := hk1.lt
    simp at p0 p1
    have HK1 := Lib.hid hk1
    have HB1 := Lib.hid (HB0.out.trans (hb1.mono HB0.out.size))
    have HSr := Lib.hid hs
    have HO := Lib.hid ho
    clear hb1 hk1 hs ho hlo
    go_wp2_with fail
    refine (HGd.out _).mono ?_; rintro e w2 ⟨rfl, hb2⟩
    have HB2 := Lib.hid (HB1.out.trans (hb2.mono HB1.out.size))
    have HQ2 := Lib.hid (HQ1.out.below hb2 HQ1.out.lt)
    have HK2 := Lib.hid (HK1.out.below hb2 HK1.out.lt)
    have HO2 := Lib.hid (HO.out.bel hb2)
    clear hb2
    go_upto_region 10 with fail
    skip
    exact rest (W := W) k _ qa _ _ _ qn _ s HH.out.1 (by omega) HH.out.2 HSr.out HO2.out HK2.out HQ2.out HB2.out _ _ _ _ _ _ _ _ _ _ _ _ _ _ _ _ _ _ _ _ _ _ _ _ _ _ _ _ _ _ _ _ _ _ _ _ _ _ _ _ _ _ _ _ _ _ _ _ _ _ _ _ _ _ _ _ _ _ _ _ _ _ _ _ _ _ _ _ _ _ _ _ _ _ _ _ _ _ _ _ _ _ _ _ _ _ _ _ _ _ _ _ _ _ _ _ _ _ _ _ _ _ _ _ _ _ _ _ _ _ _ _ _ _ _ _ _ _ _ _ _ _ (by assumption)
  case inr.inr.inl =>
    obtain ⟨D, hD⟩ : ∃ D, D = deepOf 4 := ⟨_, rfl⟩
    have hDi : D = 4 := by rw [hD]; rfl
    have HD := Lib.hid hD
    clear hD
    go_upto_region 3 with fail
    go_wp2_with fail
    refine (HS.out _ _).mono ?_; rintro e w1 ⟨A, c, s, rfl, hs, ho, hlo, hb1⟩
    rw [← HD.out] at hs
    have hk1 := HK0.out.below hb1 HK0.out.lt
    have HQ1 := Lib.hid (HQ0.out.below hb1 HQ0.out.lt)
    have p0 := hk1.cell 0
    have p1 := hk1.cell 1
    have pl := hk1.lt
    simp at p0 p1
    have HK1 := Lib.hid hk1
    have HB1 := Lib.hid (HB0.out.trans (hb1.mono HB0.out.size))
    have HSr := Lib.hid hs
    have HO := Lib.hid ho
    clear hb1 hk1 hs ho hlo
    go_wp2_with fail
    refine (HGd.out _).mono ?_; rintro e w2 ⟨rfl, hb2⟩
    have HB2 := Lib.hid (HB1.out.trans (hb2.mono HB1.out.size))
    have HQ2 := Lib.hid (HQ1.out.below hb2 HQ1.out.lt)
    have HK2 := Lib.hid (HK1.out.below hb2 HK1.out.lt)
    have HO2 := Lib.hid (HO.out.bel hb2)
    clear hb2
    go_upto_region 10 with fail
    subst hDi
    exact rest (W := W) k _ qa _ _ _ qn _ s HH.out.1 (by omega) HH.out.2 HSr.out HO2.out HK2.out HQ2.out HB2.out _ _ _ _ _ _ _ _ _ _ _ _ _ _ _ _ _ _ _ _ _ _ _ _ _ _ _ _ _ _ _ _ _ _ _ _ _ _ _ _ _ _ _ _ _ _ _ _ _ _ _ _ _ _ _ _ _ _ _ _ _ _ _ _ _ _ _ _ _ _ _ _ _ _ _ _ _ _ _ _ _ _ _ _ _ _ _ _ _ _ _ _ _ _ _ _ _ _ _ _ _ _ _ _ _ _ _ _ _ _ _ _ _ _ _ _ _ _ _ _ _ _ (by assumption)
  case inr.inr.inr =>
    have hd8 : ¬ d ≤ (8 : Int) := by omega
    have hd0 : ¬ d < (0 : Int) := by omega
    obtain ⟨D, hD⟩ : ∃ D, D = deepOf d := ⟨_, rfl⟩
    have hDi : D = 8 := by rw [hD]; unfold deepOf; omega
    have HD := Lib.hid hD
    clear hD
    go_upto_region 3 with fail
    go_wp2_with fail
    refine (HS.out _ _).mono ?_; rintro e w1 ⟨A, c, s, rfl, hs, ho, hlo, hb1⟩
    rw [← HD.out] at hs
    have hk1 := HK0.out.below hb1 HK0.out.lt
    have HQ1 := Lib.hid (HQ0.out.below hb1 HQ0.out.lt)
    have p0 := hk1.cell 0
    have p1 := hk1.cell 1
    have pl := hk1.lt
    simp at p0 p1
    have HK1 := Lib.hid hk1
    have HB1 := Lib.hid (HB0.out.trans (hb1.mono HB0.out.size))
    have HSr := Lib.hid hs
    have HO := Lib.hid ho
    clear hb1 hk1 hs ho hlo
    go_wp2_with fail
    refine (HGd.out _).mono ?_; rintro e w2 ⟨rfl, hb2⟩
    have HB2 := Lib.hid (HB1.out.trans (hb2.mono HB1.out.size))
    have HQ2 := Lib.hid (HQ1.out.below hb2 HQ1.out.lt)
    have HK2 := Lib.hid (HK1.out.below hb2 HK1.out.lt)
    have HO2 := Lib.hid (HO.out.bel hb2)
    clear hb2
    go_upto_region 10 with fail
    subst hDi
    exact rest (W := W) k _ qa _ _ _ qn _ s HH.out.1 (by omega) HH.out.2 HSr.out HO2.out HK2.out HQ2.out HB2.out _ _ _ _ _ _ _ _ _ _ _ _ _ _ _ _ _ _ _ _ _ _ _ _ _ _ _ _ _ _ _ _ _ _ _ _ _ _ _ _ _ _ _ _ _ _ _ _ _ _ _ _ _ _ _ _ _ _ _ _ _ _ _ _ _ _ _ _ _ _ _ _ _ _ _ _ _ _ _ _ _ _ _ _ _ _ _ _ _ _ _ _ _ _ _ _ _ _ _ _ _ _ _ _ _ _ _ _ _ _ _ _ _ _ _ _ _ _ _ _ _ _ (by assumption)

set_option maxRecDepth 100000 in
theorem walk {H : Type} {enc : TypeId × Value → H} {W : World} {base : Nat} {v0 v2 : Value} {d0 d2 : DataW H} {p0 p2 : List MemPlace}
    (hv0 : Value.okWide Try.prog W .any base 35 v0) (h0 : DataW.Trod enc Try.prog W 0 (fun _ => true) true 35 v0 d0 p0) (a1 : Int) (w1 : (Lit.int .i64 a1).wf = true) (hv2 : Value.okWide Try.prog W .any base 35 v2) (h2 : DataW.Trod enc Try.prog W 0 (fun _ => true) true 35 v2 d2 p2) :
    Calls Try.prog 5 #[v0, .int .i64 a1, v2] W fun e w' => e = .returned (.bool true) ∧ Below W.heap.size W w' := by
  obtain ⟨c0, c1, y0, y1, m, rfl, rfl, rfl, hy0, hy1⟩ := open_agg2 Try.underlying35 (by kernel_rfl) (by kernel_rfl) hv0 h0
  obtain ⟨p, e0, _, wp⟩ := DataW.trod_int Try.underlying33 hy0
  obtain ⟨n, e1, _, wn⟩ := DataW.trod_int Try.underlying3 hy1
  obtain ⟨c2, c3, y2, y3, m2, rfl, rfl, rfl, hy2, hy3⟩ := open_agg2 Try.underlying35 (by kernel_rfl) (by kernel_rfl) hv2 h2
  obtain ⟨q, e2, _, wq⟩ := DataW.trod_int Try.underlying33 hy2
  obtain ⟨u, e3, _, wu⟩ := DataW.trod_int Try.underlying3 hy3
  simp at e0 e1 e2 e3
  subst e0 e1 e2 e3
  have bp := wf_u32 wp
  have bq := wf_u32 wq
  obtain ⟨p, rfl⟩ := Int.eq_ofNat_of_zero_le bp.1
  obtain ⟨q, rfl⟩ := Int.eq_ofNat_of_zero_le bq.1
  by_cases hg : goodB p n = true
  · obtain ⟨e1, e2, e3⟩ := good_bits (show p < 4294967296 by omega) hg
    have h := good_core (bitsOf p n.toNat) q a1 u e3 (by omega) W
    rw [e1, e2] at h
    exact h
  · exact bad_core p q n a1 u (by omega) (by simpa using hg) W
end Go.Proofs.Ytpabblkppbfbjaa.walkSteps
