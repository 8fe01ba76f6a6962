/- The walk of the law WalkRanges: the Go text returns true and writes nothing that was there, as long as the table of bits holds what it was laid with. -/
import Derived.Test.YtpabblkppbfbjaaDoorRange
namespace Go.Proofs.YtpabblkppbfbjaaDoor.walkRanges
open Go.RowKit Go.Joins Go.Proofs.YtpabblkppbfbjaaDoor.kit Go.Proofs.YtpabblkppbfbjaaDoor.pfx Go.Proofs.YtpabblkppbfbjaaDoor.mem Go.Proofs.YtpabblkppbfbjaaDoor.foot Go.Proofs.YtpabblkppbfbjaaDoor.tri Go.Proofs.YtpabblkppbfbjaaDoor.srt Go.Proofs.YtpabblkppbfbjaaDoor.wlk
set_option linter.unusedVariables false
set_option linter.unusedSimpArgs false

set_option maxRecDepth 100000 in
set_option maxHeartbeats 4000000 in
theorem bad_core (f l a : Nat) (n : Int) (hf : f < 4294967296) (hl : l < 4294967296) (ha : a < 4294967296) (hg : goodB a n = false) (W : World) (hD : Db W) :
    Calls Tryd.prog 3 #[.int .u32 (f : Int), .int .u32 (l : Int), .agg #[.int .u32 (a : Int), .int .i64 n]] W fun e w' => e = .returned (.bool true) ∧ Below W.heap.size W w' := by
  have HD := Lib.hid hD
  have HE := Lib.hid (fun w => Ends_bad a n ha hg w)
  have HG := ref_Good a n ha
  rw [hg] at HG
  have HGd := Lib.hid HG
  have HB0 : Hid (Below W.heap.size W (W.alloc (.cells #[.int .u32 (a : Int), .int .i64 n] 24))) := (Below.refl _ _).alloc (Nat.le_refl _) _
  have HX0 : Hid (Bk (W.alloc (.cells #[.int .u32 (a : Int), .int .i64 n] 24)) W.heap.size 24 #[.int .u32 (a : Int), .int .i64 n]) := Bk.new W _ _
  clear hD hg HG
  go_enter Tryd.func3, Tryd.ntmps3
  go_wp2_with fail
  refine (HE.out _).mono ?_; rintro e w1 ⟨rfl, hb1⟩
  have HB1 : Hid (Below W.heap.size W (w1.alloc (.cells #[.int .i64 0, .int .i64 0] 28))) := by
    have h := HB0.out.trans (hb1.mono HB0.out.size)
    exact h.alloc h.size _
  have HX1 : Hid (Bk (w1.alloc (.cells #[.int .i64 0, .int .i64 0] 28)) W.heap.size 24 #[.int .u32 (a : Int), .int .i64 n]) := (HX0.out.below hb1 HX0.out.lt).alloc _
  have HY1 : Hid (Bk (w1.alloc (.cells #[.int .i64 0, .int .i64 0] 28)) w1.heap.size 28 #[.int .i64 0, .int .i64 0]) := Bk.new w1 _ _
  have hx1 := HX0.out.below hb1 HX0.out.lt
  have p0 := hx1.cell 0
  have p1 := hx1.cell 1
  have pl := hx1.lt
  simp at p0 p1
  clear hx1 hb1 HE HB0 HX0
  go_wp2_with fail
  refine (HGd.out _).mono ?_; rintro e w2 ⟨rfl, hb2⟩
  have HB2 := Lib.hid (HB1.out.trans (hb2.mono HB1.out.size))
  have HX2 := Lib.hid (HX1.out.below hb2 HX1.out.lt)
  have HY2 := Lib.hid (HY1.out.below hb2 HY1.out.lt)
  clear hb2 p0 p1 pl HB1 HX1 HY1
  generalize w1.heap.size = g1 at *
  have p0 := HX2.out.cell 0
  have p1 := HX2.out.cell 1
  have pl := HX2.out.lt
  simp at p0 p1
  go_wp2_with fail
  refine (HGd.out _).mono ?_; rintro e w3 ⟨rfl, hb3⟩
  have HB3 := Lib.hid (HB2.out.trans (hb3.mono HB2.out.size))
  have HY3 := Lib.hid (HY2.out.below hb3 HY2.out.lt)
  clear hb3 p0 p1 pl HB2 HX2 HY2
  have y0 := HY3.out.cell 0
  have y1 := HY3.out.cell 1
  have yl := HY3.out.lt
  simp at y0 y1
  by_cases hfl : f ≤ l
  · have d1 : decide ((f : Int) ≤ (l : Int)) = true := by simp; omega
    have hQ1 : Hid (Rg (((w3).alloc (.cells #[] 24)).alloc (.cells #[.int .i64 (f : Int), .int .i64 (l : Int)] 28)) (fun k => k = (w3).heap.size + 1) 2 (some ⟨(w3).heap.size + 1, 0, none⟩) 1 (qv [(f, l)])) := by
      have h := Bk.new ((w3).alloc (.cells #[] 24)) 28 #[.int .i64 (f : Int), .int .i64 (l : Int)]
      rw [World.size_alloc] at h
      exact rg_box h
    have HBq : Hid (Below W.heap.size W (((w3).alloc (.cells #[] 24)).alloc (.cells #[.int .i64 (f : Int), .int .i64 (l : Int)] 28))) := by
      have h1 := HB3.out.alloc HB3.out.size (.cells #[] 24)
      exact h1.alloc h1.size _
    have HPr := Lib.hid (refPrefixes_any (some ⟨(w3).heap.size + 1, 0, none⟩) 1 [(f, l)] _ (show 1 ≤ 10000 by omega) (fun p hp => by rw [List.mem_singleton.1 hp]; exact ⟨hfl, hl⟩) hQ1.out)
    have hblk : blks [(f, l)] = gr f (l + 1 - f) := by simp [blks, blk]
    rw [hblk] at HPr
    clear hblk
    go_wp2_with fail
    refine HPr.out.mono ?_; rintro e w6 ⟨A6, c6, rfl, ho6, hlo6, hb6⟩
    have HB6 := Lib.hid (HBq.out.trans (hb6.mono HBq.out.size))
    have HRg := Lib.hid (Range_any f l hf hl w6 (HD.out.below HB6.out HD.out.pos))
    have HR6 := Lib.hid ho6.rg
    clear hb6 ho6 hlo6 HPr HBq hQ1
    go_wp2_with fail
    refine HRg.out.mono ?_; rintro e w7 ⟨A7, c7, rfl, ho7, hlo7, hb7⟩
    have HB7 := Lib.hid (HB6.out.trans (hb7.mono HB6.out.size))
    have HSm := Lib.hid (sameP_eq A7 A6 c7 c6 (gr f (l + 1 - f)) w7 (by have := gr_len (a := f) (r := l + 1 - f) (by omega); omega) ho7.rg (HR6.out.bel hb7))
    clear ho7 hlo7 hb7 HRg HR6 HB6
    go_wp2_with fail
    refine HSm.out.mono ?_; rintro e w8 ⟨rfl, hb8⟩
    have HB8 := Lib.hid (HB7.out.trans (hb8.mono HB7.out.size))
    clear hb8 HSm HB7
    go_wp2_with fail
    refine (lives_any _).mono ?_; rintro e w9 ⟨rfl, hb9⟩
    have HB9 := Lib.hid (HB8.out.trans (hb9.mono HB8.out.size))
    clear hb9
    go_wp2_with fail
    go_ret
    exact ⟨rfl, HB9.out⟩
  · have d1 : decide ((f : Int) ≤ (l : Int)) = false := by simp; omega
    have HB6 : Hid (Below W.heap.size W ((w3).alloc (.cells #[] 24))) := HB3.out.alloc HB3.out.size _
    have HRg := Lib.hid (Range_any f l hf hl ((w3).alloc (.cells #[] 24)) (HD.out.below HB6.out HD.out.pos))
    rw [show l + 1 - f = 0 by omega, gr_zero] at HRg
    have HR6 : Hid (Rg ((w3).alloc (.cells #[] 24)) (fun _ => True) 2 (some ⟨(w3).heap.size, 0, none⟩) 0 (fv [])) := Rg.nil _ _ _ _
    go_wp2_with fail
    refine HRg.out.mono ?_; rintro e w7 ⟨A7, c7, rfl, ho7, hlo7, hb7⟩
    have HB7 := Lib.hid (HB6.out.trans (hb7.mono HB6.out.size))
    have HSm := Lib.hid (sameP_eq A7 (some ⟨(w3).heap.size, 0, none⟩) c7 0 [] w7 (by simp) ho7.rg (HR6.out.bel hb7))
    clear ho7 hlo7 hb7 HRg HR6 HB6
    go_wp2_with fail
    refine HSm.out.mono ?_; rintro e w8 ⟨rfl, hb8⟩
    have HB8 := Lib.hid (HB7.out.trans (hb8.mono HB7.out.size))
    clear hb8 HSm HB7
    go_wp2_with fail
    refine (lives_any _).mono ?_; rintro e w9 ⟨rfl, hb9⟩
    have HB9 := Lib.hid (HB8.out.trans (hb9.mono HB8.out.size))
    clear hb9
    go_wp2_with fail
    go_ret
    exact ⟨rfl, HB9.out⟩

set_option maxRecDepth 100000 in
set_option maxHeartbeats 4000000 in
theorem good_core (f l : Nat) (k : Key) (hf : f < 4294967296) (hl : l < 4294967296) (hk : k.length ≤ 32) (W : World) (hD : Db W) :
    Calls Tryd.prog 3 #[.int .u32 (f : Int), .int .u32 (l : Int), .agg #[.int .u32 (adr k : Int), .int .i64 (k.length : Int)]] W fun e w' => e = .returned (.bool true) ∧ Below W.heap.size W w' := by
  have HD := Lib.hid hD
  have HE := Lib.hid (fun w => Ends_ok k hk w)
  have HR := Lib.hid (fun w => refEnds_any (kp k) (gdP_kp hk) w)
  have HG := ref_Good (adr k) k.length (adr_lt hk)
  rw [good_adr hk] at HG
  have HGd := Lib.hid HG
  have hok : (endsP (kp k)).1 ≤ (endsP (kp k)).2 ∧ (endsP (kp k)).2 < 4294967296 := endsP_ok (gdP_kp hk)
  obtain ⟨x, hx⟩ : ∃ x, x = (endsP (kp k)).1 := ⟨_, rfl⟩
  obtain ⟨y, hy⟩ : ∃ y, y = (endsP (kp k)).2 := ⟨_, rfl⟩
  rw [← hx, ← hy] at HE HR hok
  simp only [kp] at HR
  have hx32 : x < 4294967296 := by omega
  have hy32 : y < 4294967296 := by omega
  generalize adr k = a at *
  generalize k.length = n at *
  have HB0 : Hid (Below W.heap.size W (W.alloc (.cells #[.int .u32 (a : Int), .int .i64 (n : Int)] 24))) := (Below.refl _ _).alloc (Nat.le_refl _) _
  have HX0 : Hid (Bk (W.alloc (.cells #[.int .u32 (a : Int), .int .i64 (n : Int)] 24)) W.heap.size 24 #[.int .u32 (a : Int), .int .i64 (n : Int)]) := Bk.new W _ _
  clear hD HG hx hy hok
  go_enter Tryd.func3, Tryd.ntmps3
  go_wp2_with fail
  refine (HE.out _).mono ?_; rintro e w1 ⟨rfl, hb1⟩
  have HB1 : Hid (Below W.heap.size W (w1.alloc (.cells #[.int .i64 0, .int .i64 0] 28))) := by
    have h := HB0.out.trans (hb1.mono HB0.out.size)
    exact h.alloc h.size _
  have HX1 : Hid (Bk (w1.alloc (.cells #[.int .i64 0, .int .i64 0] 28)) W.heap.size 24 #[.int .u32 (a : Int), .int .i64 (n : Int)]) := (HX0.out.below hb1 HX0.out.lt).alloc _
  have HY1 : Hid (Bk (w1.alloc (.cells #[.int .i64 0, .int .i64 0] 28)) w1.heap.size 28 #[.int .i64 0, .int .i64 0]) := Bk.new w1 _ _
  have hx1 := HX0.out.below hb1 HX0.out.lt
  have p0 := hx1.cell 0
  have p1 := hx1.cell 1
  have pl := hx1.lt
  simp at p0 p1
  have HGe : Hid (W.heap.size ≤ w1.heap.size ∧ W.heap.size ≠ w1.heap.size) := ⟨Nat.le_of_lt hx1.lt, fun e => by have := hx1.lt; omega⟩
  clear hx1 hb1 HE HB0 HX0
  go_wp2_with fail
  refine (HGd.out _).mono ?_; rintro e w2 ⟨rfl, hb2⟩
  have HB2 := Lib.hid (HB1.out.trans (hb2.mono HB1.out.size))
  have HX2 := Lib.hid (HX1.out.below hb2 HX1.out.lt)
  have HY2 := Lib.hid (HY1.out.below hb2 HY1.out.lt)
  clear hb2 p0 p1 pl HB1 HX1 HY1
  generalize w1.heap.size = g1 at *
  have p0 := HX2.out.cell 0
  have p1 := HX2.out.cell 1
  have pl := HX2.out.lt
  simp at p0 p1
  go_wp2_with fail
  refine (HR.out _).mono ?_; rintro e w3 ⟨rfl, hb3⟩
  have HB3 := Lib.hid (HB2.out.trans (hb3.mono HB2.out.size))
  have HX3 := Lib.hid (HX2.out.below hb3 HX2.out.lt)
  have HY3 := Lib.hid (HY2.out.below hb3 HY2.out.lt)
  clear hb3 p0 p1 pl HB2 HX2 HY2 HR
  have q0 := fun i => HY3.out.cell i
  have ql := HY3.out.lt
  have qf := fun i => HY3.out.free i
  go_upto_region 5 with fail
  obtain ⟨w4, hw4⟩ : ∃ w4, w4 = (w3.setCell ⟨g1, 0, none⟩ (.int .i64 (x : Int))).setCell ⟨g1, 1, none⟩ (.int .i64 (y : Int)) := ⟨_, rfl⟩
  rw [← hw4]
  have c1 := stores_all [.int .i64 (x : Int), .int .i64 (y : Int)] HY3.out rfl
  have c2 := stores_far [.int .i64 (x : Int), .int .i64 (y : Int)] 0 HX3.out HGe.out.2
  simp only [stores, Nat.zero_add] at c1 c2
  have HY4 : Hid (Bk w4 g1 28 #[.int .i64 (x : Int), .int .i64 (y : Int)]) := by rw [hw4]; exact c1
  have HX4 : Hid (Bk w4 W.heap.size 24 #[.int .u32 (a : Int), .int .i64 (n : Int)]) := by rw [hw4]; exact c2
  have HB4 : Hid (Below W.heap.size W w4) := by rw [hw4]; exact (HB3.out.setCell (p := ⟨g1, 0, none⟩) HGe.out.1 _).setCell (p := ⟨g1, 1, none⟩) HGe.out.1 _
  clear c1 c2 hw4 q0 ql qf HX3 HY3 HB3 HGe
  have p0 := HX4.out.cell 0
  have p1 := HX4.out.cell 1
  have pl := HX4.out.lt
  simp at p0 p1
  go_wp2_with fail
  refine (HGd.out _).mono ?_; rintro e w5 ⟨rfl, hb5⟩
  have HB5 := Lib.hid (HB4.out.trans (hb5.mono HB4.out.size))
  have HY5 := Lib.hid (HY4.out.below hb5 HY4.out.lt)
  clear hb5 p0 p1 pl HB4 HX4 HY4
  have y0 := HY5.out.cell 0
  have y1 := HY5.out.cell 1
  have yl := HY5.out.lt
  simp at y0 y1
  by_cases hfl : f ≤ l
  · have d1 : decide ((f : Int) ≤ (l : Int)) = true := by simp; omega
    have hQ1 : Hid (Rg (((w5).alloc (.cells #[] 24)).alloc (.cells #[.int .i64 (f : Int), .int .i64 (l : Int)] 28)) (fun k => k = (w5).heap.size + 1) 2 (some ⟨(w5).heap.size + 1, 0, none⟩) 1 (qv [(f, l)])) := by
      have h := Bk.new ((w5).alloc (.cells #[] 24)) 28 #[.int .i64 (f : Int), .int .i64 (l : Int)]
      rw [World.size_alloc] at h
      exact rg_box h
    have HBq : Hid (Below W.heap.size W (((w5).alloc (.cells #[] 24)).alloc (.cells #[.int .i64 (f : Int), .int .i64 (l : Int)] 28))) := by
      have h1 := HB5.out.alloc HB5.out.size (.cells #[] 24)
      exact h1.alloc h1.size _
    have HPr := Lib.hid (refPrefixes_any (some ⟨(w5).heap.size + 1, 0, none⟩) 1 [(f, l)] _ (show 1 ≤ 10000 by omega) (fun p hp => by rw [List.mem_singleton.1 hp]; exact ⟨hfl, hl⟩) hQ1.out)
    have hblk : blks [(f, l)] = gr f (l + 1 - f) := by simp [blks, blk]
    rw [hblk] at HPr
    clear hblk
    go_wp2_with fail
    refine HPr.out.mono ?_; rintro e w6 ⟨A6, c6, rfl, ho6, hlo6, hb6⟩
    have HB6 := Lib.hid (HBq.out.trans (hb6.mono HBq.out.size))
    have HRg := Lib.hid (Range_any f l hf hl w6 (HD.out.below HB6.out HD.out.pos))
    have HR6 := Lib.hid ho6.rg
    clear hb6 ho6 hlo6 HPr HBq hQ1
    go_wp2_with fail
    refine HRg.out.mono ?_; rintro e w7 ⟨A7, c7, rfl, ho7, hlo7, hb7⟩
    have HB7 := Lib.hid (HB6.out.trans (hb7.mono HB6.out.size))
    have HSm := Lib.hid (sameP_eq A7 A6 c7 c6 (gr f (l + 1 - f)) w7 (by have := gr_len (a := f) (r := l + 1 - f) (by omega); omega) ho7.rg (HR6.out.bel hb7))
    clear ho7 hlo7 hb7 HRg HR6 HB6
    go_wp2_with fail
    refine HSm.out.mono ?_; rintro e w8 ⟨rfl, hb8⟩
    have HB8 := Lib.hid (HB7.out.trans (hb8.mono HB7.out.size))
    clear hb8 HSm HB7
    go_wp2_with fail
    refine (lives_any _).mono ?_; rintro e w9 ⟨rfl, hb9⟩
    have HB9 := Lib.hid (HB8.out.trans (hb9.mono HB8.out.size))
    clear hb9
    go_wp2_with fail
    go_ret
    exact ⟨rfl, HB9.out⟩
  · have d1 : decide ((f : Int) ≤ (l : Int)) = false := by simp; omega
    have HB6 : Hid (Below W.heap.size W ((w5).alloc (.cells #[] 24))) := HB5.out.alloc HB5.out.size _
    have HRg := Lib.hid (Range_any f l hf hl ((w5).alloc (.cells #[] 24)) (HD.out.below HB6.out HD.out.pos))
    rw [show l + 1 - f = 0 by omega, gr_zero] at HRg
    have HR6 : Hid (Rg ((w5).alloc (.cells #[] 24)) (fun _ => True) 2 (some ⟨(w5).heap.size, 0, none⟩) 0 (fv [])) := Rg.nil _ _ _ _
    go_wp2_with fail
    refine HRg.out.mono ?_; rintro e w7 ⟨A7, c7, rfl, ho7, hlo7, hb7⟩
    have HB7 := Lib.hid (HB6.out.trans (hb7.mono HB6.out.size))
    have HSm := Lib.hid (sameP_eq A7 (some ⟨(w5).heap.size, 0, none⟩) c7 0 [] w7 (by simp) ho7.rg (HR6.out.bel hb7))
    clear ho7 hlo7 hb7 HRg HR6 HB6
    go_wp2_with fail
    refine HSm.out.mono ?_; rintro e w8 ⟨rfl, hb8⟩
    have HB8 := Lib.hid (HB7.out.trans (hb8.mono HB7.out.size))
    clear hb8 HSm HB7
    go_wp2_with fail
    refine (lives_any _).mono ?_; rintro e w9 ⟨rfl, hb9⟩
    have HB9 := Lib.hid (HB8.out.trans (hb9.mono HB8.out.size))
    clear hb9
    go_wp2_with fail
    go_ret
    exact ⟨rfl, HB9.out⟩

set_option maxRecDepth 100000 in
theorem walk {H : Type} {enc : TypeId × Value → H} {W : World} {base : Nat} {v2 : Value} {d2 : DataW H} {p2 : List MemPlace}
    (a0 : Int) (w0 : (Lit.int .u32 a0).wf = true) (a1 : Int) (w1 : (Lit.int .u32 a1).wf = true) (hv2 : Value.okWide Tryd.prog W .any base 24 v2) (h2 : DataW.Trod enc Tryd.prog W 0 (fun _ => true) true 24 v2 d2 p2) (hL : laidMetH Tryd.prog Rows.walkRangesRow.laid W) :
    Calls Tryd.prog 3 #[.int .u32 a0, .int .u32 a1, v2] W fun e w' => e = .returned (.bool true) ∧ Below W.heap.size W w' := by
  obtain ⟨c2, c3, y2, y3, m2, rfl, rfl, rfl, hy2, hy3⟩ := open_agg2 Tryd.underlying24 (by kernel_rfl) (by kernel_rfl) hv2 h2
  obtain ⟨q, e2, _, wq⟩ := DataW.trod_int Tryd.underlying22 hy2
  obtain ⟨u, e3, _, wu⟩ := DataW.trod_int Tryd.underlying3 hy3
  simp at e2 e3
  subst e2 e3
  have bq := wf_u32 wq
  have b0 := wf_u32 w0
  have b1 := wf_u32 w1
  obtain ⟨q, rfl⟩ := Int.eq_ofNat_of_zero_le bq.1
  obtain ⟨f, rfl⟩ := Int.eq_ofNat_of_zero_le b0.1
  obtain ⟨l, rfl⟩ := Int.eq_ofNat_of_zero_le b1.1
  have hD := db_of hL
  by_cases hg : goodB q u = true
  · obtain ⟨e1, e2, e3⟩ := good_bits (show q < 4294967296 by omega) hg
    have h := good_core f l (bitsOf q u.toNat) (by omega) (by omega) e3 W hD
    rw [e1, e2] at h
    exact h
  · exact bad_core f l q u (by omega) (by omega) (by omega) (by simpa using hg) W hD
end Go.Proofs.YtpabblkppbfbjaaDoor.walkRanges
