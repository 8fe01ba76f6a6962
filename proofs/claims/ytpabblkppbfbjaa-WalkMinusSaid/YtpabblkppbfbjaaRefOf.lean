/- What confluenceref15.Ends, Of and Size return. Conditions as each lemma states. -/
import Derived.Test.YtpabblkppbfbjaaRefAdd
import Derived.Test.YtpabblkppbfbjaaPfxRef0
import Derived.Test.YtpabblkppbfbjaaCount
import Derived.Test.YtpabblkppbfbjaaNlriSort
namespace Go.Proofs.Ytpabblkppbfbjaa.wlk
open Go.RowKit Go.Proofs.Ytpabblkppbfbjaa.kit Go.Proofs.Ytpabblkppbfbjaa.pfx Go.Proofs.Ytpabblkppbfbjaa.mem Go.Proofs.Ytpabblkppbfbjaa.foot Go.Proofs.Ytpabblkppbfbjaa.srt
set_option linter.unusedVariables false
set_option linter.unusedSimpArgs false

/-- a prefix's first and last address -/
def endsP (p : Pf) : Prt := (p.1, p.1 + 2 ^ (32 - p.2.toNat) - 1)
/-- the parts of the good ones -/
def ofL (l : List Pf) : List Prt := (l.filter gdP).map endsP
theorem endsP_ok {p : Pf} (h : gdP p = true) : PartOk (endsP p) := by
  obtain ⟨h1, h2⟩ := (gdP_iff p).1 h
  obtain ⟨h3, h4, h5⟩ := (goodB_iff _ _).1 h2
  have h0 := Nat.pow_pos (n := 32 - p.2.toNat) (show 0 < 2 by decide)
  have hp : 2 ^ p.2.toNat * 2 ^ (32 - p.2.toNat) = 4294967296 := by rw [← Nat.pow_add, show p.2.toNat + (32 - p.2.toNat) = 32 by omega]
  obtain ⟨q, hq⟩ := Nat.dvd_of_mod_eq_zero h5
  have hle : p.1 + 2 ^ (32 - p.2.toNat) ≤ 4294967296 := by
    generalize 2 ^ (32 - p.2.toNat) = z at *
    generalize 2 ^ p.2.toNat = y at *
    rw [← hp, hq, Nat.mul_comm z q] at h1
    have h6 := Nat.lt_of_mul_lt_mul_right h1
    have h7 : (q + 1) * z ≤ y * z := Nat.mul_le_mul_right _ h6
    rw [Nat.add_mul, Nat.one_mul, hp, Nat.mul_comm q z, ← hq] at h7
    exact h7
  unfold PartOk endsP
  dsimp only
  omega
theorem ofL_ok (l : List Pf) : ∀ x ∈ ofL l, PartOk x := by
  intro x hx
  obtain ⟨p, hp, rfl⟩ := List.mem_map.1 hx
  exact endsP_ok (List.mem_filter.1 hp).2
theorem ofL_len (l : List Pf) : (ofL l).length ≤ l.length := by
  unfold ofL
  rw [List.length_map]
  exact List.length_filter_le _ _
theorem ofL_snoc (l : List Pf) (p : Pf) : ofL (l ++ [p]) = ofL l ++ (if gdP p = true then [endsP p] else []) := by
  unfold ofL
  rw [List.filter_append, List.map_append]
  congr 1
  by_cases h : gdP p = true
  · rw [if_pos h, List.filter_cons_of_pos h]; rfl
  · rw [if_neg h, List.filter_cons_of_neg h]; rfl
theorem addsP_app (l xs ys : List Prt) : addsP l (xs ++ ys) = addsP (addsP l xs) ys := by unfold addsP; rw [List.foldl_append]
def ofP (l : List Pf) : List Prt := addsP [] (ofL l)
theorem ofP_len (l : List Pf) : (ofP l).length ≤ l.length := by
  have := addsP_len (ofL l) []
  have h2 := ofL_len l
  unfold ofP
  simp only [List.length_nil] at this
  omega
theorem ofP_ok (l : List Pf) : Parts (ofP l) ∧ ∀ n, InP (ofP l) n ↔ InP (ofL l) n := by
  obtain ⟨h1, h2⟩ := addsP_ok (ofL l) [] Parts.nil (ofL_ok l)
  refine ⟨h1, fun n => (h2 n).trans ⟨?_, .inr⟩⟩
  rintro (h | h)
  · exact absurd h (InP.nil n)
  · exact h

theorem info_prt2 : (Try.prog.info? 54).map (·.size) = some 2 := by kernel_rfl

set_option maxRecDepth 100000 in
set_option maxHeartbeats 1000000 in
theorem refEnds_any (p : Pf) (hg : gdP p = true) (w : World) :
    Calls Try.prog 32 #[.agg #[.int .u32 (p.1 : Int), .int .i64 p.2]] w fun e w' => e = .returned (.agg #[.int .i64 ((endsP p).1 : Int), .int .i64 ((endsP p).2 : Int)]) ∧ Below w.heap.size w w' := by
  have HOk := Lib.hid (endsP_ok hg)
  obtain ⟨h1, h2⟩ := (gdP_iff p).1 hg
  obtain ⟨h3, h4, h5⟩ := (goodB_iff _ _).1 h2
  obtain ⟨a, m⟩ := p
  obtain ⟨n, rfl⟩ := Int.eq_ofNat_of_zero_le h3
  dsimp only at *
  have hn : n ≤ 32 := by omega
  unfold endsP at *
  simp only [Int.toNat_natCast] at *
  clear h2 h3 h4 h5 hg
  obtain ⟨w1, hw1⟩ : ∃ w1, w1 = (w.alloc (.cells #[.int .u32 (a : Int), .int .i64 (n : Int)] 35)).alloc (.cells #[.int .i64 0, .int .i64 0] 54) := ⟨_, rfl⟩
  have HB : Hid (Below w.heap.size w w1) := by rw [hw1]; exact ((Below.refl _ _).alloc (Nat.le_refl _) _).alloc (by simp) _
  have HK : Hid (Bk w1 (w.heap.size + 1) 54 #[.int .i64 0, .int .i64 0]) := by
    rw [hw1]
    have := Bk.new (w.alloc (.cells #[.int .u32 (a : Int), .int .i64 (n : Int)] 35)) 54 #[.int .i64 0, .int .i64 0]
    rwa [World.size_alloc] at this
  have HK0 : Hid (Bk w1 w.heap.size 35 #[.int .u32 (a : Int), .int .i64 (n : Int)]) := by
    rw [hw1]
    exact (Bk.new w _ _).alloc _
  go_enter Try.func32, Try.ntmps32
  go_upto_region 1 with fail
  rw [← hw1]
  clear hw1
  have k0 := HK0.out.cell 0
  have k1 := HK0.out.cell 1
  simp at k0 k1
  have r := fun i => HK.out.cell i
  have rl := HK.out.lt
  have rf := fun i => HK.out.free i
  go_wp2_with fail
  go_loopw [3, 4] (fun v3 v4 wr => ∃ (i P : Nat), n ≤ i ∧ i ≤ 32 ∧ v4 = .int .i64 (i : Int) ∧ v3 = .int .i64 (P : Int) ∧ P = 2 ^ (i - n) ∧ P ≤ 4294967296 ∧ wr = w1) (fun _ v4 _ => 32 - (intOf v4).toNat)
  case atStart => exact ⟨n, 1, Nat.le_refl _, hn, rfl, rfl, by simp, by omega, rfl⟩
  case round =>
    obtain ⟨i, P, hni, hi, rfl, rfl, hP, hPl, rfl⟩ := hrel
    have HP := Lib.hid hP
    clear hP
    by_cases hlt : i < 32
    · have hPl2 : 2 * P ≤ 4294967296 := by
        have h : 2 * P = 2 ^ (i + 1 - n) := by rw [HP.out, show i + 1 - n = i - n + 1 by omega, Nat.pow_succ, Nat.mul_comm]
        rw [h]
        exact Nat.le_trans (Nat.pow_le_pow_right (by omega) (show i + 1 - n ≤ 32 by omega)) (by decide)
      go_wp2_with fail
      go_roundw
      case rel => exact ⟨i + 1, 2 * P, by omega, by omega, by go_num, by go_num, by rw [HP.out, show i + 1 - n = i - n + 1 by omega, Nat.pow_succ, Nat.mul_comm], hPl2, trivial⟩
      case measure => simp [intOf]; omega
    · obtain rfl : i = 32 := by omega
      have HPo : Hid (a + P ≤ 4294967296 ∧ 1 ≤ P) := by
        have h := HOk.out
        have h0 := Nat.pow_pos (n := 32 - n) (show 0 < 2 by decide)
        unfold PartOk at h
        dsimp only at h
        rw [Hid, HP.out]
        omega
      have hp1 : a + P ≤ 4294967296 := HPo.out.1
      have hp2 : 1 ≤ P := HPo.out.2
      go_wp2_with fail
      have hz : (a : Int) + (P : Int) - 1 = ((a + 2 ^ (32 - n) - 1 : Nat) : Int) := by rw [← HP.out]; omega
      rw [hz]
      have c1 := stores_all [.int .i64 (a : Int), .int .i64 ((a + 2 ^ (32 - n) - 1 : Nat) : Int)] HK.out rfl
      simp only [stores, Nat.zero_add] at c1
      refine bodyPost_ret (results_cell_row rfl _ _ (w.heap.size + 1) 54 _ (0, 0) _ rfl c1 Try.underlying54 rfl info_prt2) rfl ⟨rfl, ?_⟩
      exact (HB.out.setCell (p := ⟨w.heap.size + 1, 0, none⟩) (by show w.heap.size ≤ w.heap.size + 1; omega) _).setCell (p := ⟨w.heap.size + 1, 1, none⟩) (by show w.heap.size ≤ w.heap.size + 1; omega) _

theorem fv_twoO {w : World} {G : Foot} {b off n : Nat} {l : List Pf} (h : Rg w G 2 (some ⟨b, off, none⟩) n (fv l)) {i : Nat} {p : Pf} (hp : l[i]? = some p) (hn : 0 < n) :
    w.cell? ⟨b, off + i * 2, none⟩ = some (.int .u32 (p.1 : Int)) ∧ w.cell? ⟨b, off + i * 2 + 1, none⟩ = some (.int .i64 p.2) ∧ b < w.heap.size := by
  obtain ⟨b', off', e, _, hl, hc⟩ := h.2 hn
  cases e
  have hq := fv_at l i p hp
  exact ⟨hc _ _ hq.1, by rw [Nat.add_assoc]; exact hc _ _ hq.2, hl⟩

set_option maxRecDepth 100000 in
set_option maxHeartbeats 2000000 in
theorem refOf_any {G : Foot} (A : Option Addr) (c : Nat) (l : List Pf) (w : World) (hn : l.length ≤ 100000) (hw : ∀ x ∈ l, x.1 < 4294967296) (h : Rg w G 2 A l.length (fv l)) :
    Calls Try.prog 9 #[.slice A l.length c] w (RetQ (ofP l) w) := by
  have HR := Lib.hid h
  have HL := Lib.hid hw
  have HJ0 : Hid (Acc w 54 2 (w.alloc (.cells #[] 54)) (some ⟨w.heap.size, 0, none⟩) 0 0 []) := Acc.start ((Below.refl _ _).alloc (Nat.le_refl _) _) (Bk.new w _ _) (Nat.le_refl _)
  clear h hw
  go_enter Try.func9, Try.ntmps9
  go_wp2_with fail
  go_loopw [3, 4] (fun v3 v4 wr => ∃ (i : Nat) (A' : Option Addr) (c' m : Nat) (o : List Prt), i ≤ l.length ∧ v4 = .int .i64 (i : Int) ∧ v3 = .slice A' m c' ∧ m = o.length ∧ o = addsP [] (ofL (l.take i)) ∧ Acc w 54 2 wr A' m c' (qv o)) (fun _ v4 _ => l.length - (intOf v4).toNat)
  case atStart => exact ⟨0, _, _, 0, [], Nat.zero_le _, rfl, rfl, rfl, rfl, HJ0.out⟩
  case round =>
    obtain ⟨i, A1, c1, m, o, hi, rfl, rfl, hm, ho, hacc⟩ := hrel
    have HAcc := Lib.hid hacc
    have HO := Lib.hid (And.intro hm ho)
    clear hacc hm ho HJ0
    by_cases hlt : i < l.length
    · obtain ⟨p, hp⟩ : ∃ p, l[i]? = some p := ⟨l[i], List.getElem?_eq_getElem hlt⟩
      obtain ⟨b, off, rfl⟩ : ∃ b off, A = some ⟨b, off, none⟩ := by
        obtain ⟨b, off, e, _⟩ := HR.out.2 (by omega)
        exact ⟨b, off, e⟩
      have hpw := HL.out p (List.mem_of_getElem? hp)
      have HG := Lib.hid (fun w => ref_Good p.1 p.2 hpw w)
      have x0 := fv_twoO (HAcc.out.rg HR.out) hp (by omega)
      have p0 := x0.1
      have p1 := x0.2.1
      have hli : (i : Int) < (l.length : Int) := by omega
      have hgd : gdP p = goodB p.1 p.2 := by simp [gdP, hpw]
      have HGd := Lib.hid hgd
      have hsn : ofL (l.take (i + 1)) = ofL (l.take i) ++ (if gdP p = true then [endsP p] else []) := by
        rw [List.take_add_one, hp]
        exact ofL_snoc _ _
      have HSn := Lib.hid hsn
      have HPl := Lib.hid (And.intro hp hpw)
      have hol : o.length ≤ 100000 := by
        rw [HO.out.2]
        have h1 := addsP_len (ofL (l.take i)) []
        have h2 := ofL_len (l.take i)
        have h3 : (l.take i).length ≤ l.length := by rw [List.length_take]; omega
        simp only [List.length_nil] at h1
        omega
      have HOl := Lib.hid hol
      clear x0 hgd hsn hp hpw hol
      go_wp2_with fail
      refine (HG.out _).mono ?_; rintro e w1 ⟨rfl, hb1⟩
      have HAcc1 := Lib.hid (HAcc.out.go hb1)
      clear hb1 HG p0 p1 HAcc
      have x0 := fv_twoO (HAcc1.out.rg HR.out) HPl.out.1 (by omega)
      have p0 := x0.1
      have p1 := x0.2.1
      clear x0
      rw [← HGd.out]
      by_cases hg : gdP p = true
      · rw [hg]
        have HE := Lib.hid (fun w => refEnds_any p hg w)
        have HEo := Lib.hid (endsP_ok hg)
        have hsn := HSn.out
        rw [if_pos hg] at hsn
        have HSn2 := Lib.hid hsn
        clear hsn hg
        go_wp2_with fail
        refine (HE.out _).mono ?_; rintro e w2 ⟨rfl, hb2⟩
        have HAcc2 := Lib.hid (HAcc1.out.go hb2)
        clear hb2 HE p0 p1 HAcc1
        have hok : ∀ q ∈ o, PartOk q := by
          rw [HO.out.2]
          exact (addsP_ok (ofL (l.take i)) [] Parts.nil (ofL_ok _)).1.ok
        have HAd := Lib.hid (refAdd_any A1 c1 o (endsP p) w2 HOl.out hok HEo.out (by rw [← HO.out.1]; exact HAcc2.out.own.rg))
        rw [← HO.out.1] at HAd
        clear hok
        go_wp2_with fail
        refine HAd.out.mono ?_; rintro e w3 ⟨A3, c3, rfl, ho3, hlo3, hb3⟩
        have H3 : Hid (Acc w 54 2 w3 A3 (addP o (endsP p)).length c3 (qv (addP o (endsP p)))) := ⟨ho3, HAcc2.out.bel.trans (hb3.mono HAcc2.out.bel.size), fun x hx => Nat.le_trans HAcc2.out.bel.size (hlo3 x hx)⟩
        clear ho3 hlo3 hb3 HAd
        go_wp2_with fail
        go_roundw
        case rel => exact ⟨i + 1, A3, c3, _, addP o (endsP p), by omega, by go_num, rfl, rfl, by rw [HSn2.out, addsP_app, ← HO.out.2]; rfl, H3.out⟩
        case measure => simp [intOf]; omega
      · rw [show gdP p = false by simpa using hg]
        have hsn := HSn.out
        rw [if_neg hg, List.append_nil] at hsn
        have HSn2 := Lib.hid hsn
        clear hsn hg
        go_wp2_with fail
        go_roundw
        case rel => exact ⟨i + 1, A1, c1, m, o, by omega, by go_num, rfl, HO.out.1, by rw [HSn2.out]; exact HO.out.2, HAcc1.out⟩
        case measure => simp [intOf]; omega
    · obtain rfl : i = l.length := by omega
      have hO := HO.out
      rw [List.take_length] at hO
      have HO2 := Lib.hid hO
      clear hO HO
      go_wp2_with fail
      go_ret
      obtain ⟨rfl, ho⟩ := HO2.out
      rw [show addsP [] (ofL l) = ofP l from rfl] at ho
      subst ho
      exact ⟨A1, c1, rfl, HAcc.out.own, HAcc.out.low, HAcc.out.bel⟩

set_option maxRecDepth 100000 in
set_option maxHeartbeats 2000000 in
theorem refSizeP_any {G : Foot} (A : Option Addr) (c : Nat) (l : List Prt) (w : World) (hn : l.length ≤ 100000) (hl : ∀ p ∈ l, PartOk p) (h : Rg w G 2 A l.length (qv l)) :
    Calls Try.prog 13 #[.slice A l.length c] w fun e w' => e = .returned (.int .i64 (sizeP2 l : Int)) ∧ Below w.heap.size w w' := by
  have HR := Lib.hid h
  have HL := Lib.hid hl
  clear h hl
  go_enter Try.func13, Try.ntmps13
  go_wp2_with fail
  go_loopw [3, 4] (fun v3 v4 wr => ∃ (i : Nat), i ≤ l.length ∧ v4 = .int .i64 (i : Int) ∧ v3 = .int .i64 (sizeP2 (l.take i) : Int) ∧ Below w.heap.size w wr) (fun _ v4 _ => l.length - (intOf v4).toNat)
  case atStart => exact ⟨0, Nat.zero_le _, rfl, rfl, Below.refl _ _⟩
  case round =>
    obtain ⟨i, hi, rfl, rfl, hb⟩ := hrel
    have HB := Lib.hid hb
    clear hb
    by_cases hlt : i < l.length
    · obtain ⟨p, hp⟩ : ∃ p, l[i]? = some p := ⟨l[i], List.getElem?_eq_getElem hlt⟩
      obtain ⟨b, off, rfl⟩ : ∃ b off, A = some ⟨b, off, none⟩ := by
        obtain ⟨b, off, e, _⟩ := HR.out.2 (by omega)
        exact ⟨b, off, e⟩
      have hp2 : p.1 ≤ p.2 ∧ p.2 < 4294967296 := HL.out p (List.mem_of_getElem? hp)
      have x0 := rg_two (HR.out.bel HB.out) hp (by omega)
      have p0 := x0.1
      have p1 := x0.2.1
      have hli : (i : Int) < (l.length : Int) := by omega
      have hsn : sizeP2 (l.take (i + 1)) = sizeP2 (l.take i) + (p.2 + 1 - p.1) := by
        rw [List.take_add_one, hp]
        exact sizeP2_snoc _ _
      have hle : sizeP2 (l.take i) ≤ 100000 * 4294967296 := by
        have h1 := sizeP2_le (l.take i) fun q hq => HL.out q (List.mem_of_mem_take hq)
        have h2 : (l.take i).length ≤ 100000 := by rw [List.length_take]; omega
        exact Nat.le_trans h1 (Nat.mul_le_mul_right _ h2)
      obtain ⟨S, hS⟩ : ∃ S, S = sizeP2 (l.take i) := ⟨_, rfl⟩
      rw [← hS] at hsn hle ⊢
      have HSn := Lib.hid hsn
      clear hsn hS x0 hp
      go_wp2_with fail
      go_quiet (fail)
      go_wp2_with fail
      go_roundw
      case rel => exact ⟨i + 1, by omega, by go_num, by rw [HSn.out]; congr 1; omega, HB.out.trans (below_drewN (Below.refl _ _) _ |>.mono HB.out.size)⟩
      case measure => simp [intOf]; omega
    · obtain rfl : i = l.length := by omega
      rw [List.take_length]
      go_wp2_with fail
      go_ret
      exact ⟨rfl, HB.out⟩
end Go.Proofs.Ytpabblkppbfbjaa.wlk
