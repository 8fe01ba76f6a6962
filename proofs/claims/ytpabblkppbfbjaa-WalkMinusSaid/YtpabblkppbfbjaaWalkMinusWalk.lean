/- The walk of the law WalkMinus: the Go text returns true and writes nothing that was there. No condition. -/
import Derived.Test.YtpabblkppbfbjaaWalkBoth
import Derived.Test.YtpabblkppbfbjaaRefBoth
namespace Go.Proofs.Ytpabblkppbfbjaa.walkMinus
open Go.RowKit Go.Joins Go.Proofs.Ytpabblkppbfbjaa.kit Go.Proofs.Ytpabblkppbfbjaa.pfx Go.Proofs.Ytpabblkppbfbjaa.mem Go.Proofs.Ytpabblkppbfbjaa.foot Go.Proofs.Ytpabblkppbfbjaa.tri Go.Proofs.Ytpabblkppbfbjaa.srt Go.Proofs.Ytpabblkppbfbjaa.wlk
set_option linter.unusedVariables false
set_option linter.unusedSimpArgs false

/-- a row that is there -/
def Row (w : World) (A : Option Addr) (n c : Nat) (L : List Pf) : Prop := L.length = n ∧ (A = none → c = 0) ∧ n ≤ c ∧ Rg w (fun _ => True) 2 A n (fv L)
theorem Row.of {w' : World} {A : Option Addr} {n c : Nat} {L : List Pf} (h : Own w' 35 2 A n c (fv L)) : Row w' A n c L :=
  ⟨own_len h, h.nil, h.cap, h.rg.mono fun k _ hk => trivial⟩
theorem Row.go {w w' : World} {A : Option Addr} {n c : Nat} {L : List Pf} (h : Row w A n c L) (hb : Below w.heap.size w w') : Row w' A n c L := ⟨h.1, h.2.1, h.2.2.1, h.2.2.2.bel hb⟩
def RowQ (w : World) (A : Option Addr) (L : List Prt) : Prop := Rg w (fun _ => True) 2 A L.length (qv L)
theorem RowQ.go {w w' : World} {A : Option Addr} {L : List Prt} (h : RowQ w A L) (hb : Below w.heap.size w w') : RowQ w' A L := Rg.bel h hb

theorem minus_law {p : Pf} {L : List Pf} {rs : List Key} (h32 : ∀ k ∈ rs, k.length ≤ 32) (hc : Canon (rs.map kb)) (h : ∀ n, Cov (rs.map kb) n ↔ InP (ofP [p]) n ∧ ¬ InP (ofP L) n) : rs.map kp = blks (bothP (ofP [p]) (restP (ofP L))) := by
  have h1 := (ofP_ok [p]).1
  have h2 := restP_ok (ofP_ok L).1
  have h3 := bothP_ok h1.ok h2.1.ok
  refine canon_law h3.1 h32 hc fun n => (h n).trans ?_
  rw [h3.2 n, h2.2 n]
  constructor
  · rintro ⟨k1, k2⟩
    refine ⟨k1, ?_, k2⟩
    obtain ⟨x, hx, hn⟩ := k1
    have := h1.ok x hx
    unfold PartOk at this
    omega
  · rintro ⟨k1, _, k2⟩
    exact ⟨k1, k2⟩
theorem both_law {L M : List Pf} {rs : List Key} (h32 : ∀ k ∈ rs, k.length ≤ 32) (hc : Canon (rs.map kb)) (h : ∀ n, Cov (rs.map kb) n ↔ InP (ofP L) n ∧ InP (ofP M) n) : rs.map kp = blks (bothP (ofP L) (ofP M)) := by
  have h3 := bothP_ok (ofP_ok L).1.ok (ofP_ok M).1.ok
  exact canon_law h3.1 h32 hc fun n => (h n).trans (h3.2 n).symm
theorem bothP_len (a b : List Prt) : (bothP a b).length ≤ a.length * b.length := by
  have h1 := addsP_len (meets a b) []
  have h2 := meets_len a b
  unfold bothP
  simp only [List.length_nil] at h1
  omega
theorem blks_small (a b : List Prt) (ha : a.length ≤ 21) (hb : b.length ≤ 21) (hao : ∀ p ∈ a, PartOk p) (hbo : ∀ p ∈ b, PartOk p) : (bothP a b).length ≤ 441 ∧ (blks (bothP a b)).length ≤ 28665 := by
  have h1 := bothP_len a b
  have h2 : a.length * b.length ≤ 21 * 21 := Nat.mul_le_mul ha hb
  have h3 := blks_len (bothP a b) (bothP_ok hao hbo).1.ok
  omega
theorem span_sum {p : Pf} {L : List Pf} {rs r2 ks k2 : List Key} (hr : ∀ k ∈ rs, k.length ≤ 32) (h : ∀ n, Cov (rs.map kb) n ↔ InP (ofP [p]) n ∧ ¬ InP (ofP L) n) (hr2 : ∀ k ∈ r2, k.length ≤ 32) (h2 : ∀ n, Cov (r2.map kb) n ↔ InP (ofP [p]) n ∧ InP (ofP L) n)
    (hs : IsSort gdP (rs.map kp) (ks.map kp)) (h32 : ∀ k ∈ ks, k.length ≤ 32) (hs2 : IsSort gdP (r2.map kp) (k2.map kp)) (h322 : ∀ k ∈ k2, k.length ≤ 32) : spanK (topsK ks) + spanK (topsK k2) = sizeP2 (ofP [p]) := by
  have t1 := tops_ok h32 hs.strict
  have t2 := tops_ok h322 hs2.strict
  have c1 : ∀ n, Cov ((topsK ks).map kb) n ↔ InP (ofP [p]) n ∧ ¬ InP (ofP L) n := fun n => (t1.covs h32 n).trans ((cov_same hr hs n).trans (h n))
  have c2 : ∀ n, Cov ((topsK k2).map kb) n ↔ InP (ofP [p]) n ∧ InP (ofP L) n := fun n => (t2.covs h322 n).trans ((cov_same hr2 hs2 n).trans (h2 n))
  rw [spanK_blk, spanK_blk]
  refine blk_part2 t1.chain (kbs_lt (tops_32 h32)) t2.chain (kbs_lt (tops_32 h322)) (ofP_ok [p]).1 (fun n => ?_) fun n => ?_
  · rw [c1 n, c2 n]
    constructor
    · rintro (h | h)
      · exact h.1
      · exact h.1
    · intro h
      by_cases hl : InP (ofP L) n
      · exact .inr ⟨h, hl⟩
      · exact .inl ⟨h, hl⟩
  · rw [c1 n, c2 n]
    rintro ⟨h1, h2⟩
    exact h1.2 h2.2

set_option maxRecDepth 100000 in
set_option maxHeartbeats 8000000 in
theorem core (p : Pf) (A B : Option Addr) (c d : Nat) (l r : List Pf) (W : World) (hp : p.1 < 4294967296) (hA : A = none → c = 0) (hB : B = none → d = 0) (hc : l.length ≤ c) (hd : r.length ≤ d) (hm : l.length ≤ maxLen) (hm' : r.length ≤ maxLen) (hw : ∀ x ∈ l, x.1 < 4294967296) (hw' : ∀ x ∈ r, x.1 < 4294967296) (h : Rg W (fun _ => True) 2 A l.length (fv l)) (h' : Rg W (fun _ => True) 2 B r.length (fv r)) :
    Calls Try.prog 6 #[.agg #[.int .u32 (p.1 : Int), .int .i64 p.2], .slice A l.length c, .slice B r.length d] W fun e w' => e = .returned (.bool true) ∧ Below W.heap.size W w' := by
  obtain ⟨w1, hw1⟩ : ∃ w1, w1 = W.alloc (.cells #[.int .u32 (p.1 : Int), .int .i64 p.2] 35) := ⟨_, rfl⟩
  have HB : Hid (Below W.heap.size W w1) := by rw [hw1]; exact (Below.refl _ _).alloc (Nat.le_refl _) _
  have HX : Hid (Bk w1 W.heap.size 35 #[.int .u32 (p.1 : Int), .int .i64 p.2]) := by rw [hw1]; exact Bk.new W _ _
  have HFa := Lib.hid (fewP_any A c l 20 w1 (by omega) hc hm hA (h.bel HB.out))
  have HFb := Lib.hid (fun (w' : World) (hb : Below w1.heap.size w1 w') => fewP_any B d r 20 w' (by omega) hd hm' hB (h'.bel (HB.out.trans (hb.mono HB.out.size))))
  obtain ⟨L, hL⟩ : ∃ L, L = l.take 20 := ⟨_, rfl⟩
  obtain ⟨M, hM⟩ : ∃ M, M = r.take 20 := ⟨_, rfl⟩
  have HLw : Hid (∀ x ∈ L, x.1 < 4294967296) := by rw [Hid, hL]; exact fun x hx => hw x (List.mem_of_mem_take hx)
  have HMw : Hid (∀ x ∈ M, x.1 < 4294967296) := by rw [Hid, hM]; exact fun x hx => hw' x (List.mem_of_mem_take hx)
  have HPw : Hid (∀ x ∈ [p], x.1 < 4294967296) := by rw [Hid]; intro x hx; rw [List.mem_singleton.1 hx]; exact hp
  have hL20 : L.length ≤ 20 := by rw [hL, List.length_take]; omega
  have hM20 : M.length ≤ 20 := by rw [hM, List.length_take]; omega
  rw [← hL] at HFa
  rw [← hM] at HFb
  have HPp := Lib.hid hp
  clear h h' hA hB hw hw' hm hm' hc hd hL hM hp
  go_enter Try.func6, Try.ntmps6
  go_upto_region 1 with fail
  rw [← hw1]
  clear hw1
  have HB1 := Lib.hid (Below.refl w1.heap.size w1)
  go_wp2_with fail
  refine (HFa.out).mono ?_; rintro e w2 ⟨A1, c1, rfl, ho, hlo, hb⟩
  replace HX := Lib.hid (HX.out.below hb HX.out.lt)
  replace HB := Lib.hid (HB.out.trans (hb.mono HB.out.size))
  have RL := Lib.hid (Row.of ho)
  have HBx := Lib.hid hb
  clear ho hlo HB1 HFa
  clear hb
  have HFewRL := Lib.hid (fun (w : World) (hr : Row w A1 L.length c1 L) => fewP_any A1 c1 L 20 w (by omega) hr.2.2.1 (by unfold maxLen; omega) hr.2.1 hr.2.2.2)
  rw [show L.take 20 = L from List.take_of_length_le hL20] at HFewRL
  go_wp2_with fail
  refine (HFb.out _ HBx.out).mono ?_; rintro e w3 ⟨A2, c2, rfl, ho, hlo, hb⟩
  replace RL := Lib.hid (RL.out.go hb)
  replace HX := Lib.hid (HX.out.below hb HX.out.lt)
  replace HB := Lib.hid (HB.out.trans (hb.mono HB.out.size))
  have RM := Lib.hid (Row.of ho)
  clear ho hlo HFb HBx
  clear hb
  have HFewRM := Lib.hid (fun (w : World) (hr : Row w A2 M.length c2 M) => fewP_any A2 c2 M 20 w (by omega) hr.2.2.1 (by unfold maxLen; omega) hr.2.1 hr.2.2.2)
  rw [show M.take 20 = M from List.take_of_length_le hM20] at HFewRM
  have k0 := HX.out.cell 0
  have k1 := HX.out.cell 1
  have kl := HX.out.lt
  simp at k0 k1
  go_upto_region 3 with fail
  obtain ⟨wz, hwz⟩ : ∃ wz, wz = w3.alloc (.cells #[.int .u32 (p.1 : Int), .int .i64 p.2] 35) := ⟨_, rfl⟩
  have hbz : Below w3.heap.size w3 wz := by rw [hwz]; exact (Below.refl _ _).alloc (Nat.le_refl _) _
  have R1 : Hid (Row wz (some ⟨w3.heap.size, 0, none⟩) 1 1 [p]) := by
    rw [hwz]
    exact Row.of (Own.made w3 35 2 1 1 #[.int .u32 (p.1 : Int), .int .i64 p.2] (fv [p]) (Nat.le_refl _) (by unfold maxLen; omega) rfl rfl rfl)
  rw [← hwz]
  replace RL := Lib.hid (RL.out.go hbz)
  replace RM := Lib.hid (RM.out.go hbz)
  replace HX := Lib.hid (HX.out.below hbz HX.out.lt)
  replace HB := Lib.hid (HB.out.trans (hbz.mono HB.out.size))
  clear hbz hwz k0 k1 kl
  generalize w3.heap.size = g1 at *
  have q0 := HX.out.cell 0
  have q1 := HX.out.cell 1
  have hgl := HX.out.lt
  simp at q0 q1
  have HS5 : Hid (wz.cell? ⟨W.heap.size, 0, none⟩ = some (.int .u32 (p.1 : Int)) ∧ wz.cell? ⟨W.heap.size, 1, none⟩ = some (.int .i64 p.2)) := ⟨q0, q1⟩
  go_region_held3 (fun w' => w'.cell? ⟨W.heap.size, 0, none⟩ = some (.int .u32 (p.1 : Int)) ∧ w'.cell? ⟨W.heap.size, 1, none⟩ = some (.int .i64 p.2)) (first | exact HS5.out | exact ⟨by go_simp, by go_simp⟩) (first
    | (go_at_call 7; refine (HFewRL.out _ (RL.out.go (below_drewN (Below.refl _ _) 1))).mono ?_; rintro e wf ⟨A3, c3, rfl, ho3, hlo3, hb3⟩; go_must (have hbf := ((Below.refl wz.heap.size wz).drew).trans hb3); go_must (have HXf := Lib.hid (HX.out.below hbf HX.out.lt)); go_must (have HBf := Lib.hid hbf); go_must (have RF := Lib.hid (And.intro (Row.of ho3).2.1 (Row.of ho3).2.2.2)); go_must (have HS5 : Hid (wf.cell? ⟨W.heap.size, 0, none⟩ = some (.int .u32 (p.1 : Int)) ∧ wf.cell? ⟨W.heap.size, 1, none⟩ = some (.int .i64 p.2)) := ⟨HXf.out.cell 0, HXf.out.cell 1⟩); clear ho3 hlo3 hb3 hbf)
    | (go_at_call 26; (with_reducible refine (Minus_any p A3 c3 L wf HPp.out (by omega) RF.out.1 HLw.out RF.out.2).mono ?_); rintro e wm ⟨rs, hr32, hrc, hrv, A4, c4, rfl, ho4, hlo4, hb4⟩; go_must (have hbm := HBf.out.trans (hb4.mono HBf.out.size)); go_must (have HXm := Lib.hid (HXf.out.below hb4 HXf.out.lt)); go_must (have HBm := Lib.hid hbm); go_must (have RS0 := Lib.hid (Row.of ho4)); go_must (have HRs := Lib.hid (And.intro hr32 (And.intro hrc hrv))); go_must (have HS5 : Hid (wm.cell? ⟨W.heap.size, 0, none⟩ = some (.int .u32 (p.1 : Int)) ∧ wm.cell? ⟨W.heap.size, 1, none⟩ = some (.int .i64 p.2)) := ⟨HXm.out.cell 0, HXm.out.cell 1⟩); clear ho4 hlo4 hb4 hbm hr32 hrc hrv))
  all_goals
    replace RL := Lib.hid (RL.out.go HBm.out)
    replace RM := Lib.hid (RM.out.go HBm.out)
    replace R1 := Lib.hid (R1.out.go HBm.out)
    replace HX := Lib.hid HXm.out
    replace HB := Lib.hid (HB.out.trans (HBm.out.mono HB.out.size))
    have RS := Lib.hid RS0.out
    obtain ⟨N1, hN1⟩ : ∃ N, N = rs.map kp := ⟨_, rfl⟩
    have hn1 : rs.length = N1.length := by rw [hN1, List.length_map]
    have HN1 : Hid (N1 = rs.map kp ∧ rs.length = N1.length ∧ N1 = blks (bothP (ofP [p]) (restP (ofP L))) ∧ N1.length ≤ 28665 ∧ (bothP (ofP [p]) (restP (ofP L))).length ≤ 441) := by
      have e := minus_law HRs.out.1 HRs.out.2.1 HRs.out.2.2
      have h1 := ofP_len [p]
      have h2 := ofP_len L
      have h3 := restP_len (ofP L)
      have h4 := blks_small (ofP [p]) (restP (ofP L)) (by simp at h1; omega) (by omega) (ofP_ok [p]).1.ok (restP_ok (ofP_ok L).1).1.ok
      rw [← hN1] at e
      exact ⟨hN1, hn1, e, by rw [e]; exact h4.2, h4.1⟩
    rw [hn1] at RS ⊢
    rw [← hN1] at RS
    clear q0 q1 hgl HS5 HXm HBm HXf HBf RF RS0 hN1 hn1
    have hl1 := ofP_len [p]
    have hl2 := ofP_len L
    have hl3 := ofP_len M
    have hl4 := restP_len (ofP L)
    simp only [List.length_singleton] at hl1
    go_wp2_with fail
    refine (refOf_any (some ⟨g1, 0, none⟩) 1 [p] _ (show 1 ≤ 100000 by omega) HPw.out R1.out.2.2.2).mono ?_; rintro e w4 ⟨B1, d1, rfl, ho, hlo, hb⟩
    replace RL := Lib.hid (RL.out.go hb)
    replace RM := Lib.hid (RM.out.go hb)
    replace R1 := Lib.hid (R1.out.go hb)
    replace RS := Lib.hid (RS.out.go hb)
    replace HX := Lib.hid (HX.out.below hb HX.out.lt)
    replace HB := Lib.hid (HB.out.trans (hb.mono HB.out.size))
    have Q1 := Lib.hid (show RowQ w4 B1 (ofP [p]) from ho.rg.mono fun _ _ _ => trivial)
    clear ho hlo
    clear hb
    go_wp2_with fail
    refine (refOf_any _ _ L _ (by omega) HLw.out RL.out.2.2.2).mono ?_; rintro e w5 ⟨B2, d2, rfl, ho, hlo, hb⟩
    replace RL := Lib.hid (RL.out.go hb)
    replace RM := Lib.hid (RM.out.go hb)
    replace R1 := Lib.hid (R1.out.go hb)
    replace RS := Lib.hid (RS.out.go hb)
    replace Q1 := Lib.hid (Q1.out.go hb)
    replace HX := Lib.hid (HX.out.below hb HX.out.lt)
    replace HB := Lib.hid (HB.out.trans (hb.mono HB.out.size))
    have Q2 := Lib.hid (show RowQ w5 B2 (ofP L) from ho.rg.mono fun _ _ _ => trivial)
    clear ho hlo
    clear hb
    go_wp2_with fail
    refine (refRest_any B2 d2 (ofP L) _ (by omega) (ofP_ok L).1 Q2.out).mono ?_; rintro e w6 ⟨B3, d3, rfl, ho, hlo, hb⟩
    replace RL := Lib.hid (RL.out.go hb)
    replace RM := Lib.hid (RM.out.go hb)
    replace R1 := Lib.hid (R1.out.go hb)
    replace RS := Lib.hid (RS.out.go hb)
    replace Q1 := Lib.hid (Q1.out.go hb)
    replace Q2 := Lib.hid (Q2.out.go hb)
    replace HX := Lib.hid (HX.out.below hb HX.out.lt)
    replace HB := Lib.hid (HB.out.trans (hb.mono HB.out.size))
    have Q3 := Lib.hid (show RowQ w6 B3 (restP (ofP L)) from ho.rg.mono fun _ _ _ => trivial)
    clear ho hlo
    clear hb
    go_wp2_with fail
    refine (refBoth_any B1 B3 d1 d3 (ofP [p]) (restP (ofP L)) _ (by omega) (by omega) (ofP_ok [p]).1.ok (restP_ok (ofP_ok L).1).1.ok Q1.out Q3.out).mono ?_; rintro e w7 ⟨B4, d4, rfl, ho, hlo, hb⟩
    replace RL := Lib.hid (RL.out.go hb)
    replace RM := Lib.hid (RM.out.go hb)
    replace R1 := Lib.hid (R1.out.go hb)
    replace RS := Lib.hid (RS.out.go hb)
    replace Q1 := Lib.hid (Q1.out.go hb)
    replace Q2 := Lib.hid (Q2.out.go hb)
    replace Q3 := Lib.hid (Q3.out.go hb)
    replace HX := Lib.hid (HX.out.below hb HX.out.lt)
    replace HB := Lib.hid (HB.out.trans (hb.mono HB.out.size))
    have Q4 := Lib.hid (show RowQ w7 B4 (bothP (ofP [p]) (restP (ofP L))) from ho.rg.mono fun _ _ _ => trivial)
    clear ho hlo
    clear hb
    clear Q1 Q2 Q3
    go_wp2_with fail
    refine (refPrefixes_any B4 d4 (bothP (ofP [p]) (restP (ofP L))) _ (by have := HN1.out.2.2.2.2; omega) (bothP_ok (ofP_ok [p]).1.ok (restP_ok (ofP_ok L).1).1.ok).1.ok Q4.out).mono ?_; rintro e w8 ⟨A5, c5, rfl, ho, hlo, hb⟩
    replace RL := Lib.hid (RL.out.go hb)
    replace RM := Lib.hid (RM.out.go hb)
    replace R1 := Lib.hid (R1.out.go hb)
    replace RS := Lib.hid (RS.out.go hb)
    replace Q4 := Lib.hid (Q4.out.go hb)
    replace HX := Lib.hid (HX.out.below hb HX.out.lt)
    replace HB := Lib.hid (HB.out.trans (hb.mono HB.out.size))
    have R5 := Lib.hid (Row.of ho)
    clear ho hlo
    clear hb
    rw [← HN1.out.2.2.1] at R5 ⊢
    clear Q4
    go_wp2_with fail
    refine (sameP_eq A4 A5 c4 c5 N1 _ (by have := HN1.out.2.2.2.1; omega) RS.out.2.2.2 R5.out.2.2.2).mono ?_; rintro e w9 ⟨rfl, hb⟩
    replace RL := Lib.hid (RL.out.go hb)
    replace RM := Lib.hid (RM.out.go hb)
    replace R1 := Lib.hid (R1.out.go hb)
    replace RS := Lib.hid (RS.out.go hb)
    replace R5 := Lib.hid (R5.out.go hb)
    replace HX := Lib.hid (HX.out.below hb HX.out.lt)
    replace HB := Lib.hid (HB.out.trans (hb.mono HB.out.size))
    clear hb
    clear R5
    go_wp2_with fail
    refine (HFewRL.out _ RL.out).mono ?_; rintro e w10 ⟨A6, c6, rfl, ho, hlo, hb⟩
    replace RL := Lib.hid (RL.out.go hb)
    replace RM := Lib.hid (RM.out.go hb)
    replace R1 := Lib.hid (R1.out.go hb)
    replace RS := Lib.hid (RS.out.go hb)
    replace HX := Lib.hid (HX.out.below hb HX.out.lt)
    replace HB := Lib.hid (HB.out.trans (hb.mono HB.out.size))
    have R6 := Lib.hid (Row.of ho)
    clear ho hlo
    clear hb
    go_wp2_with fail
    refine (HFewRM.out _ RM.out).mono ?_; rintro e w11 ⟨A7, c7, rfl, ho, hlo, hb⟩
    replace RL := Lib.hid (RL.out.go hb)
    replace RM := Lib.hid (RM.out.go hb)
    replace R1 := Lib.hid (R1.out.go hb)
    replace RS := Lib.hid (RS.out.go hb)
    replace R6 := Lib.hid (R6.out.go hb)
    replace HX := Lib.hid (HX.out.below hb HX.out.lt)
    replace HB := Lib.hid (HB.out.trans (hb.mono HB.out.size))
    have R7 := Lib.hid (Row.of ho)
    clear ho hlo
    clear hb
    go_wp2_with fail
    refine (Both_any A6 A7 c6 c7 L M _ (by omega) (by omega) R6.out.2.1 R7.out.2.1 HLw.out HMw.out R6.out.2.2.2 R7.out.2.2.2).mono ?_; rintro e w12 ⟨r2, h322, hc2, hv2, A8, c8, rfl, ho, hlo, hb⟩
    replace RL := Lib.hid (RL.out.go hb)
    replace RM := Lib.hid (RM.out.go hb)
    replace R1 := Lib.hid (R1.out.go hb)
    replace RS := Lib.hid (RS.out.go hb)
    replace R6 := Lib.hid (R6.out.go hb)
    replace R7 := Lib.hid (R7.out.go hb)
    replace HX := Lib.hid (HX.out.below hb HX.out.lt)
    replace HB := Lib.hid (HB.out.trans (hb.mono HB.out.size))
    have R8 := Lib.hid (Row.of ho)
    clear ho hlo
    clear hb
    obtain ⟨N2, hN2⟩ : ∃ N, N = r2.map kp := ⟨_, rfl⟩
    have hn2 : r2.length = N2.length := by rw [hN2, List.length_map]
    have HN2 : Hid (N2 = blks (bothP (ofP L) (ofP M)) ∧ N2.length ≤ 28665 ∧ (bothP (ofP L) (ofP M)).length ≤ 441) := by
      have e := both_law h322 hc2 hv2
      have h4 := blks_small (ofP L) (ofP M) (by omega) (by omega) (ofP_ok L).1.ok (ofP_ok M).1.ok
      rw [← hN2] at e
      exact ⟨e, by rw [e]; exact h4.2, h4.1⟩
    rw [hn2] at R8 ⊢
    rw [← hN2] at R8
    clear h322 hc2 hv2 hN2 hn2
    clear R6 R7
    go_wp2_with fail
    refine (refOf_any _ _ L _ (by omega) HLw.out RL.out.2.2.2).mono ?_; rintro e w13 ⟨B5, d5, rfl, ho, hlo, hb⟩
    replace RL := Lib.hid (RL.out.go hb)
    replace RM := Lib.hid (RM.out.go hb)
    replace R1 := Lib.hid (R1.out.go hb)
    replace RS := Lib.hid (RS.out.go hb)
    replace R8 := Lib.hid (R8.out.go hb)
    replace HX := Lib.hid (HX.out.below hb HX.out.lt)
    replace HB := Lib.hid (HB.out.trans (hb.mono HB.out.size))
    have Q5 := Lib.hid (show RowQ w13 B5 (ofP L) from ho.rg.mono fun _ _ _ => trivial)
    clear ho hlo
    clear hb
    go_wp2_with fail
    refine (refOf_any _ _ M _ (by omega) HMw.out RM.out.2.2.2).mono ?_; rintro e w14 ⟨B6, d6, rfl, ho, hlo, hb⟩
    replace RL := Lib.hid (RL.out.go hb)
    replace RM := Lib.hid (RM.out.go hb)
    replace R1 := Lib.hid (R1.out.go hb)
    replace RS := Lib.hid (RS.out.go hb)
    replace R8 := Lib.hid (R8.out.go hb)
    replace Q5 := Lib.hid (Q5.out.go hb)
    replace HX := Lib.hid (HX.out.below hb HX.out.lt)
    replace HB := Lib.hid (HB.out.trans (hb.mono HB.out.size))
    have Q6 := Lib.hid (show RowQ w14 B6 (ofP M) from ho.rg.mono fun _ _ _ => trivial)
    clear ho hlo
    clear hb
    go_wp2_with fail
    refine (refBoth_any B5 B6 d5 d6 (ofP L) (ofP M) _ (by omega) (by omega) (ofP_ok L).1.ok (ofP_ok M).1.ok Q5.out Q6.out).mono ?_; rintro e w15 ⟨B7, d7, rfl, ho, hlo, hb⟩
    replace RL := Lib.hid (RL.out.go hb)
    replace RM := Lib.hid (RM.out.go hb)
    replace R1 := Lib.hid (R1.out.go hb)
    replace RS := Lib.hid (RS.out.go hb)
    replace R8 := Lib.hid (R8.out.go hb)
    replace Q5 := Lib.hid (Q5.out.go hb)
    replace Q6 := Lib.hid (Q6.out.go hb)
    replace HX := Lib.hid (HX.out.below hb HX.out.lt)
    replace HB := Lib.hid (HB.out.trans (hb.mono HB.out.size))
    have Q7 := Lib.hid (show RowQ w15 B7 (bothP (ofP L) (ofP M)) from ho.rg.mono fun _ _ _ => trivial)
    clear ho hlo
    clear hb
    clear Q5 Q6
    go_wp2_with fail
    refine (refPrefixes_any B7 d7 (bothP (ofP L) (ofP M)) _ (by have := HN2.out.2.2; omega) (bothP_ok (ofP_ok L).1.ok (ofP_ok M).1.ok).1.ok Q7.out).mono ?_; rintro e w16 ⟨A9, c9, rfl, ho, hlo, hb⟩
    replace RL := Lib.hid (RL.out.go hb)
    replace RM := Lib.hid (RM.out.go hb)
    replace R1 := Lib.hid (R1.out.go hb)
    replace RS := Lib.hid (RS.out.go hb)
    replace R8 := Lib.hid (R8.out.go hb)
    replace Q7 := Lib.hid (Q7.out.go hb)
    replace HX := Lib.hid (HX.out.below hb HX.out.lt)
    replace HB := Lib.hid (HB.out.trans (hb.mono HB.out.size))
    have R9 := Lib.hid (Row.of ho)
    clear ho hlo
    clear hb
    rw [← HN2.out.1] at R9 ⊢
    clear Q7
    go_wp2_with fail
    refine (sameP_eq A8 A9 c8 c9 N2 _ (by have := HN2.out.2.1; omega) R8.out.2.2.2 R9.out.2.2.2).mono ?_; rintro e w17 ⟨rfl, hb⟩
    replace RL := Lib.hid (RL.out.go hb)
    replace RM := Lib.hid (RM.out.go hb)
    replace R1 := Lib.hid (R1.out.go hb)
    replace RS := Lib.hid (RS.out.go hb)
    replace R8 := Lib.hid (R8.out.go hb)
    replace R9 := Lib.hid (R9.out.go hb)
    replace HX := Lib.hid (HX.out.below hb HX.out.lt)
    replace HB := Lib.hid (HB.out.trans (hb.mono HB.out.size))
    clear hb
    clear R8 R9 RM
    go_wp2_with fail
    refine (HFewRL.out _ RL.out).mono ?_; rintro e w18 ⟨Aa, ca, rfl, ho, hlo, hb⟩
    replace RL := Lib.hid (RL.out.go hb)
    replace R1 := Lib.hid (R1.out.go hb)
    replace RS := Lib.hid (RS.out.go hb)
    replace HX := Lib.hid (HX.out.below hb HX.out.lt)
    replace HB := Lib.hid (HB.out.trans (hb.mono HB.out.size))
    have Ra := Lib.hid (Row.of ho)
    clear ho hlo
    clear hb
    go_wp2_with fail
    refine (Both_any (some ⟨g1, 0, none⟩) Aa 1 ca [p] L _ (show 1 ≤ 1000 by omega) (by omega) (fun h => by cases h) Ra.out.2.1 HPw.out HLw.out R1.out.2.2.2 Ra.out.2.2.2).mono ?_; rintro e w19 ⟨r3, h323, hc3, hv3, Ab, cb, rfl, ho, hlo, hb⟩
    replace RL := Lib.hid (RL.out.go hb)
    replace R1 := Lib.hid (R1.out.go hb)
    replace RS := Lib.hid (RS.out.go hb)
    replace Ra := Lib.hid (Ra.out.go hb)
    replace HX := Lib.hid (HX.out.below hb HX.out.lt)
    replace HB := Lib.hid (HB.out.trans (hb.mono HB.out.size))
    have Rb := Lib.hid (Row.of ho)
    clear ho hlo
    clear hb
    obtain ⟨N3, hN3⟩ : ∃ N, N = r3.map kp := ⟨_, rfl⟩
    have hn3 : r3.length = N3.length := by rw [hN3, List.length_map]
    have HN3 : Hid (N3 = r3.map kp ∧ (∀ k ∈ r3, k.length ≤ 32) ∧ (∀ n, Cov (r3.map kb) n ↔ InP (ofP [p]) n ∧ InP (ofP L) n) ∧ N3.length ≤ 28665) := by
      have e := both_law h323 hc3 hv3
      have h4 := blks_small (ofP [p]) (ofP L) (by omega) (by omega) (ofP_ok [p]).1.ok (ofP_ok L).1.ok
      rw [← hN3] at e
      exact ⟨hN3, h323, hv3, by rw [e]; exact h4.2⟩
    rw [hn3] at Rb ⊢
    rw [← hN3] at Rb
    clear h323 hc3 hv3 hN3 hn3
    clear Ra RL
    go_wp2_with fail
    refine (Span_any A4 N1.length c4 N1 _ (by have := HN1.out.2.2.2.1; omega) RS.out.2.1 rfl (by rw [HN1.out.1]; intro x hx; obtain ⟨k, hk, rfl⟩ := List.mem_map.1 hx; exact adr_lt (HRs.out.1 k hk)) RS.out.2.2.2).mono ?_; rintro e w20 ⟨ks, hs1, hs132, rfl, hb⟩
    replace R1 := Lib.hid (R1.out.go hb)
    replace RS := Lib.hid (RS.out.go hb)
    replace Rb := Lib.hid (Rb.out.go hb)
    replace HX := Lib.hid (HX.out.below hb HX.out.lt)
    replace HB := Lib.hid (HB.out.trans (hb.mono HB.out.size))
    have HS1 := Lib.hid (And.intro hs1 hs132)
    clear hs1 hs132
    clear hb
    clear RS
    go_wp2_with fail
    refine (Span_any Ab N3.length cb N3 _ (by have := HN3.out.2.2.2; omega) Rb.out.2.1 rfl (by rw [HN3.out.1]; intro x hx; obtain ⟨k, hk, rfl⟩ := List.mem_map.1 hx; exact adr_lt (HN3.out.2.1 k hk)) Rb.out.2.2.2).mono ?_; rintro e w21 ⟨k2, hs2, hs232, rfl, hb⟩
    replace R1 := Lib.hid (R1.out.go hb)
    replace Rb := Lib.hid (Rb.out.go hb)
    replace HX := Lib.hid (HX.out.below hb HX.out.lt)
    replace HB := Lib.hid (HB.out.trans (hb.mono HB.out.size))
    have HS2 := Lib.hid (And.intro hs2 hs232)
    clear hs2 hs232
    clear hb
    clear Rb
    have hsum : spanK (topsK ks) + spanK (topsK k2) = sizeP2 (ofP [p]) := by
      have h1 := HS1.out.1
      have h2 := HS2.out.1
      rw [HN1.out.1] at h1
      rw [HN3.out.1] at h2
      exact span_sum HRs.out.1 HRs.out.2.2 HN3.out.2.1 HN3.out.2.2.1 h1 HS1.out.2 h2 HS2.out.2
    have hszl := sizeP2_le (ofP [p]) (ofP_ok [p]).1.ok
    generalize spanK (topsK ks) = z1 at *
    generalize spanK (topsK k2) = z2 at *
    have HSz := Lib.hid (fun (B : Option Addr) (d : Nat) (w : World) (h : RowQ w B (ofP [p])) => refSizeP_any B d (ofP [p]) w (by omega) (ofP_ok [p]).1.ok h)
    have HZ : Hid ((z1 : Int) + (z2 : Int) = (sizeP2 (ofP [p]) : Int)) := by rw [Hid, ← hsum]; simp
    have hz12 : z1 ≤ 4294967296 ∧ z2 ≤ 4294967296 := by
      have : (ofP [p]).length * 4294967296 ≤ 1 * 4294967296 := Nat.mul_le_mul_right _ hl1
      omega
    have hz1 := hz12.1
    have hz2 := hz12.2
    clear hsum hszl hz12
    go_wp2_with fail
    refine (refOf_any (some ⟨g1, 0, none⟩) 1 [p] _ (show 1 ≤ 100000 by omega) HPw.out R1.out.2.2.2).mono ?_; rintro e w22 ⟨B8, d8, rfl, ho, hlo, hb⟩
    replace R1 := Lib.hid (R1.out.go hb)
    replace HX := Lib.hid (HX.out.below hb HX.out.lt)
    replace HB := Lib.hid (HB.out.trans (hb.mono HB.out.size))
    have Q8 := Lib.hid (show RowQ w22 B8 (ofP [p]) from ho.rg.mono fun _ _ _ => trivial)
    clear ho hlo
    clear hb
    clear R1
    generalize sizeP2 (ofP [p]) = z at *
    have hzz := HZ.out
    go_wp2_with fail
    refine (HSz.out _ _ _ Q8.out).mono ?_; rintro e w23 ⟨rfl, hb⟩
    replace Q8 := Lib.hid (Q8.out.go hb)
    replace HX := Lib.hid (HX.out.below hb HX.out.lt)
    replace HB := Lib.hid (HB.out.trans (hb.mono HB.out.size))
    clear hb
    clear Q8
    go_wp2_with fail
    refine (lives_any _).mono ?_; rintro e w24 ⟨rfl, hb⟩
    replace HX := Lib.hid (HX.out.below hb HX.out.lt)
    replace HB := Lib.hid (HB.out.trans (hb.mono HB.out.size))
    clear hb
    go_wp2_with fail
    go_ret
    exact ⟨rfl, HB.out⟩

set_option maxRecDepth 100000 in
theorem walk {H : Type} {enc : TypeId × Value → H} {W : World} {base : Nat} {v0 v1 v2 : Value} {d0 d1 d2 : DataW H} {p0 p1 p2 : List MemPlace}
    (hv0 : Value.okWide Try.prog W .any base 35 v0) (h0 : DataW.Trod enc Try.prog W 0 (fun _ => true) true 35 v0 d0 p0) (hv1 : Value.okWide Try.prog W .any base 22 v1) (h1 : DataW.Trod enc Try.prog W 0 (fun _ => true) true 22 v1 d1 p1) (hv2 : Value.okWide Try.prog W .any base 22 v2) (h2 : DataW.Trod enc Try.prog W 0 (fun _ => true) true 22 v2 d2 p2) :
    Calls Try.prog 6 #[v0, v1, v2] W fun e w' => e = .returned (.bool true) ∧ Below W.heap.size W w' := by
  obtain ⟨c0, c1, y0, y1, m, rfl, rfl, rfl, hy0, hy1⟩ := open_agg2 Try.underlying35 (by kernel_rfl) (by kernel_rfl) hv0 h0
  obtain ⟨p, e0, _, wp⟩ := DataW.trod_int Try.underlying33 hy0
  obtain ⟨n, e1, _, wn⟩ := DataW.trod_int Try.underlying3 hy1
  simp at e0 e1
  subst e0 e1
  have bp := wf_u32 wp
  obtain ⟨p, rfl⟩ := Int.eq_ofNat_of_zero_le bp.1
  obtain ⟨A, c, l, rfl, hA, hc, hm, he⟩ := open_sl Try.underlying22 (opens_sl keeps_pfx Try.underlying22 (by kernel_rfl) (by omega) opens_pfx) hv1 h1
  obtain ⟨L, hL, hw, hr⟩ := els_fv he
  obtain ⟨B, d, r, rfl, hB, hd, hm', he'⟩ := open_sl Try.underlying22 (opens_sl keeps_pfx Try.underlying22 (by kernel_rfl) (by omega) opens_pfx) hv2 h2
  obtain ⟨M, hM, hw', hr'⟩ := els_fv he'
  rw [← hL] at hc ⊢
  rw [← hM] at hd ⊢
  exact core (p, n) A B c d L M W (by show p < 4294967296; omega) hA hB hc hd (Nat.le_trans hc hm) (Nat.le_trans hd hm') hw hw' hr hr'
end Go.Proofs.Ytpabblkppbfbjaa.walkMinus
