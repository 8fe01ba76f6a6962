/- What path.norm returns: the walk. Condition: at most 10^6 pieces and numbers together. -/
import Derived.Test.YtafepficapdepaaNorm
import Derived.Deep.DeepCutAuto
namespace Go.Proofs.Ytafepficapdepaa.pth
open Go.RowKit Go.Proofs.Ytafepficapdepaa.kit Go.Proofs.Ytafepficapdepaa.mem Go.Proofs.Ytafepficapdepaa.foot Go.Proofs.Ytafepficapdepaa.nums Go.Proofs.Ytafepficapdepaa.asn
set_option linter.unusedVariables false
set_option linter.unusedSimpArgs false
theorem chg_cell {F : Foot} {w w' : World} {g j : Nat} (h : Chg F w w') (hg : g < w.heap.size) (hF : ¬ F g) : w'.cell? ⟨g, j, none⟩ = w.cell? ⟨g, j, none⟩ := by
  simp only [World.cell?, h.block g hg hF]
theorem lt_of_some {w : World} {g j : Nat} {v : Value} (h : w.cell? ⟨g, j, none⟩ = some v) : g < w.heap.size := by
  simp only [World.cell?] at h
  rcases Nat.lt_or_ge g w.heap.size with h1 | h1
  · exact h1
  · rw [Array.getElem?_eq_none h1] at h
    simp at h
theorem NJ.start (w : World) : NJ w w [] [] none 0 [] none 0 :=
  ⟨Lst.nil w, fun k h => absurd h (sf_none k), foot.Own.none_ _ _ _, fun k h => absurd h (sf_none k), fun _ h => by cases h⟩
theorem NJ.of_outs {w wr : World} {out : List Sg} {Ao : Option Addr} {co : Nat} {vs : List Value} (h : Lst 2 rSeg 122 (fun k => w.heap.size ≤ k) w wr Ao out.length co vs out) : NJ w wr out [] Ao co vs none 0 :=
  ⟨h.wide keeps_seg fun k _ hk => ⟨hk, sf_none k⟩, fun k _ e => sf_none k e, foot.Own.none_ _ _ _, fun k h => absurd h (sf_none k), fun _ h => by cases h⟩
theorem rg_two {w : World} {g : Nat} {t : TypeId} {a b : Value} (h : Bk w g t #[a, b]) : Rg w (fun k => k = g) 2 (some ⟨g, 0, none⟩) 1 [a, b] :=
  ⟨rfl, fun _ => ⟨g, 0, rfl, rfl, h.lt, fun j u hu => by rw [h.cell, Nat.zero_add]; simpa using hu⟩⟩
/-- a set's piece, behind those that stand -/
theorem set_app {w w3 w4 w6 : World} {out : List Sg} {t : List Nat} {A3 A5 A6 : Option Addr} {c3 c5 c6 : Nat} {vs : List Value} (h : Lst 2 rSeg 122 (fun k => w.heap.size ≤ k) w w3 A3 out.length c3 vs out) (ho5 : foot.Own w4 22 1 A5 t.length c5 (uv t)) (hlo5 : ∀ k, sf A5 k → w3.heap.size ≤ k) (hb5 : Below w3.heap.size w3 w4) (hw : W32 t)
    (ho : foot.Own w6 122 2 A6 (out.length + 1) c6 (vs ++ [.int .i64 1, .slice A5 t.length c5])) (hc : Chg (sf A3) (w4.alloc (.cells #[.int .i64 1, .slice A5 t.length c5] 122)) w6) (hf : Fresh (w4.alloc (.cells #[.int .i64 1, .slice A5 t.length c5] 122)) (sf A3) (sf A6)) :
    Lst 2 rSeg 122 (fun k => w.heap.size ≤ k) w w6 A6 (out ++ [((1 : Int), t)]).length c6 (vs ++ [.int .i64 1, .slice A5 t.length c5]) (out ++ [((1 : Int), t)]) := by
  have hlt := foot.Own.lt h.acc.own
  have hb : Below w4.heap.size w4 (w4.alloc (.cells #[.int .i64 1, .slice A5 t.length c5] 122)) := (Below.refl _ _).alloc (Nat.le_refl _) _
  have hs := seg_of (G := fun k => w.heap.size ≤ k ∧ ¬ sf A3 k) (k := 1) (by decide) (Rel_own (foot.Own.bel ho5 hb) hw fun k hk => ⟨Nat.le_trans h.acc.bel.size (hlo5 k hk), fun e => by have := hlt k e; have := hlo5 k hk; omega⟩)
  have := ((h.go keeps_seg hb5).go keeps_seg hb).app keeps_seg (rAll.single hs) rfl ho hc hf
  rw [List.length_append]
  exact this
theorem setN_w32 {l : List Nat} (h : W32 l) : W32 (setN l) := h.sub fun x hx => ((setN_ok l).mem x).1 hx
theorem nsz_len : ∀ l : List Sg, l.length ≤ nsz l
  | [] => Nat.le_refl _
  | s :: l => by have := nsz_len l; simp only [nsz, List.map_cons, List.sum_cons, List.length_cons] at this ⊢; omega
set_option maxRecDepth 100000 in
set_option maxHeartbeats 4000000 in
theorem norm_any (A : Option Addr) (c : Nat) (l : List Sg) (G : Foot) (w : World) (hl : nsz l ≤ 1000000) (hs : Els 2 rSeg w G A l) :
    Calls Try.prog 157 #[.slice A l.length c] w (RetP (normS l) w) := by
  obtain ⟨i0, hi, hz0, hz1, hz2⟩ := info_parts info_seg
  obtain ⟨j0, hj, hy0, hy1, hy2⟩ := info_parts info_u32
  have Hi := Lib.hid hi
  have Hz0 := Lib.hid hz0
  have Hz1 := Lib.hid hz1
  have Hz2 := Lib.hid hz2
  have Hj := Lib.hid hj
  have Hy0 := Lib.hid hy0
  have Hy1 := Lib.hid hy1
  have Hy2 := Lib.hid hy2
  have HS := Lib.hid hs
  have hll := nsz_len l
  have HQ : Hid (∀ e w', (∃ A' c' vs' ps, ps = normS l ∧ e = .returned (.slice A' ps.length c') ∧ Lst 2 rSeg 122 (fun k => w.heap.size ≤ k) w w' A' ps.length c' vs' ps) → RetP (normS l) w e w') := fun e w' => by
    rintro ⟨A', c', vs', ps, rfl, h1, h2⟩
    exact ⟨A', c', vs', h1, h2⟩
  obtain ⟨Q, hQ⟩ : ∃ Q, Q = RetP (normS l) w := ⟨_, rfl⟩
  rw [← hQ] at HQ ⊢
  clear hi hz0 hz1 hz2 hj hy0 hy1 hy2 hs hQ
  go_enter Try.func157, Try.ntmps157
  go_wp2_with fail
  go_loopw [3, 4, 9] (fun v3 v4 v9 wr => ∃ (i : Nat) (Ao : Option Addr) (co : Nat) (vs : List Value) (Ar : Option Addr) (cr : Nat), i ≤ l.length ∧ v9 = .int .i64 i ∧ v3 = .slice Ao (nrun (l.take i)).1.length co ∧ v4 = .slice Ar (nrun (l.take i)).2.length cr ∧ NJ w wr (nrun (l.take i)).1 (nrun (l.take i)).2 Ao co vs Ar cr) (fun _ _ v9 _ => l.length - (intOf v9).toNat)
  case atStart => exact ⟨0, none, 0, [], none, 0, by omega, rfl, rfl, rfl, NJ.start w⟩
  case round =>
    obtain ⟨i, Ao, co, vs, Ar, cr, hi, rfl, rfl, rfl, hJ⟩ := hrel
    have HJ := Lib.hid hJ
    have hsz := nrun_le l i
    have hsz2 := nsz_take l i
    by_cases hlt : i < l.length
    · have hn := nsz_at hlt
      have HN := Lib.hid (nrun_succ hlt)
      obtain ⟨b, off, cs, rfl, _, hb, hr, hc⟩ := HS.out.at_ keeps_seg hlt
      obtain ⟨A2, c2, rfl, hkw, hA2, hc2, hm2, hu2, hw2⟩ := seg_at hr
      have q0 := (HJ.out.lst.acc.bel.cell (p := ⟨b, off + i * 2 + 0, none⟩) hb).trans (hc 0 _ rfl)
      have q1 := (HJ.out.lst.acc.bel.cell (p := ⟨b, off + i * 2 + 1, none⟩) hb).trans (hc 1 _ rfl)
      rw [Nat.add_zero] at q0
      have HA2 := Lib.hid (And.intro hA2 (And.intro hc2 (And.intro hm2 hw2)))
      have HU := Lib.hid hu2
      have hi' : (i : Int) < (l.length : Int) := by omega
      clear hc hr hkw hA2 hc2 hm2 hu2 hw2 hJ
      generalize hor : nrun (l.take i) = st at *
      obtain ⟨out, run⟩ := st
      dsimp only at *
      generalize l[i] = s at *
      obtain ⟨kd, ns⟩ := s
      dsimp only at *
      obtain ⟨wa, hwa⟩ : ∃ wa, wa = wr.alloc (.cells #[.int .i64 kd, .slice A2 ns.length c2] 122) := ⟨_, rfl⟩
      have HBx : Hid (Bk wa wr.heap.size 122 #[.int .i64 kd, .slice A2 ns.length c2]) := by rw [hwa]; exact Bk.new wr _ _
      have HJa : Hid (NJ w wa out run Ao co vs Ar cr) := by rw [hwa]; exact HJ.out.go ((Below.refl _ _).alloc (Nat.le_refl _) _)
      have HGo : Hid (∀ k, sf Ao k ∨ sf Ar k → k ≠ wr.heap.size) := fun k hk => by
        rcases hk with hk | hk
        · have := foot.Own.lt HJ.out.lst.acc.own k hk; omega
        · have := foot.Own.lt HJ.out.rn k hk; omega
      have HGl : Hid (wr.heap.size < wa.heap.size) := HBx.out.lt
      go_upto_region 6 with fail
      rw [← hwa]
      have HR := Lib.hid hwa
      have q0 : wa.cell? ⟨wr.heap.size, 0, none⟩ = some (.int .i64 kd) := by have := HBx.out.cell 0; simpa using this
      have q1 : wa.cell? ⟨wr.heap.size, 1, none⟩ = some (.slice A2 ns.length c2) := by have := HBx.out.cell 1; simpa using this
      clear hwa hb
      generalize wr.heap.size = g at *
      by_cases hk2 : kd = 2
      · subst hk2
        have hns : nstep (out, run) (2, ns) = (out, run ++ ns) := by simp [nstep]
        rw [hns] at HN
        have HM : Hid (∀ A' c' w2, foot.Own w2 22 1 A' (run.length + ns.length) c' (uv run ++ uv ns) → Chg (sf Ar) wa w2 → Fresh wa (sf Ar) (sf A') → NJ w w2 out (run ++ ns) Ao co vs A' c') := fun A' c' w2 ho hc hf => HJa.out.more ho hc hf HA2.out.2.2.2
        have HUa : Hid (Us wa G A2 ns) := HU.out.bel HJa.out.lst.acc.bel
        go_wp2_with (at_builtin; refine wpList_app _ rfl (.tmp 17) (.tmp 19) _ rfl 22 j0 _ 1 4 Try.underlying67 Hj.out Hy0.out Hy1.out Hy2.out rfl (by omega) Ar run.length cr (uv run) rfl HJa.out.rn _ A2 ns.length c2 HA2.out.1 (uv ns) rfl HUa.out (uv_one ns) (by unfold maxLen; omega) (by omega) ?_; intro A3 c3 w3 ho3 hc3 hf3; have HJ3 := Lib.hid (HM.out A3 c3 w3 ho3 hc3 hf3); clear ho3 hc3 hf3)
        go_roundw
        case rel => exact ⟨i + 1, Ao, co, vs, A3, c3, by omega, by go_num, by rw [HN.out], by rw [HN.out, List.length_append], by rw [HN.out]; exact HJ3.out⟩
        case measure => simp [intOf]; omega
      · have d2 : (kd == 2) = false := by rw [beq_eq_false_iff_ne]; exact hk2
        by_cases hk1 : kd = 1 ∧ 0 < ns.length
        · obtain ⟨rfl, hpos⟩ := hk1
          have hns : nstep (out, run) (1, ns) = (out ++ sgs 2 run ++ [(1, setN ns)], []) := by simp [nstep, hpos]
          rw [hns] at HN
          have dpos : decide ((0 : Int) < (ns.length : Int)) = true := by simp; omega
          have hsl := sgs_len 2 run
          have HJd : Hid (NJ w wa.drew out run Ao co vs Ar cr) := HJa.out.go (Below.refl _ _).drew
          have HPi := Lib.hid (pieces_any Ar cr run wa.drew (by omega) HJd.out.w32 HJd.out.rn)
          have HSe : Hid (∀ w', Below w.heap.size w w' → Calls Try.prog 103 #[.slice A2 ns.length c2] w' fun e w2 => RetNums (setN ns) w' e w2) := fun w' hb => by
            refine (Set_any A2 c2 ns G w' (by omega) HA2.out.1 HA2.out.2.1 HA2.out.2.2.1 (Rg.bel HU.out hb)).mono ?_
            rintro e w2 ⟨t, ht, _, hr⟩
            obtain rfl := ht.eq (setN_ok ns)
            exact hr
          have q1 : wa.drew.cell? ⟨g, 1, none⟩ = some (.slice A2 ns.length c2) := q1
          have HGd : Hid (g < wa.drew.heap.size) := HGl.out
          have hpp : (sgs 2 run).length ≤ 1000000 := by omega
          have hso : out.length ≤ 1000000 := by omega
          go_upto_region 9 with fail
          generalize hps : sgs 2 run = ps at *
          clear hps
          go_region_held3 (fun w' => w'.cell? ⟨g, 1, none⟩ = some (.slice A2 ns.length c2)) (first | assumption | exact (by go_simp)) (first
            | (go_at_call 152; refine HPi.out.mono ?_; rintro e w2 ⟨A1, c1, vs1, rfl, hl1⟩; go_must (have HL1 := Lib.hid hl1); go_must (have q2 : w2.cell? ⟨g, 1, none⟩ = some (.slice A2 ns.length c2) := (hl1.acc.bel.cell (p := ⟨g, 1, none⟩) HGd.out).trans q1); go_must (have HL2 := Lib.hid (HJd.out.outs.go keeps_seg hl1.acc.bel)); clear hl1)
            | (refine step_app _ (by rfl) (.tmp 31) (.tmp 33) _ (by rfl) 122 i0 _ 2 32 Try.underlying73 Hi.out Hz0.out Hz1.out Hz2.out rfl (by omega) Ao out.length co vs (by rfl) HL2.out.acc.own _ A1 ps.length c1 (foot.Own.nil HL1.out.acc.own) vs1 (by rfl) (foot.Own.rg HL1.out.acc.own) (rAll.one keeps_seg HL1.out.all) (by unfold maxLen; omega) (by omega) ?_; intro A3 c3 w3 ho3 hc3 hf3; go_must (have HL3 := Lib.hid (outs_app HJd.out.outs HL1.out ho3 hc3 hf3)); go_must (have q3 : w3.cell? ⟨g, 1, none⟩ = some (.slice A2 ns.length c2) := (chg_cell hc3 (Nat.lt_of_lt_of_le HGd.out HL1.out.acc.bel.size) fun e => HGo.out g (.inl e) rfl).trans q2); go_must (have hg3 : ¬ sf A3 g := fun e => by rcases hf3 g e with e | e <;> first | exact HGo.out g (.inl e) rfl | (have := lt_of_some q2; omega)); clear ho3 hc3 hf3)
            | (go_at_call 103; refine (HSe.out _ HL3.out.acc.bel).mono ?_; rintro e w4 ⟨A5, c5, rfl, ho5, hlo5, hb5⟩; go_must (have HO5 := Lib.hid (And.intro ho5 (And.intro hlo5 hb5))); go_must (have HL4 := Lib.hid (HL3.out.go keeps_seg hb5)); go_must (have q4 : w4.cell? ⟨g, 1, none⟩ = some (.slice A2 ns.length c2) := (hb5.cell (p := ⟨g, 1, none⟩) (lt_of_some q3)).trans q3); go_must (have q5 : (w4.alloc (.cells #[.int .i64 1, .slice A5 (setN ns).length c5] 122)).cell? ⟨g, 1, none⟩ = some (.slice A2 ns.length c2) := (((Below.refl _ _).alloc (Nat.le_refl _) _).cell (p := ⟨g, 1, none⟩) (lt_of_some q4)).trans q4); clear ho5 hlo5 hb5)
            | ((have HL5 : Hid (Lst 2 rSeg 122 (fun k => w.heap.size ≤ k) w (w4.alloc (.cells #[.int .i64 1, .slice A5 (setN ns).length c5] 122)) A3 (out.length + ps.length) c3 (vs ++ vs1) (out ++ ps)) := by have h := HL4.out.go keeps_seg ((Below.refl _ _).alloc (Nat.le_refl _) (.cells #[.int .i64 1, .slice A5 (setN ns).length c5] 122)); rwa [List.length_append] at h); refine step_app _ (by rfl) (.tmp 34) (.tmp 39) _ (by rfl) 122 i0 _ 2 32 Try.underlying73 Hi.out Hz0.out Hz1.out Hz2.out rfl (by omega) A3 (out.length + ps.length) c3 (vs ++ vs1) (by rfl) HL5.out.acc.own _ (some ⟨w4.heap.size, 0, none⟩) 1 1 (by intro h; cases h) [.int .i64 1, .slice A5 (setN ns).length c5] (by rfl) (rg_two (Bk.new w4 _ _)) (by intro u hu; simp at hu; rcases hu with rfl | rfl <;> rfl) (by unfold maxLen; omega) (by omega) ?_; intro A6 c6 w6 ho6 hc6 hf6; go_must (have q6 : w6.cell? ⟨g, 1, none⟩ = some (.slice A2 ns.length c2) := (chg_cell hc6 (lt_of_some q5) hg3).trans q5); go_must (rw [← List.length_append] at ho6); go_must (have HL6 := Lib.hid (set_app HL3.out HO5.out.1 HO5.out.2.1 HO5.out.2.2 (setN_w32 HA2.out.2.2.2) ho6 hc6 hf6)); clear ho6 hc6 hf6))
          go_wp2_with fail
          go_roundw
          case rel => exact ⟨i + 1, A6, c6, _, none, 0, by omega, by go_num, by rw [HN.out]; simp [Nat.add_assoc], by rw [HN.out]; rfl, by rw [HN.out]; exact NJ.of_outs HL6.out⟩
          case measure => simp [intOf]; omega
        · have hns : nstep (out, run) (kd, ns) = (out, run) := by simp only [nstep]; rw [if_neg hk2, if_neg hk1]
          rw [hns] at HN
          by_cases hk3 : kd = 1
          case' pos =>
            subst hk3
            have hz : ns.length = 0 := by
              rcases Nat.eq_zero_or_pos ns.length with h | h
              · exact h
              · exact absurd ⟨rfl, h⟩ hk1
            have dpos : decide ((0 : Int) < (ns.length : Int)) = false := by rw [decide_eq_false_iff_not]; omega
          case' neg =>
            have d1 : (kd == 1) = false := by rw [beq_eq_false_iff_ne]; exact hk3
          all_goals
            go_wp2_with fail
            go_roundw
            case rel => exact ⟨i + 1, Ao, co, vs, Ar, cr, by omega, by go_num, by rw [HN.out], by rw [HN.out], by rw [HN.out]; exact HJa.out⟩
            case measure => simp [intOf]; omega
    · obtain rfl : i = l.length := by omega
      rw [List.take_length] at HJ hsz hsz2 ⊢
      have HNr : Hid (normS l = (nrun l).1 ++ sgs 2 (nrun l).2) := rfl
      have hsl := sgs_len 2 (nrun l).2
      clear hJ
      generalize hor : nrun l = st at *
      obtain ⟨out, run⟩ := st
      dsimp only at *
      have HPi := Lib.hid (pieces_any Ar cr run wr (by omega) HJ.out.w32 HJ.out.rn)
      go_wp2_with (first
        | (go_at_call 152; refine HPi.out.mono ?_; rintro e w2 ⟨A1, c1, vs1, rfl, hl1⟩; have HL1 := Lib.hid hl1; have HL2 := Lib.hid (HJ.out.outs.go keeps_seg hl1.acc.bel); clear hl1)
        | (at_builtin; refine wpList_app _ rfl (.tmp 42) (.tmp 44) _ rfl 122 i0 _ 2 32 Try.underlying73 Hi.out Hz0.out Hz1.out Hz2.out rfl (by omega) Ao out.length co vs rfl HL2.out.acc.own _ A1 (sgs 2 run).length c1 (foot.Own.nil HL1.out.acc.own) vs1 rfl (foot.Own.rg HL1.out.acc.own) (rAll.one keeps_seg HL1.out.all) (by unfold maxLen; omega) (by omega) ?_; intro A3 c3 w3 ho3 hc3 hf3; have HL3 := Lib.hid (outs_app HJ.out.outs HL1.out ho3 hc3 hf3); clear ho3 hc3 hf3))
      exact HQ.out _ _ ⟨A3, c3, _, out ++ sgs 2 run, HNr.out.symm, by rw [List.length_append]; rfl, HL3.out⟩
end Go.Proofs.Ytafepficapdepaa.pth
