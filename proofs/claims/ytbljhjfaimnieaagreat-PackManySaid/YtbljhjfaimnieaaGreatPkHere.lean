/- What pack.Here returns. Condition: at most 10000 of what is told, and at most 100000 numbers and pieces in each. -/
import Derived.Test.YtbljhjfaimnieaaGreatPkGone
import Derived.Test.YtbljhjfaimnieaaGreatPkGroups
namespace Go.Proofs.YtbljhjfaimnieaaGreat.pck
open Go.RowKit Go.Proofs.YtbljhjfaimnieaaGreat.kit Go.Proofs.YtbljhjfaimnieaaGreat.mem Go.Proofs.YtbljhjfaimnieaaGreat.foot Go.Proofs.YtbljhjfaimnieaaGreat.nums Go.Proofs.YtbljhjfaimnieaaGreat.asn Go.Proofs.YtbljhjfaimnieaaGreat.pth Go.Proofs.YtbljhjfaimnieaaGreat.octet Go.Proofs.YtbljhjfaimnieaaGreat.attr Go.Proofs.YtbljhjfaimnieaaGreat.upd Go.Proofs.YtbljhjfaimnieaaGreat.mv Go.Proofs.YtbljhjfaimnieaaGreat.srt
set_option linter.unusedVariables false
set_option linter.unusedSimpArgs false
noncomputable def sortP (l : List Pf) : List Pf := @dite _ (∃ s, IsSort gdP l s) (Classical.propDecidable _) (fun h => h.choose) fun _ => []
theorem sortP_eq {l s : List Pf} (h : IsSort gdP l s) : sortP l = s := by
  unfold sortP
  have he : ∃ s, IsSort gdP l s := ⟨s, h⟩
  rw [dif_pos he]
  exact he.choose_spec.eq h
def hereU (a : Atr) (q : List Pf) : Upd := ⟨[], a, q⟩
def attrG : List To → Atr | [] => zeroA | x :: _ => x.2
noncomputable def hereG (g : List To) : List Upd := (nlri.packK (roomA (attrG g) : Int) (sortP (g.map (·.1)))).map (hereU (attrG g))
/-- the Updates of groups -/
noncomputable def hereL (gs : List (List To)) : List Upd := gs.flatMap hereG
theorem hereL_take {gs : List (List To)} {k : Nat} (h : k < gs.length) : hereL (gs.take (k + 1)) = hereL (gs.take k) ++ hereG gs[k] := by
  unfold hereL
  rw [List.take_succ_eq_append_getElem h, List.flatMap_append]
  simp
theorem box_row {w : World} {b o a : Nat} {n : Int} {q : Atr} {Ap Ac : Option Addr} {cp cc : Nat} (h : w.rangeAt b o (toc ((a, n), q) Ap cp Ac cc)) : w.rangeAt b (o + 2) (atc q Ap cp Ac cc) := fun j v hv => by
  have := h (2 + j) v (by unfold toc; rw [List.getElem?_append_right (by simp)]; simpa using hv)
  rw [← this]
  congr 2
  omega
theorem els_rangeG {α : Type} {R : Rel α} {n : Nat} {w : World} {G : Foot} {A : Option Addr} {l : List α} (hR : Keeps n R) (h : Els n R w G A l) {k : Nat} (hk : k < l.length) :
    ∃ b off cs, A = some ⟨b, off, none⟩ ∧ G b ∧ b < w.heap.size ∧ R w G cs l[k] ∧ w.rangeAt b (off + k * n) cs := h.at_ hR hk
/-- a value made of values -/
theorem wpList_build {P : Program} {ops : Array Oper} {rest : List Oper} {o : Oper} {a : Act} {w : World} {Q : Exit → Act → World → Prop} (hgd : o.guard = none) (t : TypeId) (ps : Array (Nat × Operand)) (ho : o.op = .build t ps) (v : Value)
    (he : (execOp a.eval o).run P w = .ok (.value v) w) (h : wpList P ops Q rest (a.put o.dst v) w) : wpList P ops Q (o :: rest) a w :=
  wpList_plain hgd fun K hK => by
    unfold Oper.wp
    rw [he]
    exact hK _ _ h
theorem range_chg {w w' : World} {F : Foot} {b o : Nat} {cs : List Value} (h : w.rangeAt b o cs) (hc : Chg F w w') (hb : b < w.heap.size) (hn : ¬ F b) : w'.rangeAt b o cs := fun j v hv => by
  rw [World.cell?_of_block (w := w) (hc.block b hb hn)]
  exact h j v hv
set_option maxRecDepth 100000 in
set_option maxHeartbeats 16000000 in
theorem Here_any (A : Option Addr) (c : Nat) (l : List To) (G : Foot) (w : World) (hl : l.length ≤ 10000) (h : Els 11 rTo w G A l) (hsz : ∀ x ∈ l, Sm x) :
    Calls Tryz.prog 18 #[.slice A l.length c] w (RetL 11 rUm 49 (hereL (groupsL ky (onlyL l))) w) := by
  obtain ⟨i0, hi, hz0, hz1, hz2⟩ := info_parts info_um
  have Hi := Lib.hid hi
  have Hz0 := Lib.hid hz0
  have Hz1 := Lib.hid hz1
  have Hz2 := Lib.hid hz2
  obtain ⟨j0, hj, hy0, hy1, hy2⟩ := info_parts srt.info_pf
  have Hj := Lib.hid hj
  have Hy0 := Lib.hid hy0
  have Hy1 := Lib.hid hy1
  have Hy2 := Lib.hid hy2
  have HSt : Hid ((Tryz.prog.info? 61).map (·.size) = some 11) := info_to11
  have HSz : Hid ((Tryz.prog.info? 26).map (·.size) = some 9) := info_atr
  have HO := Lib.hid (groups_any A c l G w hl h hsz)
  have hol : (onlyL l).length ≤ 10000 := Nat.le_trans (List.length_filter_le _ _) hl
  have hfit : ∀ g ∈ groupsL ky (onlyL l), g ≠ [] ∧ g.length ≤ 10000 ∧ ∀ x ∈ g, Sm x ∧ FitA x.2 := fun g hg => by
    refine ⟨groupsL_ne ky _ g hg, ?_, fun x hx => ?_⟩
    · have := groups_sz (l := onlyL l) (k := (onlyL l).length) (Nat.le_refl _) g (by rw [List.take_length]; exact hg)
      omega
    · have hm := groups_mem (l := onlyL l) (k := (onlyL l).length) (Nat.le_refl _) g (by rw [List.take_length]; exact hg) x hx
      have h2 := List.mem_filter.1 hm
      have h3 := h2.2
      unfold fineB at h3
      rw [Bool.and_eq_true] at h3
      exact ⟨hsz x h2.1, fitB_iff.1 h3.2⟩
  have hgl : (groupsL ky (onlyL l)).length ≤ 10000 := by
    have := groups_len (l := onlyL l) (k := (onlyL l).length) (Nat.le_refl _)
    rw [List.take_length] at this
    omega
  clear h hsz hl hi hz0 hz1 hz2 hj hy0 hy1 hy2 hol
  generalize groupsL ky (onlyL l) = gs at *
  have HFit := Lib.hid hfit
  have HLen : Hid (∀ k, k ≤ gs.length → (hereL (gs.take k)).length ≤ k * 10000) := fun k => by
    induction k with
    | zero => intro _; simp [hereL]
    | succ k ih =>
      intro hk
      have h1 := ih (by omega)
      have h2 : (hereG gs[k]).length ≤ 10000 := by
        unfold hereG
        rw [List.length_map]
        have hg := (HFit.out gs[k] (List.getElem_mem hk)).2.1
        refine Nat.le_trans (nlri.packF_len _ _ _) ?_
        unfold sortP
        split
        · rename_i he
          have := issort_len he.choose_spec
          rw [List.length_map] at this
          omega
        · simp
      rw [hereL_take hk, List.length_append]
      omega
  obtain ⟨Q, hQ⟩ : ∃ Q, Q = RetL 11 rUm 49 (hereL gs) w := ⟨_, rfl⟩
  have HQ : Hid (∀ (A : Option Addr) (m c : Nat) (vs : List Value) (w' : World), Lst 11 rUm 49 (fun j => w.heap.size ≤ j) w w' A m c vs (hereL gs) → Q (.returned (.slice A m c)) w') := fun A m c vs w' h => by
    rw [hQ]
    have e := h.len
    subst e
    exact ⟨A, c, vs, rfl, h⟩
  rw [← hQ]
  clear hQ hfit
  go_enter Tryz.func18, Tryz.ntmps18
  go_wp2_with (go_at_call 27; refine HO.out.mono ?_; rintro e w1 ⟨A1, c1, rfl, _, _, _, hE, hb⟩; have HE := Lib.hid hE; have HB1 := Lib.hid hb; clear hE hb)
  go_loopw [3, 14] (fun v3 v14 wr => ∃ (k m c : Nat) (A3 : Option Addr) (vs : List Value), k ≤ gs.length ∧ v14 = .int .i64 k ∧ v3 = .slice A3 m c ∧ Below w1.heap.size w1 wr ∧ Lst 11 rUm 49 (fun j => w.heap.size ≤ j) w wr A3 m c vs (hereL (gs.take k)) ∧ ∀ j, sf A3 j → w1.heap.size ≤ j) (fun _ v14 _ => gs.length - (intOf v14).toNat)
  case atStart => exact ⟨0, 0, 0, none, [], Nat.zero_le _, rfl, rfl, Below.refl _ _, (Lst.nil w1).elder HB1.out, fun j hj => absurd hj (sf_none j)⟩
  case round =>
    obtain ⟨k, m0, c0, A0, vs0, hk, rfl, rfl, hb, hL, hlo⟩ := hrel
    obtain ⟨wo, rfl⟩ : ∃ v, v = wr := ⟨_, rfl⟩
    have HB := Lib.hid hb
    have HL := Lib.hid hL
    have HLo := Lib.hid hlo
    have hm0 := HLen.out k hk
    rw [hL.len] at hm0
    clear hb hL hlo
    by_cases hlt : k < gs.length
    · have hki : (k : Int) < (gs.length : Int) := by omega
      have HTk := Lib.hid (hereL_take hlt)
      have hR : Keeps 1 (rSl 11 rTo) := keeps_sl keeps_to
      obtain ⟨b, off, cs, rfl, _, hbl1, hr, hc⟩ := HE.out.at_ hR hlt
      obtain ⟨B, d, rfl, hB1, hB2, hB3, hEg⟩ := hr
      have hq0 := hc 0 _ rfl
      rw [Nat.mul_one, Nat.add_zero] at hq0
      have x0 := (HB.out.cell (p := ⟨b, off + k, none⟩) hbl1).trans hq0
      obtain ⟨hne, hgl2, hgf⟩ := HFit.out _ (List.getElem_mem hlt)
      generalize gs[k] = g at *
      have HEg : Hid (Els 11 rTo w1 (fun j => j < w1.heap.size) B g) := hEg.mono keeps_to fun j hj _ => hj
      have HGf := Lib.hid hgf
      have hpos : 0 < g.length := List.length_pos_iff.2 hne
      clear hEg hgf hR hc hq0 hne
      have hgi : (0 : Int) < (g.length : Int) := by omega
      go_wp2_with fail
      go_loopw [6, 20] (fun v6 v20 wi => ∃ (j c6 : Nat) (A6 : Option Addr), j ≤ g.length ∧ v20 = .int .i64 j ∧ v6 = .slice A6 j c6 ∧ Acc wo 56 2 wi A6 j c6 (fv ((g.take j).map (·.1)))) (fun _ v20 _ => g.length - (intOf v20).toNat)
      case atStart => exact ⟨0, 0, none, Nat.zero_le _, rfl, rfl, ⟨foot.Own.none_ _ _ _, Below.refl _ _, fun x hx => absurd hx (sf_none x)⟩⟩
      case round =>
        obtain ⟨j, c6, A6, hj, rfl, rfl, ha⟩ := hrel
        obtain ⟨wi, rfl⟩ : ∃ v, v = wr := ⟨_, rfl⟩
        have HA := Lib.hid ha
        clear ha
        by_cases hjt : j < g.length
        · have hji : (j : Int) < (g.length : Int) := by omega
          have HTj : Hid (fv ((g.take (j + 1)).map (·.1)) = fv ((g.take j).map (·.1)) ++ [.int .u32 (g[j].1.1 : Int), .int .i64 g[j].1.2]) := by
            rw [Hid, List.take_succ_eq_append_getElem hjt, List.map_append]
            simp [fv]
          obtain ⟨b2, o2, cs, rfl, hbl, hr, hrg⟩ := els_range keeps_to ((HEg.out.bel keeps_to HB.out).bel keeps_to HA.out.bel) hjt
          generalize g[j] = x at *
          obtain ⟨⟨a, n⟩, q⟩ := x
          obtain ⟨Ap, cp, Ac, cc, rfl, ham, h32⟩ := hr
          have HRg := Lib.hid hrg
          clear hrg ham hbl
          go_upto_region 9 with (first
            | (refine loadMidG (by rfl) 61 (.tmp 22) rfl b2 (o2 + j * 11) (by rfl) (toc ((a, n), q) Ap cp Ac cc) _ HRg.out Tryz.underlying61 (by rfl) HSt.out ?_)
            | (refine wpList_storeBk rfl 61 (.tmp 8) (.tmp 23) rfl wi.heap.size (by rfl) (toc ((a, n), q) Ap cp Ac cc).toArray (by rfl) 61 zeroTo.toArray (Bk.new wi _ _) HSt.out rfl (by rfl) ?_; intro w2 h5 h6 h7; have K1 := Lib.hid h5; have C1 := Lib.hid h6; clear h5 h6 h7))
          have hB2 : Below wi.heap.size wi w2 := by
            have h1 : Below wi.heap.size wi (wi.alloc (.cells zeroTo.toArray 61)) := (Below.refl _ _).alloc (Nat.le_refl _) _
            exact h1.trans (C1.out.below (fun k e => by omega) h1.size)
          have HA2 := Lib.hid (HA.out.go hB2)
          obtain ⟨gb, hgb⟩ : ∃ g, g = wi.heap.size := ⟨_, rfl⟩
          rw [← hgb] at K1 ⊢
          obtain ⟨y0, y1, _⟩ := box_to K1.out
          clear hgb hB2 C1 HRg K1 HA
          have HB4 : Hid (Below w2.heap.size w2 (w2.alloc (.cells #[.int .u32 (a : Int), .int .i64 n] 56))) := (Below.refl _ _).alloc (Nat.le_refl _) _
          have HA4 := Lib.hid (HA2.out.go HB4.out)
          have HN4 : Hid (Rg (w2.alloc (.cells #[.int .u32 (a : Int), .int .i64 n] 56)) (fun k => k = w2.heap.size) 2 (some ⟨w2.heap.size, 0, none⟩) 1 [.int .u32 (a : Int), .int .i64 n]) := Rg.new w2 56 2 1 #[.int .u32 (a : Int), .int .i64 n] rfl
          go_wp2_with (at_builtin; refine wpList_app _ rfl (.tmp 24) (.tmp 27) _ rfl 56 j0 _ 2 16 Tryz.underlying38 Hj.out Hy0.out Hy1.out Hy2.out rfl (by omega) A6 j c6 _ rfl HA4.out.own _ (some ⟨w2.heap.size, 0, none⟩) 1 1 (by intro h; cases h) [.int .u32 (a : Int), .int .i64 n] rfl HN4.out (by intro u hu; simp at hu; rcases hu with rfl | rfl <;> rfl) (by unfold maxLen; omega) (by omega) ?_; intro A8 c8 w8 ho hc hf; have HA8 := Lib.hid (HA4.out.app ho hc hf); clear ho hc hf)
          go_roundw
          case rel => exact ⟨j + 1, c8, A8, by omega, by go_num, rfl, by rw [HTj.out]; exact HA8.out⟩
          case measure => simp [intOf]; omega
        · obtain rfl : j = g.length := by omega
          rw [List.take_length] at HA
          obtain ⟨b2, o2, cs, rfl, hbG, hbl2, hr, hrg⟩ := els_rangeG keeps_to ((HEg.out.bel keeps_to HB.out).bel keeps_to HA.out.bel) hpos
          obtain ⟨hsm, hft⟩ := HGf.out _ (List.getElem_mem hpos)
          have hat : attrG g = g[0].2 := by
            rcases g with _ | ⟨x, t⟩
            · simp at hpos
            · rfl
          have hall : ∀ x ∈ g.map (·.1), x.1 < 4294967296 := fun x hx => by
            obtain ⟨y, hy, rfl⟩ := List.mem_map.1 hx
            obtain ⟨i, hi, rfl⟩ := List.mem_iff_getElem.1 hy
            obtain ⟨_, _, _, _, _, hr2, _⟩ := els_range keeps_to ((HEg.out.bel keeps_to HB.out).bel keeps_to HA.out.bel) hi
            obtain ⟨_, _, _, _, _, _, h⟩ := hr2
            exact h
          have HGk : Hid (hereG g = (nlri.packK (roomA g[0].2 : Int) (sortP (g.map (·.1)))).map (hereU g[0].2)) := by rw [Hid]; unfold hereG; rw [hat]
          have hll : (g.map (·.1)).length = g.length := List.length_map _
          generalize g.map (·.1) = pl at *
          generalize g[0] = x at *
          obtain ⟨⟨a, n⟩, q⟩ := x
          obtain ⟨Ap, cp, Ac, cc, rfl, ham, h32⟩ := hr
          have hsm : nsz q.path ≤ 100000 ∧ q.comms.length ≤ 100000 := hsm
          have hft : FitA q := hft
          have HRq := Lib.hid (box_row hrg)
          have HSo := Lib.hid (fun w' (h : Below wi.heap.size wi w') => srt.Sort_any A6 g.length c6 pl w' (by omega) HA.out.own.nil hll hall (HA.out.own.rg.bel h))
          have HRm := Lib.hid (fun w' (h : Below wi.heap.size wi w') => Room_any q Ap Ac cp cc _ w' (ham.bel h) hsm.1 hsm.2 hft.1)
          have HNm : Hid (∀ w', Am w' (fun _ => True) q Ap cp Ac cc → Calls Tryz.prog 38 #[.agg (atc q Ap cp Ac cc).toArray] w' (RetA q w')) := fun w' h => by
            have := NormP_any q Ap Ac cp cc _ w' h hsm.1 (by have := hsm.2; omega)
            rwa [show normA q = q from hft.1.1] at this
          have HPk : Hid (∀ (s : List Pf) (A7 : Option Addr) (c7 : Nat) (w' : World), IsSort gdP pl s → foot.Own w' 56 2 A7 s.length c7 (fv s) → Calls Tryz.prog 35 #[.slice A7 s.length c7, .int .i64 (roomA q : Int)] w' (nlri.RetG (nlri.packK (roomA q : Int) s) w')) := fun s A7 c7 w' hs ho => by
            have h1 := issort_len hs
            have hr4 : roomA q ≤ 4073 := by unfold roomA; omega
            have h := nlri.Pack_any A7 c7 s (roomA q : Int) w' (by omega) (by omega) (by omega) ho.nil (fun x hx => hall x ((hs.mem x).1 hx).1) ho.rg
            rwa [filter_gd hft.2.2 hs] at h
          have HAm := Lib.hid ham
          have HL2 := Lib.hid (HL.out.go keeps_um HA.out.bel)
          have HBi : Hid (Below w1.heap.size w1 wi) := HB.out.trans (HA.out.bel.mono HB.out.size)
          have HA0 : Hid (∀ j, sf A0 j → j < wo.heap.size) := HL.out.acc.own.lt
          have HRi : Hid (wo.heap.size ≤ wi.heap.size) := HA.out.bel.size
          have hb2w : b2 < wi.heap.size := hbl2
          have HBg : Hid (b2 < w1.heap.size) := hbG
          have HU : Hid (∀ w', Below wi.heap.size wi w' → w'.rangeAt b2 (o2 + 2) (atc q Ap cp Ac cc)) := fun w' h => range_bel (by have := HRq.out; rwa [show o2 + 0 * 11 + 2 = o2 + 2 by omega] at this) h hb2w
          have HLp : Hid (∀ s, IsSort gdP pl s → (nlri.packK (roomA q : Int) s).length ≤ 10000) := fun s hs => Nat.le_trans (nlri.packF_len _ _ _) (by have := issort_len hs; omega)
          clear hrg ham hsm hft hat hall h32 hbl2 hbG HA HL HRq
          have HX1 : Hid (Below wi.heap.size wi wi.drew) := (Below.refl _ _).drew
          go_wp2_with fail
          refine region_mv (S := fun w' => w'.rangeAt b2 (o2 + 2) (atc q Ap cp Ac cc)) (A := List.range 10) (sq := [.p 0, .p 2, .p 3, .p 4, .p 5, .p 9, .c 1, .c 6, .c 7, .c 8]) (by kernel_rfl) (by kernel_rfl) ?_ (fun hHeld => ?_)
          · exact HU.out _ HX1.out
          repeat ((with_reducible refine mv_at ?_); (first
            | (refine ⟨_, .agg (atc q Ap cp Ac cc).toArray, rfl, yieldsIf_load_mid (by rfl) 26 (.tmp 34) rfl b2 (o2 + 2) (by rfl) (atc q Ap cp Ac cc) _ (fun w h => h) Tryz.underlying26 (by rfl) HSz.out, ?_⟩)
            | (refine ⟨_, ?_, rfl, Or.inl ⟨by rfl, ?_⟩, ?_⟩; rotate_left; · (intro w hSw; (try dsimp only at hSw); go_simp <;> with_reducible rfl))
            | (refine ⟨_, undef, rfl, Or.inr ⟨by rfl, rfl⟩, ?_⟩)); try simp only [Act.put, List.getElem_toArray, List.getElem_cons_succ, List.getElem_cons_zero, List.setIfInBounds_toArray, List.set_cons_zero, List.set_cons_succ])
          refine mv_c (o := _) rfl (fun K hK => ?_)
          go_simp
          go_at_call 36
          refine (HSo.out _ HX1.out).mono ?_
          rintro e w3 ⟨A7, c7, s, rfl, hs, ho, hlo7, hb3⟩
          have HIs := Lib.hid hs
          have HX3 := Lib.hid (HX1.out.trans (hb3.mono HX1.out.size))
          have HO3 := Lib.hid ho
          clear hs ho hlo7 hb3
          refine hK.out _ _ ?_ (fun hHeld => ?_)
          · exact HU.out _ HX3.out
          clear hK K
          try simp only [Act.put, List.getElem_toArray, List.getElem_cons_succ, List.getElem_cons_zero, List.setIfInBounds_toArray, List.set_cons_zero, List.set_cons_succ]
          refine mv_c (o := _) rfl (fun K hK => ?_)
          go_simp
          go_at_call 37
          refine (HRm.out _ HX3.out).mono ?_
          rintro e w4 ⟨rfl, hb4⟩
          have HX4 := Lib.hid (HX3.out.trans (hb4.mono HX3.out.size))
          have HPx := Lib.hid (HPk.out s A7 c7 w4 HIs.out (HO3.out.bel hb4))
          clear hb4
          refine hK.out _ _ ?_ (fun hHeld => ?_)
          · exact HU.out _ HX4.out
          clear hK K
          try simp only [Act.put, List.getElem_toArray, List.getElem_cons_succ, List.getElem_cons_zero, List.setIfInBounds_toArray, List.set_cons_zero, List.set_cons_succ]
          refine mv_c (o := _) rfl (fun K hK => ?_)
          go_simp
          go_at_call 35
          refine HPx.out.mono ?_
          rintro e wp ⟨Ag, cg, vg, rfl, hgp⟩
          have HGp := Lib.hid hgp
          have HXp := Lib.hid (HX4.out.trans (hgp.acc.bel.mono HX4.out.size))
          clear hgp
          refine hK.out _ _ ?_ (fun hHeld => ?_)
          · exact HU.out _ HXp.out
          clear hK K
          try simp only [Act.put, List.getElem_toArray, List.getElem_cons_succ, List.getElem_cons_zero, List.setIfInBounds_toArray, List.set_cons_zero, List.set_cons_succ]
          refine mv_c (o := _) rfl (fun K hK => ?_)
          go_simp
          refine hK.out _ _ ?_ (fun hHeld => ?_)
          · exact HU.out _ HXp.out
          clear hK K
          try simp only [Act.put, List.getElem_toArray, List.getElem_cons_succ, List.getElem_cons_zero, List.setIfInBounds_toArray, List.set_cons_zero, List.set_cons_succ]
          repeat ((with_reducible refine mv_at ?_); (first
            | (refine ⟨_, ?_, rfl, Or.inl ⟨by rfl, ?_⟩, ?_⟩; rotate_left; · (intro w hSw; (try dsimp only at hSw); go_simp <;> with_reducible rfl))
            | (refine ⟨_, undef, rfl, Or.inr ⟨by rfl, rfl⟩, ?_⟩)); try simp only [Act.put, List.getElem_toArray, List.getElem_cons_succ, List.getElem_cons_zero, List.setIfInBounds_toArray, List.set_cons_zero, List.set_cons_succ])
          refine mv_end ?_
          have hpl := HLp.out s HIs.out
          have HGs : Hid (hereG g = (nlri.packK (roomA q : Int) s).map (hereU q)) := by rw [Hid, HGk.out, sortP_eq HIs.out]
          have HLq := Lib.hid (HL2.out.go keeps_um HXp.out)
          have HAq := Lib.hid (HAm.out.bel HXp.out)
          have HRp := Lib.hid (HU.out _ HXp.out)
          have hi4 : wi.heap.size ≤ w4.heap.size := HX4.out.size
          generalize nlri.packK (roomA q : Int) s = ps at *
          have HS4 := Lib.hid hi4
          clear HX1 HX3 HX4 HO3 HPx HPk HRm HSo HU HLp HL2 HAm HGk hi4
          have HCp : Hid (wi.heap.size ≤ wp.heap.size) := HXp.out.size
          have HBp : Hid (Below w1.heap.size w1 wp) := HBi.out.trans (HXp.out.mono HBi.out.size)
          have HGp2 : Hid (∀ x, sf Ag x → ¬ sf A0 x) := fun x hx hs => by have h1 := HGp.out.acc.low x hx; have h2 := HA0.out x hs; have h3 := HS4.out; have h4 := HRi.out; omega
          go_wp2_with fail
          go_loopw [3, 39] (fun v3 v39 wj => ∃ (i c : Nat) (A3 : Option Addr) (vs : List Value), i ≤ ps.length ∧ v39 = .int .i64 i ∧ v3 = .slice A3 (m0 + i) c ∧ Chg (sf A0) wp wj ∧ Fresh wp (sf A0) (sf A3) ∧ Lst 11 rUm 49 (fun j => w.heap.size ≤ j) w wj A3 (m0 + i) c vs (hereL (gs.take k) ++ (ps.take i).map (hereU q))) (fun _ v39 _ => ps.length - (intOf v39).toNat)
          case atStart => exact ⟨0, c0, A0, vs0, Nat.zero_le _, rfl, rfl, Chg.refl _ _, Fresh.refl _ _, by rw [List.take_zero, List.map_nil, List.append_nil]; exact HLq.out⟩
          case round =>
            obtain ⟨i, c3, A3, vs, hi, rfl, rfl, hch, hfr, hL⟩ := hrel
            obtain ⟨wj, rfl⟩ : ∃ v, v = wr := ⟨_, rfl⟩
            have HCh := Lib.hid hch
            have HFr := Lib.hid hfr
            have HLj := Lib.hid hL
            clear hch hfr hL
            by_cases hit : i < ps.length
            · have hii : (i : Int) < (ps.length : Int) := by omega
              have HTi : Hid (hereL (gs.take k) ++ (ps.take (i + 1)).map (hereU q) = (hereL (gs.take k) ++ (ps.take i).map (hereU q)) ++ [hereU q ps[i]]) := by rw [Hid, List.take_succ_eq_append_getElem hit, List.map_append, List.append_assoc]; rfl
              obtain ⟨D, d2, hv, hD1, hD2, hD3⟩ := HGp.out.row i ps[i] (List.getElem?_eq_getElem hit)
              obtain ⟨gp, op, rfl⟩ := HGp.out.acc.own.form (by omega)
              obtain ⟨q1, _, q3⟩ := HGp.out.acc.own.at_ i hv
              have y0 : wj.cell? ⟨gp, op + i, none⟩ = some (.slice D ps[i].length d2) := by
                rw [World.cell?_of_block (w := wp) (HCh.out.block gp q3 (HGp2.out gp (by rw [sf_some])))]
                exact q1
              generalize ps[i] = p at *
              have hs3 : w.heap.size ≤ w4.heap.size := by have h1 := HB1.out.size; have h2 := HBi.out.size; have h3 := HS4.out; omega
              have HPj : Hid (Pw wj (fun j => w.heap.size ≤ j ∧ ¬ sf A3 j) D d2 p) := by
                have h0 : Pw wp (fun j => (w.heap.size ≤ j ∧ ¬ sf A0 j) ∧ j < wp.heap.size) D d2 p := ⟨hD1, hD2.1, hD2.2, hD3.mono fun j hj hG => ⟨⟨Nat.le_trans hs3 hG.1, fun hs => by have h2 := HA0.out j hs; have h3 := HS4.out; have h4 := HRi.out; have h5 := hG.1; omega⟩, hj⟩⟩
                exact (h0.chg HCh.out fun j _ hG => hG.1.2).mono fun j _ hG => ⟨hG.1.1, fun hs => by
                  rcases HFr.out j hs with e | e
                  · exact hG.1.2 e
                  · have := hG.2; omega⟩
              have HAj : Hid (Am wj (fun _ => True) q Ap cp Ac cc) := (HAq.out.chg HCh.out fun j _ hj hs => by have := HLo.out j hs; omega).mono fun _ _ _ => trivial
              have HRj := Lib.hid (range_chg HRp.out HCh.out (Nat.lt_of_lt_of_le hb2w HCp.out) (fun hs => by have := HLo.out b2 hs; have := HBg.out; omega))
              have HA3 : Hid (∀ j, sf A3 j → j < wj.heap.size) := HLj.out.acc.own.lt
              have HSj : Hid (w.heap.size ≤ wj.heap.size) := HLj.out.acc.bel.size
              clear hv hD1 hD2 hD3 q1 q3 hs3
              go_wp2_with (first
                | (refine loadMidG (by rfl) 26 (.tmp 46) rfl b2 (o2 + 2) (by rfl) (atc q Ap cp Ac cc) _ HRj.out Tryz.underlying26 (by rfl) HSz.out ?_)
                | (go_at_call 38; refine (HNm.out _ HAj.out).mono ?_; rintro e w5 ⟨Bp, bp, Bc, bc, rfl, h1, h2⟩; have HL5 := Lib.hid (HLj.out.go keeps_um h2); have HX5 := Lib.hid h2; have HU5 : Hid (Um w5 (fun j => w.heap.size ≤ j ∧ ¬ sf A3 j) (hereU q p) none 0 Bp bp Bc bc D d2) := ⟨Pw.nil_ _ _, h1.mono fun j _ hj => ⟨Nat.le_trans HSj.out hj, fun hs => by have := HA3.out j hs; omega⟩, HPj.out.bel h2⟩; clear h1 h2)
                | (refine wpList_build rfl 49 #[(1, .tmp 48), (2, .tmp 49)] rfl (.agg (upc none 0 0 (atc q Bp bp Bc bc) D p.length d2).toArray) (by kernel_rfl) ?_)
                | (refine wpList_lit rfl 40 49 1 _ rfl i0 _ 11 Tryz.underlying40 Hi.out Hz0.out Hz1.out (by omega) [.agg (upc none 0 0 (atc q Bp bp Bc bc) D p.length d2).toArray] rfl (by omega) (by omega) (by rfl) (by intro v hv; simp at hv; rw [hv]; rfl) (upc none 0 0 (atc q Bp bp Bc bc) D p.length d2) (by rfl) ?_; have HA6 : Hid (Below w5.heap.size w5 (w5.alloc (.cells (upc none 0 0 (atc q Bp bp Bc bc) D p.length d2).toArray 49))) := (Below.refl _ _).alloc (Nat.le_refl _) _; have HL6 := Lib.hid (HL5.out.go keeps_um HA6.out); have HU6 := Lib.hid (HU5.out.bel HA6.out); have HN6 : Hid (Rg (w5.alloc (.cells (upc none 0 0 (atc q Bp bp Bc bc) D p.length d2).toArray 49)) (fun k => k = w5.heap.size) 11 (some ⟨w5.heap.size, 0, none⟩) 1 (upc none 0 0 (atc q Bp bp Bc bc) D p.length d2)) := Rg.new w5 49 11 1 (upc none 0 0 (atc q Bp bp Bc bc) D p.length d2).toArray rfl; have HC6 : Hid (Chg (sf A0) wp (w5.alloc (.cells (upc none 0 0 (atc q Bp bp Bc bc) D p.length d2).toArray 49))) := (HCh.out.trans (Chg.of_below HX5.out (sf A0)) fun _ _ e => e).trans (Chg.of_below HA6.out (sf A0)) fun _ _ e => e)
                | (at_builtin; refine wpList_app _ rfl (.tmp 43) (.tmp 51) _ rfl 49 i0 _ 11 136 Tryz.underlying40 Hi.out Hz0.out Hz1.out Hz2.out rfl (by omega) A3 (m0 + i) c3 vs rfl HL6.out.acc.own _ (some ⟨w5.heap.size, 0, none⟩) 1 1 (by intro h; cases h) (upc none 0 0 (atc q Bp bp Bc bc) D p.length d2) rfl HN6.out upc_one (by unfold maxLen; omega) (by omega) ?_; intro A8 c8 w8 ho hc hf; have HL8 : Hid (Lst 11 rUm 49 (fun j => w.heap.size ≤ j) w w8 A8 (m0 + i + 1) c8 (vs ++ upc none 0 0 (atc q Bp bp Bc bc) D p.length d2) ((hereL (gs.take k) ++ (ps.take i).map (hereU q)) ++ [hereU q p])) := Lst.app keeps_um HL6.out (rAll.single ⟨none, 0, Bp, bp, Bc, bc, D, d2, rfl, HU6.out⟩) rfl ho hc hf; have HC8 := Lib.hid (HC6.out.step HFr.out hc); have HF8 := Lib.hid (Fresh.trans HFr.out hf HC6.out.size); clear ho hc hf))
              go_roundw
              case rel => exact ⟨i + 1, c8, A8, _, by omega, by go_num, rfl, HC8.out, HF8.out, by rw [HTi.out]; exact HL8.out⟩
              case measure => simp [intOf]; omega
            · obtain rfl : i = ps.length := by omega
              have HNx : Hid (Lst 11 rUm 49 (fun j => w.heap.size ≤ j) w wj A3 (m0 + ps.length) c3 vs (hereL (gs.take (k + 1)))) := by
                have h := HLj.out
                rw [List.take_length] at h
                rw [Hid, HTk.out, HGs.out]
                exact h
              have HBn : Hid (Below w1.heap.size w1 wj) := HBp.out.trans (HCh.out.below (fun j hj => HLo.out j hj) HBp.out.size)
              have HLn : Hid (∀ j, sf A3 j → w1.heap.size ≤ j) := HFr.out.low (fun j hj => HLo.out j hj) HBp.out.size
              clear HTk HGs
              go_wp2_with fail
              go_roundw
              case rel => exact ⟨k + 1, m0 + ps.length, c3, A3, vs, by omega, by go_num, rfl, HBn.out, HNx.out, HLn.out⟩
              case measure => simp [intOf]; omega
    · obtain rfl : k = gs.length := by omega
      have hL := HL.out
      rw [List.take_length] at hL
      have HP := Lib.hid (HQ.out _ _ _ _ _ hL)
      clear hL
      go_wp2_with fail
      exact HP.out
end Go.Proofs.YtbljhjfaimnieaaGreat.pck
