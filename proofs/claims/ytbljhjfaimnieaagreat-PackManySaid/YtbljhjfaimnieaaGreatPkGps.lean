/- What is told, in memory; what pack.only and Only return. Condition: at most 10000 of them, and at most 100000 numbers and pieces in each. Groups of what is told, in memory: a row of slices, and each one's row; where an element goes. No condition. -/
import Derived.Test.YtbljhjfaimnieaaGreatPkFits
import Derived.Test.YtbljhjfaimnieaaGreatPkMath
import Derived.Test.YtbljhjfaimnieaaGreatPfxFns
import Derived.Test.YtbljhjfaimnieaaGreatMv
namespace Go.Proofs.YtbljhjfaimnieaaGreat.pck
open Go.RowKit Go.Proofs.YtbljhjfaimnieaaGreat.kit Go.Proofs.YtbljhjfaimnieaaGreat.mem Go.Proofs.YtbljhjfaimnieaaGreat.foot Go.Proofs.YtbljhjfaimnieaaGreat.nums Go.Proofs.YtbljhjfaimnieaaGreat.asn Go.Proofs.YtbljhjfaimnieaaGreat.pth Go.Proofs.YtbljhjfaimnieaaGreat.octet Go.Proofs.YtbljhjfaimnieaaGreat.attr Go.Proofs.YtbljhjfaimnieaaGreat.mv
set_option linter.unusedVariables false
set_option linter.unusedSimpArgs false
abbrev To := (Nat × Int) × Atr
def toc (x : To) (Ap : Option Addr) (cp : Nat) (Ac : Option Addr) (cc : Nat) : List Value := [.int .u32 (x.1.1 : Int), .int .i64 x.1.2] ++ atc x.2 Ap cp Ac cc
def zeroTo : List Value := [.int .u32 0, .int .i64 0] ++ zeroC
theorem toc_one {x : To} {Ap : Option Addr} {cp : Nat} {Ac : Option Addr} {cc : Nat} : ∀ u ∈ toc x Ap cp Ac cc, u.oneCell' = true := fun u hu => by
  rcases List.mem_append.1 hu with h | h
  · simp at h; rcases h with rfl | rfl <;> rfl
  · exact atc_one u h
/-- a prefix whose address is one, its attributes -/
def rTo : Rel To := fun w G cs x => ∃ Ap cp Ac cc, cs = toc x Ap cp Ac cc ∧ Am w G x.2 Ap cp Ac cc ∧ x.1.1 < 4294967296
theorem keeps_to : Keeps 11 rTo := by
  refine ⟨fun h => ?_, fun h u hu => ?_, fun h hc hd => ?_, fun h hG => ?_⟩
  all_goals obtain ⟨Ap, cp, Ac, cc, rfl, hm, hx⟩ := h
  · rfl
  · exact toc_one u hu
  · exact ⟨Ap, cp, Ac, cc, rfl, hm.chg hc hd, hx⟩
  · exact ⟨Ap, cp, Ac, cc, rfl, hm.mono hG, hx⟩
theorem info_to : (Tryz.prog.info? 61).map (fun i => (i.zero, i.size, i.bytes)) = some (some (.agg zeroTo.toArray), 11, 104) := by kernel_rfl
theorem info_to11 : (Tryz.prog.info? 61).map (·.size) = some 11 := by kernel_rfl
noncomputable def fitB (a : Atr) : Bool := @decide (FitA a) (Classical.propDecidable _)
theorem fitB_iff {a : Atr} : fitB a = true ↔ FitA a := by unfold fitB; exact @decide_eq_true_iff _ (Classical.propDecidable _)
noncomputable def fineB (x : To) : Bool := pfx.goodB x.1.1 x.1.2 && fitB x.2
/-- what may be told -/
noncomputable def onlyL (l : List To) : List To := l.filter fineB
theorem onlyL_take {l : List To} {k : Nat} (h : k < l.length) : onlyL (l.take (k + 1)) = onlyL (l.take k) ++ if fineB l[k] = true then [l[k]] else [] := by
  unfold onlyL
  rw [List.take_succ_eq_append_getElem h, List.filter_append]
  congr 1
  simp [List.filter_cons]
/-- where an element lies, and its cells -/
theorem els_range {α : Type} {R : Rel α} {n : Nat} {w : World} {G : Foot} {A : Option Addr} {l : List α} (hR : Keeps n R) (h : Els n R w G A l) {k : Nat} (hk : k < l.length) :
    ∃ b off cs, A = some ⟨b, off, none⟩ ∧ b < w.heap.size ∧ R w G cs l[k] ∧ w.rangeAt b (off + k * n) cs := by
  obtain ⟨b, off, cs, h1, _, h2, h3, h4⟩ := h.at_ hR hk
  exact ⟨b, off, cs, h1, h2, h3, h4⟩
/-- a part of a block read, behind a guard or not -/
theorem loadMidG {P : Program} {ops : Array Oper} {rest : List Oper} {o : Oper} {a : Act} {w : World} {Q : Exit → Act → World → Prop} (hw : Region.wanted o (yielded ops a.tmps) = true) (ty : TypeId) (x : Operand) (ho : o.op = .load ty x)
    (b k : Nat) (hx : a.eval x = .pointer (some ⟨b, k, none⟩)) (cs : List Value) (d : TypeDesc) (hc : w.rangeAt b k cs)
    (hu : P.underlying ty = some d) (hd : d.isRow = true) (hi : (P.info? ty).map (·.size) = some cs.length)
    (h : wpList P ops Q rest (a.put o.dst (.agg cs.toArray)) w) : wpList P ops Q (o :: rest) a w :=
  wpList_step fun K hK => by
    rw [if_pos hw]
    exact wp_load_mid ty x ho b k hx cs d hc hu hd hi (hK _ _ h)
/-- what a box of one says -/
theorem box_to {w : World} {g a : Nat} {n : Int} {q : Atr} {Ap Ac : Option Addr} {cp cc : Nat} (h : Bk w g 61 (toc ((a, n), q) Ap cp Ac cc).toArray) :
    w.cell? ⟨g, 0, none⟩ = some (.int .u32 (a : Int)) ∧ w.cell? ⟨g, 1, none⟩ = some (.int .i64 n) ∧ w.rangeAt g 2 (atc q Ap cp Ac cc) :=
  ⟨h.cell 0, h.cell 1, Bk.range (pre := [.int .u32 (a : Int), .int .i64 n]) (post := []) (by rw [List.append_nil]; exact h)⟩
set_option maxRecDepth 100000 in
set_option maxHeartbeats 8000000 in
theorem only_any (A : Option Addr) (c : Nat) (l : List To) (G : Foot) (w : World) (hl : l.length ≤ 10000) (h : Els 11 rTo w G A l) (hsz : ∀ x ∈ l, nsz x.2.path ≤ 100000 ∧ x.2.comms.length ≤ 100000) :
    Calls Tryz.prog 33 #[.slice A l.length c] w (RetL 11 rTo 61 (onlyL l) w) := by
  obtain ⟨i0, hi, hz0, hz1, hz2⟩ := info_parts info_to
  have Hi := Lib.hid hi
  have Hz0 := Lib.hid hz0
  have Hz1 := Lib.hid hz1
  have Hz2 := Lib.hid hz2
  have HSz : Hid ((Tryz.prog.info? 26).map (·.size) = some 9) := info_atr
  have HSt : Hid ((Tryz.prog.info? 61).map (·.size) = some 11) := info_to11
  have HE := Lib.hid h
  have HSi := Lib.hid hsz
  obtain ⟨Q, hQ⟩ : ∃ Q, Q = RetL 11 rTo 61 (onlyL l) w := ⟨_, rfl⟩
  have HQ : Hid (∀ (A : Option Addr) (m c : Nat) (vs : List Value) (w' : World), Lst 11 rTo 61 (fun j => w.heap.size ≤ j) w w' A m c vs (onlyL l) → Q (.returned (.slice A m c)) w') := fun A m c vs w' h => by
    rw [hQ]
    have e := h.len
    subst e
    exact ⟨A, c, vs, rfl, h⟩
  rw [← hQ]
  clear hQ h hsz hi hz0 hz1 hz2
  go_enter Tryz.func33, Tryz.ntmps33
  go_wp2_with fail
  go_loopw [3, 8] (fun v3 v8 wr => ∃ (k m c : Nat) (A3 : Option Addr) (vs : List Value), k ≤ l.length ∧ v8 = .int .i64 k ∧ v3 = .slice A3 m c ∧ m ≤ k ∧ Lst 11 rTo 61 (fun j => w.heap.size ≤ j) w wr A3 m c vs (onlyL (l.take k))) (fun _ v8 _ => l.length - (intOf v8).toNat)
  case atStart => exact ⟨0, 0, 0, none, [], Nat.zero_le _, rfl, rfl, Nat.le_refl _, Lst.nil w⟩
  case round =>
    obtain ⟨k, m, c3, A3, vs, hk, rfl, rfl, hmk, hL⟩ := hrel
    have HL := Lib.hid hL
    clear hL
    by_cases hlt : k < l.length
    · have hki : (k : Int) < (l.length : Int) := by omega
      obtain ⟨b, off, cs, rfl, hbl, hr, hrg⟩ := els_range keeps_to (HE.out.bel keeps_to HL.out.acc.bel) hlt
      have hs := HSi.out _ (List.getElem_mem hlt)
      have HTk := Lib.hid (onlyL_take hlt)
      generalize l[k] = x at *
      obtain ⟨⟨a, n⟩, q⟩ := x
      obtain ⟨Ap, cp, Ac, cc, rfl, ham, h32⟩ := hr
      have hs : nsz q.path ≤ 100000 ∧ q.comms.length ≤ 100000 := hs
      have HRg := Lib.hid hrg
      have HG := Lib.hid (fun w' => pfx.good_any a n h32 w')
      have HFt := Lib.hid (fun w' (h : Below wr.heap.size wr w') => fits_any q Ap Ac cp cc G w' (fitB q) fitB_iff (ham.bel h) hs.1 hs.2)
      have HNm : Hid (fitB q = true → ∀ w', Below wr.heap.size wr w' → Calls Tryz.prog 38 #[.agg (atc q Ap cp Ac cc).toArray] w' (RetA q w')) := fun hf w' h => by
        have := NormP_any q Ap Ac cp cc G w' (ham.bel h) hs.1 (by omega)
        rwa [show normA q = q from (fitB_iff.1 hf).1.1] at this
      have H32 := Lib.hid h32
      have HA3 : Hid (∀ j, sf A3 j → j < wr.heap.size) := HL.out.acc.own.lt
      clear hrg ham hs hbl h32
      go_upto_region 5 with (first
        | (refine loadMidG (by rfl) 61 (.tmp 10) rfl b (off + k * 11) (by rfl) (toc ((a, n), q) Ap cp Ac cc) _ HRg.out Tryz.underlying61 (by rfl) HSt.out ?_)
        | (refine wpList_storeBk rfl 61 (.tmp 5) (.tmp 11) rfl wr.heap.size (by rfl) (toc ((a, n), q) Ap cp Ac cc).toArray (by rfl) 61 zeroTo.toArray (Bk.new wr _ _) HSt.out rfl (by rfl) ?_; intro w1 h5 h6 h7; have K1 := Lib.hid h5; have C1 := Lib.hid h6; clear h5 h6 h7))
      have hB1 : Below wr.heap.size wr w1 := by
        have h1 : Below wr.heap.size wr (wr.alloc (.cells zeroTo.toArray 61)) := (Below.refl _ _).alloc (Nat.le_refl _) _
        exact h1.trans (C1.out.below (fun k e => by omega) h1.size)
      have HB1 := Lib.hid hB1
      clear hB1 C1 HRg
      obtain ⟨gb, hgb⟩ : ∃ g, g = wr.heap.size := ⟨_, rfl⟩
      rw [← hgb] at K1 ⊢
      have HGb := Lib.hid hgb
      clear hgb
      have HU : Hid (∀ w', Below w1.heap.size w1 w' → Bk w' gb 61 (toc ((a, n), q) Ap cp Ac cc).toArray) := fun w' h => K1.out.below h K1.out.lt
      have HW : Hid (∀ w', Below w1.heap.size w1 w' → Below wr.heap.size wr w') := fun w' h => HB1.out.trans (h.mono HB1.out.size)
      obtain ⟨x0, x1, _⟩ := box_to K1.out
      rcases hg : pfx.goodB a n with _ | _
      · have HEq : Hid (onlyL (l.take (k + 1)) = onlyL (l.take k)) := by rw [Hid, HTk.out, if_neg (by simp [fineB, hg]), List.append_nil]
        rw [hg] at HG
        clear hg
        go_wp2_with fail
        refine (HG.out _).mono ?_
        rintro e w2 ⟨rfl, h2⟩
        have HL2 := Lib.hid (HL.out.go keeps_to (HW.out _ h2))
        clear h2
        go_wp2_with fail
        go_roundw
        case rel => exact ⟨k + 1, m, c3, A3, vs, by omega, by go_num, rfl, by omega, by rw [HEq.out]; exact HL2.out⟩
        case measure => simp [intOf]; omega
      · rw [hg] at HG
        rcases hf : fitB q with _ | _
        · have HEq : Hid (onlyL (l.take (k + 1)) = onlyL (l.take k)) := by rw [Hid, HTk.out, if_neg (by simp [fineB, hf]), List.append_nil]
          rw [hf] at HFt
          clear hg hf HNm
          go_wp2_with fail
          refine (HG.out _).mono ?_
          rintro e w2 ⟨rfl, h2⟩
          have HX2 := Lib.hid h2
          have HR2 := Lib.hid (box_to (HU.out _ h2)).2.2
          clear h2
          go_wp2_with (refine loadMidG (by rfl) 26 (.tmp 16) rfl gb 2 (by rfl) (atc q Ap cp Ac cc) _ HR2.out Tryz.underlying26 (by rfl) HSz.out ?_)
          refine (HFt.out _ (HW.out _ HX2.out)).mono ?_
          rintro e w3 ⟨rfl, h2⟩
          have HL3 := Lib.hid (HL.out.go keeps_to (HW.out _ (HX2.out.trans (h2.mono HX2.out.size))))
          clear h2
          go_wp2_with fail
          go_roundw
          case rel => exact ⟨k + 1, m, c3, A3, vs, by omega, by go_num, rfl, by omega, by rw [HEq.out]; exact HL3.out⟩
          case measure => simp [intOf]; omega
        · have HEq : Hid (onlyL (l.take (k + 1)) = onlyL (l.take k) ++ [((a, n), q)]) := by rw [Hid, HTk.out, if_pos (by simp [fineB, hf, hg])]
          have HNq := Lib.hid (HNm.out hf)
          rw [hf] at HFt
          clear hg hf HNm
          go_wp2_with fail
          refine (HG.out _).mono ?_
          rintro e w2 ⟨rfl, h2⟩
          have HX2 := Lib.hid h2
          have HR2 := Lib.hid (box_to (HU.out _ h2)).2.2
          clear h2
          go_wp2_with (refine loadMidG (by rfl) 26 (.tmp 16) rfl gb 2 (by rfl) (atc q Ap cp Ac cc) _ HR2.out Tryz.underlying26 (by rfl) HSz.out ?_)
          refine (HFt.out _ (HW.out _ HX2.out)).mono ?_
          rintro e w3 ⟨rfl, h2⟩
          have HX3 := Lib.hid (HX2.out.trans (h2.mono HX2.out.size))
          clear h2 HX2 HR2
          go_wp2_with fail
          have HX4 : Hid (Below w1.heap.size w1 w3.drew) := HX3.out.drew
          refine region_mv (S := fun w' => w'.cell? ⟨gb, 0, none⟩ = some (.int .u32 (a : Int)) ∧ w'.cell? ⟨gb, 1, none⟩ = some (.int .i64 n) ∧ w'.rangeAt gb 2 (atc q Ap cp Ac cc)) (A := List.range 10) (sq := [.p 0, .p 1, .p 2, .p 3, .p 4, .c 5, .p 6, .c 7, .c 8, .p 9]) (by kernel_rfl) (by kernel_rfl) ?_ (fun hHeld => ?_)
          · exact box_to (HU.out _ HX4.out)
          repeat ((with_reducible refine mv_at ?_); (first
            | (refine ⟨_, .agg (atc q Ap cp Ac cc).toArray, rfl, yieldsIf_load_mid (by rfl) 26 (.tmp 23) rfl gb 2 (by rfl) (atc q Ap cp Ac cc) _ (fun w h => h.2.2) Tryz.underlying26 (by rfl) HSz.out, ?_⟩)
            | (refine ⟨_, ?_, rfl, Or.inl ⟨by rfl, ?_⟩, ?_⟩; rotate_left; · (intro w hSw; (try dsimp only at hSw); go_simp <;> with_reducible rfl))
            | (refine ⟨_, undef, rfl, Or.inr ⟨by rfl, rfl⟩, ?_⟩)); try simp only [Act.put, List.getElem_toArray, List.getElem_cons_succ, List.getElem_cons_zero, List.setIfInBounds_toArray, List.set_cons_zero, List.set_cons_succ])
          refine mv_c (o := _) rfl (fun K hK => ?_)
          go_simp
          go_at_call 38
          refine (HNq.out _ (HW.out _ HX4.out)).mono ?_
          rintro e w5 ⟨Bp, dp, Bc, dc, rfl, h1, h2⟩
          have HX5 := Lib.hid (HX4.out.trans (h2.mono HX4.out.size))
          have HL5 := Lib.hid (HL.out.go keeps_to (HW.out _ HX5.out))
          have HM5 : Hid (Am w5 (fun j => w.heap.size ≤ j ∧ ¬ sf A3 j) q Bp dp Bc dc) := h1.mono fun j _ hj => ⟨Nat.le_trans HL.out.acc.bel.size (Nat.le_trans (HW.out _ HX4.out).size hj), fun hs => absurd (HA3.out j hs) (by have := (HW.out _ HX4.out).size; omega)⟩
          clear h1 h2
          refine hK.out _ _ ?_ (fun hHeld => ?_)
          · exact box_to (HU.out _ HX5.out)
          clear hK K
          try simp only [Act.put, List.getElem_toArray, List.getElem_cons_succ, List.getElem_cons_zero, List.setIfInBounds_toArray, List.set_cons_zero, List.set_cons_succ]
          repeat ((with_reducible refine mv_at ?_); (first
            | (refine ⟨_, .agg (toc ((a, n), q) Bp dp Bc dc).toArray, rfl, Or.inl ⟨by rfl, ?_⟩, ?_⟩; · (intro w hSw; kernel_rfl))
            | (refine ⟨_, ?_, rfl, Or.inl ⟨by rfl, ?_⟩, ?_⟩; rotate_left; · (intro w hSw; (try dsimp only at hSw); go_simp <;> with_reducible rfl))
            | (refine ⟨_, undef, rfl, Or.inr ⟨by rfl, rfl⟩, ?_⟩)); try simp only [Act.put, List.getElem_toArray, List.getElem_cons_succ, List.getElem_cons_zero, List.setIfInBounds_toArray, List.set_cons_zero, List.set_cons_succ])
          refine mv_c (o := _) rfl (fun K hK => ?_)
          refine step_lit rfl 27 61 1 _ rfl i0 _ 11 Tryz.underlying27 Hi.out Hz0.out Hz1.out (by omega) [.agg (toc ((a, n), q) Bp dp Bc dc).toArray] rfl (by omega) (by omega) (by rfl) (by intro v hv; simp at hv; rw [hv]; rfl) (toc ((a, n), q) Bp dp Bc dc) (by rfl) ?_
          have HA5 : Hid (Below w5.heap.size w5 (w5.alloc (.cells (toc ((a, n), q) Bp dp Bc dc).toArray 61))) := (Below.refl _ _).alloc (Nat.le_refl _) _
          have HL6 := Lib.hid (HL5.out.go keeps_to HA5.out)
          have HX6 := Lib.hid (HX5.out.trans (HA5.out.mono HX5.out.size))
          have HM6 := Lib.hid (HM5.out.bel HA5.out)
          have HN6 : Hid (Rg (w5.alloc (.cells (toc ((a, n), q) Bp dp Bc dc).toArray 61)) (fun k => k = w5.heap.size) 11 (some ⟨w5.heap.size, 0, none⟩) 1 (toc ((a, n), q) Bp dp Bc dc)) := Rg.new w5 61 11 1 (toc ((a, n), q) Bp dp Bc dc).toArray rfl
          refine hK.out _ _ ?_ (fun hHeld => ?_)
          · exact box_to (HU.out _ HX6.out)
          clear hK K
          try simp only [Act.put, List.getElem_toArray, List.getElem_cons_succ, List.getElem_cons_zero, List.setIfInBounds_toArray, List.set_cons_zero, List.set_cons_succ]
          refine mv_c (o := _) rfl (fun K hK => ?_)
          refine step_app _ rfl (.tmp 20) (.tmp 27) _ rfl 61 i0 _ 11 104 Tryz.underlying27 Hi.out Hz0.out Hz1.out Hz2.out rfl (by omega) A3 m c3 vs rfl HL6.out.acc.own _ (some ⟨w5.heap.size, 0, none⟩) 1 1 (by intro h; cases h) (toc ((a, n), q) Bp dp Bc dc) rfl HN6.out toc_one (by unfold maxLen; omega) (by omega) ?_
          intro A8 c8 w8 ho hc hf
          have HL8 := Lib.hid (Lst.app keeps_to HL6.out (rAll.single ⟨Bp, dp, Bc, dc, rfl, HM6.out, H32.out⟩) rfl ho hc hf)
          have HK8 := Lib.hid ((HU.out _ HX6.out).chg hc (fun hs => absurd (HA3.out _ hs) (by have := HGb.out; omega)))
          clear ho hc hf
          refine hK.out _ _ ?_ (fun hHeld => ?_)
          · exact box_to (HK8.out)
          clear hK K
          try simp only [Act.put, List.getElem_toArray, List.getElem_cons_succ, List.getElem_cons_zero, List.setIfInBounds_toArray, List.set_cons_zero, List.set_cons_succ]
          repeat ((with_reducible refine mv_at ?_); (first
            | (refine ⟨_, ?_, rfl, Or.inl ⟨by rfl, ?_⟩, ?_⟩; rotate_left; · (intro w hSw; (try dsimp only at hSw); go_simp <;> with_reducible rfl))
            | (refine ⟨_, undef, rfl, Or.inr ⟨by rfl, rfl⟩, ?_⟩)); try simp only [Act.put, List.getElem_toArray, List.getElem_cons_succ, List.getElem_cons_zero, List.setIfInBounds_toArray, List.set_cons_zero, List.set_cons_succ])
          refine mv_end ?_
          go_wp2_with fail
          go_roundw
          case rel => exact ⟨k + 1, m + 1, c8, A8, _, by omega, by go_num, rfl, by omega, by rw [HEq.out]; exact HL8.out⟩
          case measure => simp [intOf]; omega
    · obtain rfl : k = l.length := by omega
      have hL := HL.out
      rw [List.take_length] at hL
      have HP := Lib.hid (HQ.out _ _ _ _ _ hL)
      clear hL
      go_wp2_with fail
      exact HP.out
end Go.Proofs.YtbljhjfaimnieaaGreat.pck

namespace Go.Proofs.YtbljhjfaimnieaaGreat.pck
open Go.RowKit Go.Proofs.YtbljhjfaimnieaaGreat.kit Go.Proofs.YtbljhjfaimnieaaGreat.mem Go.Proofs.YtbljhjfaimnieaaGreat.foot Go.Proofs.YtbljhjfaimnieaaGreat.nums Go.Proofs.YtbljhjfaimnieaaGreat.asn Go.Proofs.YtbljhjfaimnieaaGreat.pth Go.Proofs.YtbljhjfaimnieaaGreat.octet Go.Proofs.YtbljhjfaimnieaaGreat.attr
set_option linter.unusedVariables false
set_option linter.unusedSimpArgs false
noncomputable instance : DecidableEq Atr := fun a b => Classical.propDecidable _
section
variable {α β : Type} [DecidableEq β] (key : α → β)
theorem insG_set {x : α} : ∀ {gs : List (List α)} {i : Nat} (hi : i < gs.length), hk key gs[i] = some (key x) → (∀ j (hj : j < gs.length), j < i → hk key gs[j] ≠ some (key x)) → insG key x gs = gs.set i (gs[i] ++ [x])
  | [], i, hi, _, _ => by simp at hi
  | g :: gs, 0, hi, h, _ => by
    unfold insG
    rw [if_pos (by simpa using h)]
    rfl
  | g :: gs, i + 1, hi, h, hn => by
    unfold insG
    rw [if_neg (by have := hn 0 (by simp) (by omega); simpa using this), insG_set (i := i) (by simpa using hi) (by simpa using h) fun j hj hlt => by have := hn (j + 1) (by simpa using hj) (by omega); simpa using this]
    rfl
end
theorem range_bel {w w' : World} {b o : Nat} {cs : List Value} (h : w.rangeAt b o cs) (hb : Below w.heap.size w w') (hl : b < w.heap.size) : w'.rangeAt b o cs := fun j v hv => (hb.cell (p := ⟨b, o + j, none⟩) hl).trans (h j v hv)
/-- groups since world w1: what their elements point at is elder -/
structure Gps (w1 wr : World) (A : Option Addr) (n c : Nat) (vs : List Value) (gs : List (List To)) : Prop where
  acc : Acc w1 27 1 wr A n c vs
  len : gs.length = n
  row : ∀ (i : Nat) (g : List To), gs[i]? = some g → ∃ B d es, vs[i]? = some (.slice B g.length d) ∧ foot.Own wr 61 11 B g.length d es ∧ rAll rTo w1 (fun k => k < w1.heap.size) es g ∧ (∀ k, sf B k → w1.heap.size ≤ k) ∧ (∀ k, sf B k → ¬ sf A k)
  apart : ∀ (i j : Nat) (B : Option Addr) (m d : Nat) (B' : Option Addr) (m' d' : Nat), i ≠ j → vs[i]? = some (.slice B m d) → vs[j]? = some (.slice B' m' d') → ∀ k, sf B k → ¬ sf B' k
section
variable {w1 wr w2 : World} {A A' : Option Addr} {n c c' : Nat} {vs : List Value} {gs : List (List To)}
theorem Gps.vlen (h : Gps w1 wr A n c vs gs) : vs.length = n := by have := h.acc.own.1; omega
theorem Gps.go (h : Gps w1 wr A n c vs gs) (hb : Below wr.heap.size wr w2) : Gps w1 w2 A n c vs gs :=
  ⟨h.acc.go hb, h.len, fun i g hg => by
    obtain ⟨B, d, es, h1, h2, h3⟩ := h.row i g hg
    exact ⟨B, d, es, h1, h2.bel hb, h3⟩, h.apart⟩
theorem Gps.nil (w : World) : Gps w w none 0 0 [] [] := ⟨⟨Own.none_ _ _ _, Below.refl _ _, fun x hx => absurd hx (sf_none x)⟩, rfl, fun i g hg => by simp at hg, fun i j B m d B' m' d' _ hi => by simp at hi⟩
/-- each slice of the row is a group's -/
theorem Gps.at_ (h : Gps w1 wr A n c vs gs) {i : Nat} {B : Option Addr} {m d : Nat} (hi : vs[i]? = some (.slice B m d)) : ∃ g es, gs[i]? = some g ∧ m = g.length ∧ foot.Own wr 61 11 B m d es ∧ rAll rTo w1 (fun k => k < w1.heap.size) es g ∧ (∀ k, sf B k → w1.heap.size ≤ k) ∧ (∀ k, sf B k → ¬ sf A k) := by
  have hl : i < vs.length := (List.getElem?_eq_some_iff.1 hi).1
  rw [h.vlen, ← h.len] at hl
  obtain ⟨B', d', es, h1, h2, h3, h4, h5⟩ := h.row i _ (List.getElem?_eq_getElem hl)
  rw [hi] at h1
  cases h1
  exact ⟨_, es, List.getElem?_eq_getElem hl, rfl, h2, h3, h4, h5⟩
/-- a group behind all -/
theorem Gps.more (h : Gps w1 wr A n c vs gs) {B : Option Addr} {d : Nat} {es : List Value} {g : List To} (hB : foot.Own wr 61 11 B g.length d es) (hes : rAll rTo w1 (fun k => k < w1.heap.size) es g) (hlo : ∀ k, sf B k → w1.heap.size ≤ k) (hap : ∀ k, sf B k → ¬ sf A k)
    (hr : ∀ (i : Nat) (B' : Option Addr) (m d' : Nat), vs[i]? = some (.slice B' m d') → ∀ k, sf B k → ¬ sf B' k) (ho : foot.Own w2 27 1 A' (n + 1) c' (vs ++ [.slice B g.length d])) (hc : Chg (sf A) wr w2) (hf : Fresh wr (sf A) (sf A')) :
    Gps w1 w2 A' (n + 1) c' (vs ++ [.slice B g.length d]) (gs ++ [g]) := by
  have hv := h.vlen
  have far : ∀ {B' : Option Addr}, (∀ k, sf B' k → k < wr.heap.size) → (∀ k, sf B' k → ¬ sf A k) → ∀ k, sf B' k → ¬ sf A' k := fun hl hn k hk hs => by
    rcases hf k hs with e | e
    · exact hn k hk e
    · have := hl k hk; omega
  refine ⟨h.acc.app ho hc hf, by rw [List.length_append, h.len]; rfl, fun i q hq => ?_, fun i j B1 m d1 B2 m' d2 hij hi hj => ?_⟩
  · rcases Nat.lt_or_ge i gs.length with hi | hi
    · rw [List.getElem?_append_left hi] at hq
      obtain ⟨B', d', es', h1, h2, h3, h4, h5⟩ := h.row i q hq
      exact ⟨B', d', es', by rw [List.getElem?_append_left (by rw [hv, ← h.len]; exact hi)]; exact h1, h2.chg hc fun k _ hk e => h5 k hk e, h3, h4, far h2.lt h5⟩
    · rw [List.getElem?_append_right hi] at hq
      have e0 : i - gs.length = 0 := by
        rcases Nat.eq_zero_or_pos (i - gs.length) with e | e
        · exact e
        · rw [List.getElem?_eq_none (by simp; omega)] at hq; cases hq
      rw [e0] at hq
      simp at hq
      subst hq
      have ei : i - vs.length = 0 := by rw [hv, ← h.len]; exact e0
      exact ⟨B, d, es, by rw [List.getElem?_append_right (by rw [hv, ← h.len]; exact hi), ei]; rfl, hB.chg hc fun k _ hk e => hap k hk e, hes, hlo, far hB.lt hap⟩
  · have one : ∀ {i : Nat} {B1 : Option Addr} {m d1 : Nat}, (vs ++ [Value.slice B g.length d])[i]? = some (.slice B1 m d1) → (vs[i]? = some (.slice B1 m d1) ∧ i < n) ∨ (B1 = B ∧ i = n) := fun {i B1 m d1} hi => by
      rcases Nat.lt_or_ge i vs.length with hl | hl
      · rw [List.getElem?_append_left hl] at hi
        exact .inl ⟨hi, by omega⟩
      · rw [List.getElem?_append_right hl] at hi
        rcases Nat.eq_zero_or_pos (i - vs.length) with e | e
        · rw [e] at hi
          simp at hi
          exact .inr ⟨hi.1.symm, by omega⟩
        · rw [List.getElem?_eq_none (by simp; omega)] at hi; cases hi
    rcases one hi with ⟨qi, li⟩ | ⟨ei, li⟩ <;> rcases one hj with ⟨qj, lj⟩ | ⟨ej, lj⟩
    · exact h.apart i j _ _ _ _ _ _ hij qi qj
    · rw [ej]; exact fun k hk hs => hr i _ _ _ qi k hs hk
    · rw [ei]; exact hr j _ _ _ qj
    · omega
/-- one more in group i -/
theorem Gps.put {ga off i : Nat} (h : Gps w1 wr (some ⟨ga, off, none⟩) n c vs gs) {B B' : Option Addr} {d d' : Nat} {es : List Value} {g : List To} {x : To} {new : List Value} (hi : vs[i]? = some (.slice B g.length d)) (hg : gs[i]? = some g)
    (ho : foot.Own w2 61 11 B' (g.length + 1) d' (es ++ new)) (hes : rAll rTo w1 (fun k => k < w1.heap.size) es g) (hx : rTo w1 (fun k => k < w1.heap.size) new x) (hlo : ∀ k, sf B k → w1.heap.size ≤ k) (hap : ∀ k, sf B k → k ≠ ga) (hc : Chg (sf B) wr w2) (hf : Fresh wr (sf B) (sf B')) :
    Gps w1 (w2.setCell ⟨ga, off + i, none⟩ (.slice B' (g.length + 1) d')) (some ⟨ga, off, none⟩) n c (vs.set i (.slice B' (g.length + 1) d')) (gs.set i (g ++ [x])) := by
  have hv := h.vlen
  have hil : i < vs.length := (List.getElem?_eq_some_iff.1 hi).1
  have hgl : ga < wr.heap.size := h.acc.own.lt ga (by rw [sf_some])
  have hgw : w1.heap.size ≤ ga := h.acc.low ga (by rw [sf_some])
  have hA : foot.Own w2 27 1 (some ⟨ga, off, none⟩) n c vs := h.acc.own.chg hc fun k _ hk e => by
    rw [sf_some] at hk
    exact hap k e hk.symm
  have hs : Chg (fun k => k = ga) w2 (w2.setCell ⟨ga, off + i, none⟩ (.slice B' (g.length + 1) d')) := (Chg.refl (fun k => k = ga) w2).put (p := ⟨ga, off + i, none⟩) (.inl rfl) _
  have hb2 : Below w1.heap.size w1 w2 := h.acc.bel.trans (hc.below hlo h.acc.bel.size)
  have hap' : ∀ k, sf B' k → k ≠ ga := fun k hk e => by
    rcases hf k hk with q | q
    · exact hap k q e
    · omega
  have hlo' : ∀ k, sf B' k → w1.heap.size ≤ k := fun k hk => by
    rcases hf k hk with q | q
    · exact hlo k q
    · have := h.acc.bel.size; omega
  have ga_of : ∀ {k}, sf (some (⟨ga, off, none⟩ : Addr)) k → k = ga := fun {k} hk => by rw [sf_some] at hk; exact hk.symm
  refine ⟨⟨hA.put i (by omega) _, hb2.trans (hs.below (fun k e => by omega) hb2.size), h.acc.low⟩, by rw [List.length_set]; exact h.len, fun j q hq => ?_, fun j l B1 m d1 B2 m' d2 hjl hj hl => ?_⟩
  · by_cases e : i = j
    · subst e
      rw [List.getElem?_set_self (by rw [h.len, ← hv]; exact hil)] at hq
      simp at hq
      subst hq
      refine ⟨B', d', es ++ new, by rw [List.getElem?_set_self hil]; simp, ?_, hes.app (rAll.single hx), hlo', fun k hk e => hap' k hk (ga_of e)⟩
      rw [List.length_append]
      exact ho.chg hs fun k _ hk e => hap' k hk e
    · rw [List.getElem?_set_ne e] at hq
      obtain ⟨B1, d1, es1, h1, h2, h3, h4, h5⟩ := h.row j q hq
      refine ⟨B1, d1, es1, by rw [List.getElem?_set_ne e]; exact h1, (h2.chg hc fun k _ hk e2 => h.apart i j _ _ _ _ _ _ e hi h1 k e2 hk).chg hs fun k _ hk e2 => h5 k hk (by rw [sf_some]; exact e2.symm), h3, h4, h5⟩
  · have one : ∀ {j : Nat} {B1 : Option Addr} {m d1 : Nat}, (vs.set i (.slice B' (g.length + 1) d'))[j]? = some (.slice B1 m d1) → (j ≠ i ∧ vs[j]? = some (.slice B1 m d1)) ∨ (j = i ∧ B1 = B') := fun {j B1 m d1} hj => by
      by_cases e : i = j
      · subst e
        rw [List.getElem?_set_self hil] at hj
        simp at hj
        exact .inr ⟨rfl, hj.1.symm⟩
      · rw [List.getElem?_set_ne e] at hj
        exact .inl ⟨fun e2 => e e2.symm, hj⟩
    have old : ∀ {j : Nat} {B1 : Option Addr} {m d1 : Nat}, j ≠ i → vs[j]? = some (.slice B1 m d1) → ∀ k, sf B1 k → ¬ sf B' k := fun {j B1 m d1} hji hj k hk hs2 => by
      rcases hf k hs2 with q | q
      · exact h.apart j i _ _ _ _ _ _ hji hj hi k hk q
      · obtain ⟨_, _, _, _, h2, _⟩ := h.at_ hj
        have := h2.lt k hk
        omega
    rcases one hj with ⟨e1, qj⟩ | ⟨e1, ej⟩ <;> rcases one hl with ⟨e2, ql⟩ | ⟨e2, el⟩
    · exact h.apart j l _ _ _ _ _ _ hjl qj ql
    · rw [el]; exact old e1 qj
    · rw [ej]; exact fun k hk hs2 => old e2 ql k hs2 hk
    · omega
/-- as a slice of slices that is read -/
theorem Gps.els (h : Gps w1 wr A n c vs gs) : Els 1 (rSl 11 rTo) wr (fun _ => True) A gs := by
  refine ⟨vs, by rw [h.len]; exact h.acc.own.rg.mono fun _ _ _ => trivial, ?_⟩
  have hb := h.acc.bel
  have key : ∀ (ws : List Value) (qs : List (List To)), ws.length = qs.length → (∀ (i : Nat) (g : List To), qs[i]? = some g → ∃ B d, ws[i]? = some (.slice B g.length d) ∧ (B = none → d = 0) ∧ g.length ≤ d ∧ d ≤ maxLen ∧ Els 11 rTo wr (fun _ => True) B g) → rAll (rSl 11 rTo) wr (fun _ => True) ws qs := by
    intro ws
    induction ws with
    | nil => intro qs hl _; obtain rfl : qs = [] := List.length_eq_zero_iff.1 hl.symm; rfl
    | cons v ws ih =>
      intro qs hl hr
      rcases qs with _ | ⟨g, qs⟩
      · simp at hl
      · obtain ⟨B, d, h1, h2⟩ := hr 0 g rfl
        simp at h1
        subst h1
        exact ⟨[_], ws, rfl, ⟨B, d, rfl, h2⟩, ih qs (by simpa using hl) fun i q hq => by have := hr (i + 1) q (by simpa using hq); simpa using this⟩
  refine key vs gs (by rw [h.vlen, h.len]) fun i g hg => ?_
  obtain ⟨B, d, es, h1, h2, h3, _⟩ := h.row i g hg
  exact ⟨B, d, h1, h2.nil, h2.cap, h2.max, es, h2.rg.mono fun _ _ _ => trivial, (h3.chg keeps_to (F := fun k => ¬ k < w1.heap.size) ⟨hb.os, hb.tape, hb.output, hb.size, fun k hk hn => hb.block k (Classical.not_not.1 hn)⟩ fun k _ h1 h2 => h2 h1).mono keeps_to fun _ _ _ => trivial⟩
end
end Go.Proofs.YtbljhjfaimnieaaGreat.pck
