/- What merge.first, common, lead, numbers, merged and Path return. Condition: at most ten ways, each of at most 4000 pieces and numbers. -/
import Derived.Test.YtafepficapdepaaJoin
import Derived.Test.YtafepficapdepaaPathLead
import Derived.Test.YtafepficapdepaaOne
import Derived.Test.YtafepficapdepaaRefSame04
namespace Go.Proofs.Ytafepficapdepaa.attr
open Go.RowKit Go.Proofs.Ytafepficapdepaa.kit Go.Proofs.Ytafepficapdepaa.mem Go.Proofs.Ytafepficapdepaa.foot Go.Proofs.Ytafepficapdepaa.nums Go.Proofs.Ytafepficapdepaa.asn Go.Proofs.Ytafepficapdepaa.pth
set_option linter.unusedVariables false
set_option linter.unusedSimpArgs false
/-- how far two lists are one -/
def cmn : List Nat → List Nat → Nat
  | x :: a, y :: b => if x = y then cmn a b + 1 else 0
  | _, _ => 0
theorem cmn_le : ∀ a b : List Nat, cmn a b ≤ a.length
  | [], _ => by simp [cmn]
  | x :: a, [] => by simp [cmn]
  | x :: a, y :: b => by
    have := cmn_le a b
    unfold cmn
    split <;> simp <;> omega
theorem cmn_at : ∀ (a b : List Nat) (i : Nat), i ≤ cmn a b → (i = cmn a b ↔ (a.length ≤ i ∨ b.length ≤ i ∨ a[i]? ≠ b[i]?))
  | [], b, i, h => by
    have : i = 0 := by simp [cmn] at h; exact h
    subst this
    simp [cmn]
  | x :: a, [], i, h => by
    have : i = 0 := by simp [cmn] at h; exact h
    subst this
    simp [cmn]
  | x :: a, y :: b, i, h => by
    unfold cmn at h ⊢
    by_cases e : x = y
    · rw [if_pos e] at h ⊢
      rcases i with _ | i
      · simp [e]
      · have := cmn_at a b i (by omega)
        simp only [List.length_cons, List.getElem?_cons_succ, Nat.add_le_add_iff_right]
        rw [← this]
        omega
    · rw [if_neg e] at h ⊢
      have : i = 0 := by omega
      subst this
      simp [e]
set_option maxRecDepth 100000 in
set_option maxHeartbeats 2000000 in
theorem common_any (A C : Option Addr) (c d : Nat) (a b : List Nat) (G H : Foot) (w : World) (hl : a.length ≤ 1000000) (hr : b.length ≤ 1000000) (h1 : Sn w G A c a) (h2 : Sn w H C d b) :
    Calls Try.prog 146 #[.slice A a.length c, .slice C b.length d] w fun e w' => e = .returned (.slice A (cmn a b) c) ∧ Draws w w' := by
  have H1 := Lib.hid h1
  have H2 := Lib.hid h2
  have HAt := Lib.hid (cmn_at a b)
  have hcm := cmn_le a b
  have hcut := cut_nums A c a.length (cmn a b) h1.nil h1.cap h1.max hcm
  generalize cmn a b = k at *
  clear h1 h2
  go_enter Try.func146, Try.ntmps146
  go_wp2_with fail
  go_loopw [8] (fun v8 wr => ∃ i : Nat, i ≤ k ∧ v8 = .int .i64 i ∧ Draws w wr) (fun v8 _ => a.length - (intOf v8).toNat)
  case atStart => exact ⟨0, by omega, rfl, Draws.refl _⟩
  case round =>
    obtain ⟨i, hi, rfl, hb⟩ := hrel
    have HB := Lib.hid hb
    clear hb
    have HA := Lib.hid (HAt.out i hi)
    by_cases hlt : i < a.length
    · have hi1 : (i : Int) < (a.length : Int) := by omega
      obtain ⟨p1, o1, rfl, l1, c1⟩ := H1.out.at_ hlt
      have q1 := (HB.out.cell ⟨p1, o1 + i, none⟩).trans c1
      by_cases hlt2 : i < b.length
      · obtain ⟨p2, o2, rfl, l2, c2⟩ := H2.out.at_ hlt2
        have q2 := (HB.out.cell ⟨p2, o2 + i, none⟩).trans c2
        have hi2 : (i : Int) < (b.length : Int) := by omega
        have d1 : decide ((b.length : Int) ≤ (i : Int)) = false := by rw [decide_eq_false_iff_not]; omega
        have HE : Hid (i = k ↔ a[i] ≠ b[i]) := by
          rw [Hid, HA.out, List.getElem?_eq_getElem hlt, List.getElem?_eq_getElem hlt2]
          simp
          omega
        clear HA HAt c1 c2 l1 l2
        generalize a[i] = x at *
        generalize b[i] = y at *
        by_cases hxy : x = y
        · subst hxy
          have hne : i ≠ k := fun e => (HE.out.1 e) rfl
          have d2 : ((x : Int) != (x : Int)) = false := by simp
          have d3 : ¬ b.length ≤ i := by omega
          go_wp2_with fail
          go_quiet (fail)
          go_wp2_with fail
          go_roundw
          case rel => exact ⟨i + 1, by omega, by go_num, HB.out.drewN _⟩
          case measure => simp [intOf]; omega
        · obtain rfl : i = k := HE.out.2 hxy
          have d2 : ((x : Int) == (y : Int)) = false := by rw [beq_eq_false_iff_ne]; omega
          have d4 : ((x : Int) != (y : Int)) = true := by simp; omega
          have d3 : ¬ b.length ≤ i := by omega
          go_wp2_with fail
          go_quiet (fail)
          go_wp2_with fail
          go_ret
          exact ⟨rfl, HB.out.drewN _⟩
      · obtain rfl : i = k := HA.out.2 (.inr (.inl (by omega)))
        have d3 : b.length ≤ i := by omega
        clear HA HAt
        go_wp2_with fail
        go_quiet (fail)
        go_wp2_with fail
        go_ret
        exact ⟨rfl, HB.out.drewN _⟩
    · obtain rfl : i = k := HA.out.2 (.inl (by omega))
      have HIe : Hid (i = a.length) := by rw [Hid]; omega
      clear HA HAt
      go_wp2_with fail
      go_ret
      exact ⟨by rw [HIe.out]; rfl, HB.out⟩
theorem first_any (A : Option Addr) (c : Nat) (l : List Nat) (n : Nat) (G : Foot) (w : World) (hn : n ≤ 1000000) (hl : l.length ≤ 1000000) (h1 : Sn w G A c l) :
    Calls Try.prog 105 #[.slice A l.length c, .int .i64 n] w fun e w' => e = .returned (.slice A (l.take n).length c) ∧ w = w' := by
  have hcut := cut_nums A c l.length (min n l.length) h1.nil h1.cap h1.max (Nat.min_le_right _ _)
  have hm : min (l.length : Int) (n : Int) = ((min n l.length : Nat) : Int) := by omega
  have HE : Hid ((l.take n).length = min n l.length) := List.length_take
  generalize min n l.length = k at *
  clear h1
  go_enter Try.func105, Try.ntmps105
  go_wp2_with fail
  go_ret
  exact ⟨by rw [HE.out]; rfl, rfl⟩
/-- with what all begin -/
def leadF (o : List Nat) (r : Rt) : List Nat := o.take (cmn o (leadP r.att.path))
def leadR : List Rt → List Nat
  | [] => []
  | r :: l => l.foldl leadF (leadP r.att.path)
theorem leadR_one (r : Rt) : leadR [r] = leadP r.att.path := rfl
theorem leadR_next {l : List Rt} {i : Nat} (h : i < l.length) (h0 : 0 < i) : leadR (l.take (i + 1)) = leadF (leadR (l.take i)) l[i] := by
  rw [List.take_succ_eq_append_getElem h]
  rcases l with _ | ⟨r, l⟩
  · simp at h
  · obtain ⟨j, rfl⟩ : ∃ j, i = j + 1 := ⟨i - 1, by omega⟩
    rw [List.take_succ_cons]
    show (((l.take j) ++ [(r :: l)[j + 1]]).foldl leadF _) = _
    rw [List.foldl_append]
    rfl
/-- the path of a way, of its cells -/
theorem rt_at {w : World} {G : Foot} {cs : List Value} {r : Rt} (h : rRt w G cs r) : ∃ Ap cp, cs[4]? = some (.slice Ap r.att.path.length cp) ∧ cs.length = 16 ∧ Els 2 rSeg w G Ap r.att.path := by
  obtain ⟨Ap, cp, Ac, cc, rfl, _, hm⟩ := h
  exact ⟨Ap, cp, rfl, rfl, hm.sp.els⟩
set_option maxRecDepth 100000 in
set_option maxHeartbeats 2000000 in
theorem lead_any (A : Option Addr) (c : Nat) (l : List Rt) (G : Foot) (w : World) (hl : l.length ≤ 10) (hsz : ∀ r ∈ l, nsz r.att.path ≤ 4000) (hs : Els 16 rRt w G A l) :
    Calls Try.prog 100 #[.slice A l.length c] w (RetNums (leadR l) w) := by
  have HS := Lib.hid hs
  have HSz := Lib.hid hsz
  have HRt : Hid ((Try.prog.info? 80).map (·.size) = some 16) := info_rt
  have HQ : Hid (∀ (xs : List Nat) (Ao : Option Addr) (co : Nat) (wr : World), xs = leadR l → Acc w 22 1 wr Ao xs.length co (uv xs) → RetNums (leadR l) w (.returned (.slice Ao xs.length co)) wr) := fun xs Ao co wr e h => by
    rw [← e]
    exact ret_acc h
  obtain ⟨Q, hQ⟩ : ∃ Q, Q = RetNums (leadR l) w := ⟨_, rfl⟩
  rw [← hQ] at HQ ⊢
  clear hs hsz hQ
  go_enter Try.func100, Try.ntmps100
  go_wp2_with fail
  go_loopw [3, 9] (fun v3 v9 wr => ∃ (i : Nat) (xs : List Nat) (Ao : Option Addr) (co : Nat), i ≤ l.length ∧ v9 = .int .i64 i ∧ xs = leadR (l.take i) ∧ xs.length ≤ 4000 ∧ v3 = .slice Ao xs.length co ∧ Acc w 22 1 wr Ao xs.length co (uv xs)) (fun _ v9 _ => l.length - (intOf v9).toNat)
  case atStart => exact ⟨0, [], none, 0, by omega, rfl, rfl, by simp, rfl, ⟨foot.Own.none_ _ _ _, Below.refl _ _, fun k h => absurd h (sf_none k)⟩⟩
  case round =>
    obtain ⟨i, xs, Ao, co, hi, rfl, hxs, hxl, rfl, hacc⟩ := hrel
    have HA := Lib.hid hacc
    have HX := Lib.hid hxs
    clear hacc hxs
    by_cases hlt : i < l.length
    · obtain ⟨b, off, cs, rfl, _, hb, hr, hc⟩ := HS.out.at_ keeps_rt hlt
      obtain ⟨A2, c2, hc4, hcl, hels⟩ := rt_at hr
      have hp := HSz.out _ (List.getElem_mem hlt)
      have HRg : Hid (wr.rangeAt b (off + i * 16) cs) := fun j u hu => (HA.out.bel.cell (p := ⟨b, off + i * 16 + j, none⟩) hb).trans (hc j u hu)
      have hi' : (i : Int) < (l.length : Int) := by omega
      have HCl := Lib.hid hcl
      have HOn : Hid (cs.toArray.toList.all (·.oneCell') = true) := by rw [Hid, List.all_eq_true]; exact fun u hu => keeps_rt.one hr u hu
      have HC4 : Hid (cs.toArray[4]? = some (.slice A2 l[i].att.path.length c2)) := by rw [Hid, List.getElem?_toArray]; exact hc4
      have HLd : Hid (∀ wa, Below wr.heap.size wr wa → Calls Try.prog 145 #[.slice A2 l[i].att.path.length c2] wa (RetNums (leadP l[i].att.path) wa)) := fun wa hb => Lead_any A2 c2 l[i].att.path G wa (by omega) (hels.bel keeps_seg (HA.out.bel.trans (hb.mono HA.out.bel.size)))
      have hly : (leadP l[i].att.path).length ≤ 4000 := by
        have h1 : ∀ p : List Sg, (leadP p).length ≤ nsz p := by
          intro p
          induction p with
          | nil => simp [leadP]
          | cons s p ih =>
            show (if s.1 = 2 then s.2 ++ leadP p else []).length ≤ _
            simp only [nsz, List.map_cons, List.sum_cons] at ih ⊢
            split <;> simp <;> omega
        have := h1 l[i].att.path
        omega
      have HN0 : Hid (i = 0 → leadR (l.take (i + 1)) = leadP l[i].att.path) := fun e => by
        subst e
        rw [List.take_succ_eq_append_getElem hlt]
        rfl
      have HN1 : Hid (0 < i → leadR (l.take (i + 1)) = xs.take (cmn xs (leadP l[i].att.path))) := fun e => by rw [leadR_next hlt e, HX.out]; rfl
      clear hc hc4 hr hels hb hcl hp
      generalize leadP l[i].att.path = ys at *
      generalize l[i].att.path.length = np at *
      go_upto_region 5 with (first
        | (refine wpList_load_mid rfl 80 (.tmp 12) rfl b (off + i * 16) (by rfl) cs _ HRg.out Try.underlying80 (by rfl) (by rw [HCl.out]; exact HRt.out) ?_)
        | (refine wpList_storeBk rfl 80 (.tmp 5) (.tmp 13) rfl wr.heap.size (by rfl) cs.toArray (by rfl) 80 zeroR.toArray (Bk.new wr _ _) (by rw [List.size_toArray, HCl.out]; exact HRt.out) (by rw [List.size_toArray, List.size_toArray, HCl.out]; rfl) HOn.out ?_; intro wa h3 h4 h5; have HBk := Lib.hid h3; have HBa : Hid (Below wr.heap.size wr wa) := ((Below.refl wr.heap.size wr).alloc (Nat.le_refl _) _).trans (h4.below (fun k e => Nat.le_of_eq e.symm) (by simp)); clear h3 h4 h5))
      have q4 : wa.cell? ⟨wr.heap.size, 4, none⟩ = some (.slice A2 np c2) := by rw [HBk.out.cell]; exact HC4.out
      have HAa := Lib.hid (HA.out.go HBa.out)
      have HLa := Lib.hid (HLd.out wa HBa.out)
      clear HLd
      rcases Nat.eq_zero_or_pos i with h0 | h0
      · subst h0
        have HNe := Lib.hid (HN0.out rfl)
        go_wp2_with (go_at_call 145; refine HLa.out.mono ?_; rintro e w2 ⟨A3, c3, rfl, ho3, hlo3, hb3⟩; have HA3 : Hid (Acc w 22 1 w2 A3 ys.length c3 (uv ys)) := ⟨ho3, HAa.out.bel.trans (hb3.mono HAa.out.bel.size), fun k hk => Nat.le_trans HAa.out.bel.size (hlo3 k hk)⟩; clear ho3 hlo3 hb3)
        go_roundw
        case rel => exact ⟨1, ys, A3, c3, by omega, by go_num, HNe.out.symm, hly, rfl, HA3.out⟩
        case measure => simp [intOf]; omega
      · have d0 : ((i : Int) == 0) = false := by rw [beq_eq_false_iff_ne]; omega
        have HNe := Lib.hid (HN1.out h0)
        have hcl := cmn_le xs ys
        have HCm : Hid (∀ (w2 w3 : World) (A3 : Option Addr) (c3 : Nat), Acc w 22 1 w2 Ao xs.length co (uv xs) → Sn w2 (sf A3) A3 c3 ys → Calls Try.prog 146 #[.slice Ao xs.length co, .slice A3 ys.length c3] w2 fun e w' => e = .returned (.slice Ao (cmn xs ys) co) ∧ Draws w2 w') := fun w2 w3 A3 c3 h1 h2 => common_any Ao A3 co c3 xs ys _ _ w2 (by omega) (by omega) (Sn.own h1.own) h2
        have HTk : Hid (∀ w2, Acc w 22 1 w2 Ao xs.length co (uv xs) → ∃ zs, zs = xs.take (cmn xs ys) ∧ zs.length = cmn xs ys ∧ zs.length ≤ 4000 ∧ Acc w 22 1 w2 Ao (cmn xs ys) co (uv zs)) := fun w2 h => by
          refine ⟨_, rfl, by rw [List.length_take]; omega, by rw [List.length_take]; omega, ?_, h.bel, h.low⟩
          have := h.own.take hcl
          rw [Nat.mul_one, ← uv_take] at this
          exact this
        generalize cmn xs ys = k at *
        go_wp2_with (first
          | (go_at_call 145; refine HLa.out.mono ?_; rintro e w2 ⟨A3, c3, rfl, ho3, hlo3, hb3⟩; have HA2 := Lib.hid (HAa.out.go hb3); have HCx := Lib.hid (HCm.out w2 w2 A3 c3 HA2.out (Sn.own ho3)); clear ho3 hlo3 hb3)
          | (go_at_call 146; refine HCx.out.mono ?_; rintro e w3 ⟨rfl, hd⟩; have HA3 := Lib.hid (HA2.out.go hd.bel); clear hd))
        obtain ⟨zs, hz1, hz2, hz3, hz4⟩ := HTk.out w3 HA3.out
        go_roundw
        case rel => exact ⟨i + 1, zs, Ao, co, by omega, by go_num, by rw [HNe.out, hz1], hz3, by rw [hz2], by rw [hz2]; exact hz4⟩
        case measure => simp [intOf]; omega
    · obtain rfl : i = l.length := by omega
      rw [List.take_length] at HX
      have HE := Lib.hid (HQ.out xs Ao co wr HX.out HA.out)
      go_wp2_with fail
      exact HE.out
/-- all numbers of all -/
def numsF (o : List Nat) (r : Rt) : List Nat := mg true true true o (setN (allP r.att.path))
def numsR (l : List Rt) : List Nat := l.foldl numsF []
theorem numsR_next {l : List Rt} {i : Nat} (h : i < l.length) : numsR (l.take (i + 1)) = numsF (numsR (l.take i)) l[i] := by
  unfold numsR
  rw [List.take_succ_eq_append_getElem h, List.foldl_append]
  rfl
set_option maxRecDepth 100000 in
set_option maxHeartbeats 2000000 in
theorem numbers_any (A : Option Addr) (c : Nat) (l : List Rt) (G : Foot) (w : World) (hl : l.length ≤ 10) (hsz : ∀ r ∈ l, nsz r.att.path ≤ 4000) (hs : Els 16 rRt w G A l) :
    Calls Try.prog 102 #[.slice A l.length c] w fun e w' => RetNums (numsR l) w e w' ∧ (numsR l).length ≤ 40000 := by
  have HS := Lib.hid hs
  have HSz := Lib.hid hsz
  have HRt : Hid ((Try.prog.info? 80).map (·.size) = some 16) := info_rt
  have HQ : Hid (∀ (xs : List Nat) (Ao : Option Addr) (co : Nat) (wr : World), xs = numsR l → xs.length ≤ 40000 → Acc w 22 1 wr Ao xs.length co (uv xs) → RetNums (numsR l) w (.returned (.slice Ao xs.length co)) wr ∧ (numsR l).length ≤ 40000) := fun xs Ao co wr e hx h => by
    rw [← e]
    exact ⟨ret_acc h, hx⟩
  obtain ⟨Q, hQ⟩ : ∃ Q : Ending → World → Prop, Q = fun e w' => RetNums (numsR l) w e w' ∧ (numsR l).length ≤ 40000 := ⟨_, rfl⟩
  have HQ : Hid (∀ (xs : List Nat) (Ao : Option Addr) (co : Nat) (wr : World), xs = numsR l → xs.length ≤ 40000 → Acc w 22 1 wr Ao xs.length co (uv xs) → Q (.returned (.slice Ao xs.length co)) wr) := fun xs Ao co wr e hx h => by
    rw [hQ]
    exact HQ.out xs Ao co wr e hx h
  rw [← hQ]
  clear hs hsz hQ
  go_enter Try.func102, Try.ntmps102
  go_wp2_with fail
  go_loopw [3, 8] (fun v3 v8 wr => ∃ (i : Nat) (xs : List Nat) (Ao : Option Addr) (co : Nat), i ≤ l.length ∧ v8 = .int .i64 i ∧ xs = numsR (l.take i) ∧ xs.length ≤ 4000 * i ∧ v3 = .slice Ao xs.length co ∧ Acc w 22 1 wr Ao xs.length co (uv xs)) (fun _ v8 _ => l.length - (intOf v8).toNat)
  case atStart => exact ⟨0, [], none, 0, by omega, rfl, rfl, by simp, rfl, ⟨foot.Own.none_ _ _ _, Below.refl _ _, fun k h => absurd h (sf_none k)⟩⟩
  case round =>
    obtain ⟨i, xs, Ao, co, hi, rfl, hxs, hxl, rfl, hacc⟩ := hrel
    have HA := Lib.hid hacc
    have HX := Lib.hid hxs
    clear hacc hxs
    by_cases hlt : i < l.length
    · obtain ⟨b, off, cs, rfl, _, hb, hr, hc⟩ := HS.out.at_ keeps_rt hlt
      obtain ⟨A2, c2, hc4, hcl, hels⟩ := rt_at hr
      have hp := HSz.out _ (List.getElem_mem hlt)
      have HRg : Hid (wr.rangeAt b (off + i * 16) cs) := fun j u hu => (HA.out.bel.cell (p := ⟨b, off + i * 16 + j, none⟩) hb).trans (hc j u hu)
      have hi' : (i : Int) < (l.length : Int) := by omega
      have HCl := Lib.hid hcl
      have HOn : Hid (cs.toArray.toList.all (·.oneCell') = true) := by rw [Hid, List.all_eq_true]; exact fun u hu => keeps_rt.one hr u hu
      have HC4 : Hid (cs.toArray[4]? = some (.slice A2 l[i].att.path.length c2)) := by rw [Hid, List.getElem?_toArray]; exact hc4
      have HLd : Hid (∀ wa, Below wr.heap.size wr wa → Calls Try.prog 149 #[.slice A2 l[i].att.path.length c2] wa (RetNums (setN (allP l[i].att.path)) wa)) := fun wa hb => All_any A2 c2 l[i].att.path G wa (by omega) (hels.bel keeps_seg (HA.out.bel.trans (hb.mono HA.out.bel.size)))
      have hly : (setN (allP l[i].att.path)).length ≤ 4000 := by
        have h1 := setN_len (allP l[i].att.path)
        have h2 := allP_sz l[i].att.path
        omega
      have HNe : Hid (numsR (l.take (i + 1)) = mg true true true xs (setN (allP l[i].att.path))) := by rw [Hid, numsR_next hlt, HX.out]; rfl
      clear hc hc4 hr hels hb hcl hp
      generalize setN (allP l[i].att.path) = ys at *
      generalize l[i].att.path.length = np at *
      go_upto_region 5 with (first
        | (refine wpList_load_mid rfl 80 (.tmp 10) rfl b (off + i * 16) (by rfl) cs _ HRg.out Try.underlying80 (by rfl) (by rw [HCl.out]; exact HRt.out) ?_)
        | (refine wpList_storeBk rfl 80 (.tmp 5) (.tmp 11) rfl wr.heap.size (by rfl) cs.toArray (by rfl) 80 zeroR.toArray (Bk.new wr _ _) (by rw [List.size_toArray, HCl.out]; exact HRt.out) (by rw [List.size_toArray, List.size_toArray, HCl.out]; rfl) HOn.out ?_; intro wa h3 h4 h5; have HBk := Lib.hid h3; have HBa : Hid (Below wr.heap.size wr wa) := ((Below.refl wr.heap.size wr).alloc (Nat.le_refl _) _).trans (h4.below (fun k e => Nat.le_of_eq e.symm) (by simp)); clear h3 h4 h5))
      have q4 : wa.cell? ⟨wr.heap.size, 4, none⟩ = some (.slice A2 np c2) := by rw [HBk.out.cell]; exact HC4.out
      have HAa := Lib.hid (HA.out.go HBa.out)
      have HLa := Lib.hid (HLd.out wa HBa.out)
      have hml := mg_len true true true _ xs ys (Nat.le_refl _)
      have HUn : Hid (∀ (w2 : World) (A3 : Option Addr) (c3 : Nat), Acc w 22 1 w2 Ao xs.length co (uv xs) → Sn w2 (sf A3) A3 c3 ys → Calls Try.prog 148 #[.slice Ao xs.length co, .slice A3 ys.length c3] w2 (RetNums (mg true true true xs ys) w2)) := fun w2 A3 c3 h1 h2 => Union_any Ao A3 co c3 xs ys _ _ w2 (by omega) (Sn.own h1.own) h2
      generalize mg true true true xs ys = zs at *
      clear HLd
      go_wp2_with (first
        | (go_at_call 149; refine HLa.out.mono ?_; rintro e w2 ⟨A3, c3, rfl, ho3, hlo3, hb3⟩; have HA2 := Lib.hid (HAa.out.go hb3); have HCx := Lib.hid (HUn.out w2 A3 c3 HA2.out (Sn.own ho3)); clear ho3 hlo3 hb3)
        | (go_at_call 148; refine HCx.out.mono ?_; rintro e w3 ⟨A4, c4, rfl, ho4, hlo4, hb4⟩; have HA3 : Hid (Acc w 22 1 w3 A4 zs.length c4 (uv zs)) := ⟨ho4, HA2.out.bel.trans (hb4.mono HA2.out.bel.size), fun k hk => Nat.le_trans HA2.out.bel.size (hlo4 k hk)⟩; clear ho4 hlo4 hb4))
      go_roundw
      case rel => exact ⟨i + 1, zs, A4, c4, by omega, by go_num, HNe.out.symm, by omega, rfl, HA3.out⟩
      case measure => simp [intOf]; omega
    · obtain rfl : i = l.length := by omega
      rw [List.take_length] at HX
      have HE := Lib.hid (HQ.out xs Ao co wr HX.out (by omega) HA.out)
      go_wp2_with fail
      exact HE.out
/-- the path of all -/
def mergedR (l : List Rt) : List Sg := joinS (leadR l) ((mg true false false (numsR l) (setN (leadR l))).take 1000)
theorem leadP_mem : ∀ (p : List Sg), ∀ x ∈ leadP p, ∃ s ∈ p, x ∈ s.2
  | [], x, h => by simp [leadP] at h
  | s :: p, x, h => by
    have h' : x ∈ (if s.1 = 2 then s.2 ++ leadP p else []) := h
    split at h'
    · rcases List.mem_append.1 h' with h' | h'
      · exact ⟨s, by simp, h'⟩
      · obtain ⟨t, h1, h2⟩ := leadP_mem p x h'
        exact ⟨t, by simp [h1], h2⟩
    · cases h'
def W32S (p : List Sg) : Prop := ∀ s ∈ p, W32 s.2
theorem w32_els {w : World} {G : Foot} : ∀ {l : List Sg} {vs : List Value}, rAll rSeg w G vs l → W32S l
  | [], _, _, s, hs => by cases hs
  | x :: l, _, ⟨a, t, e, h1, h2⟩, s, hs => by
    rcases List.mem_cons.1 hs with rfl | hs
    · obtain ⟨_, _, _, _, _, _, _, _, h⟩ := seg_at h1
      exact h
    · exact w32_els h2 s hs
theorem leadF_fold : ∀ (l : List Rt) (o : List Nat), ∀ x ∈ l.foldl leadF o, x ∈ o
  | [], o, x, h => h
  | r :: l, o, x, h => List.mem_of_mem_take (leadF_fold l _ x h)
theorem leadR_w32 {l : List Rt} (h : ∀ r ∈ l, W32S r.att.path) : W32 (leadR l) := by
  rcases l with _ | ⟨r, l⟩
  · intro n hn; cases hn
  · intro n hn
    obtain ⟨s, h1, h2⟩ := leadP_mem _ n (leadF_fold l _ n hn)
    exact h r (by simp) s h1 n h2
theorem leadR_len {l : List Rt} (h : ∀ r ∈ l, nsz r.att.path ≤ 4000) : (leadR l).length ≤ 4000 := by
  rcases l with _ | ⟨r, l⟩
  · simp [leadR]
  · have h1 : ∀ (l : List Rt) (o : List Nat), (l.foldl leadF o).length ≤ o.length := by
      intro l
      induction l with
      | nil => intro o; exact Nat.le_refl _
      | cons r l ih => intro o; exact Nat.le_trans (ih _) (by unfold leadF; rw [List.length_take]; omega)
    have h2 : ∀ p : List Sg, (leadP p).length ≤ nsz p := by
      intro p
      induction p with
      | nil => simp [leadP]
      | cons s p ih =>
        show (if s.1 = 2 then s.2 ++ leadP p else []).length ≤ _
        simp only [nsz, List.map_cons, List.sum_cons] at ih ⊢
        split <;> simp <;> omega
    exact Nat.le_trans (h1 l _) (Nat.le_trans (h2 _) (h r (by simp)))
theorem allP_w32 {p : List Sg} (h : W32S p) : W32 (allP p) := fun n hn => by
  obtain ⟨s, h1, h2⟩ := List.mem_flatMap.1 hn
  exact h s h1 n h2
theorem numsF_fold : ∀ (l : List Rt) (o : List Nat), W32 o → (∀ r ∈ l, W32S r.att.path) → W32 (l.foldl numsF o)
  | [], o, h, _ => h
  | r :: l, o, h, hr => numsF_fold l _ (fun n hn => by
      rcases mg_sub true true true _ _ _ (Nat.le_refl _) n hn with h1 | h1
      · exact h n h1
      · exact setN_w32 (allP_w32 (hr r (by simp))) n h1) fun q hq => hr q (by simp [hq])
theorem numsR_w32 {l : List Rt} (h : ∀ r ∈ l, W32S r.att.path) : W32 (numsR l) := numsF_fold l [] (fun n hn => by cases hn) h
theorem rts_w32 {w : World} {G : Foot} : ∀ {l : List Rt} {vs : List Value}, rAll rRt w G vs l → ∀ r ∈ l, W32S r.att.path
  | [], _, _, s, hs => by cases hs
  | x :: l, _, ⟨a, t, e, h1, h2⟩, s, hs => by
    rcases List.mem_cons.1 hs with rfl | hs
    · obtain ⟨_, _, _, _, _, _, hm⟩ := h1
      obtain ⟨vs, _, h3⟩ := hm.sp.els
      exact w32_els h3
    · exact rts_w32 h2 s hs
set_option maxRecDepth 100000 in
set_option maxHeartbeats 2000000 in
theorem merged_any (A : Option Addr) (c : Nat) (l : List Rt) (G : Foot) (w : World) (hl : l.length ≤ 10) (hsz : ∀ r ∈ l, nsz r.att.path ≤ 4000) (hs : Els 16 rRt w G A l) :
    Calls Try.prog 62 #[.bool true, .slice A l.length c] w (RetP (mergedR l) w) := by
  have hw : ∀ r ∈ l, W32S r.att.path := by
    obtain ⟨vs, _, h⟩ := hs
    exact rts_w32 h
  have HLd := Lib.hid (lead_any A c l G w hl hsz hs)
  have HNu : Hid (∀ w', Below w.heap.size w w' → Calls Try.prog 102 #[.slice A l.length c] w' fun e w2 => RetNums (numsR l) w' e w2 ∧ (numsR l).length ≤ 40000) := fun w' hb => numbers_any A c l G w' hl hsz (hs.bel keeps_rt hb)
  have hll := leadR_len hsz
  have HW1 := Lib.hid (leadR_w32 hw)
  have HW2 := Lib.hid (numsR_w32 hw)
  have hsl := setN_len (leadR l)
  have HW3 : Hid (∀ ns : List Nat, W32 ns → W32 ((mg true false false ns (setN (leadR l))).take 1000)) := fun ns h => W32.take (fun n hn => by
    rcases mg_sub true false false _ _ _ (Nat.le_refl _) n hn with h1 | h1
    · exact h n h1
    · exact setN_w32 HW1.out n h1) 1000
  have HF : Hid (∀ e w' w2, RetP (mergedR l) w2 e w' → ∃ A n c, e = .returned (.slice A n c)) := fun e w' w2 => by
    rintro ⟨A, c, vs, rfl, _⟩
    exact ⟨A, _, c, rfl⟩
  obtain ⟨Q, hQ⟩ : ∃ Q, Q = RetP (mergedR l) w := ⟨_, rfl⟩
  have HQ : Hid (∀ e w' w2, Below w.heap.size w w2 → RetP (mergedR l) w2 e w' → Q e w') := fun e w' w2 hb h => by
    rw [hQ]
    obtain ⟨A, c, vs, rfl, h1⟩ := h
    exact ⟨A, c, vs, rfl, (h1.elder hb).wide keeps_seg fun k _ hk => Nat.le_trans hb.size hk⟩
  rw [← hQ]
  clear hQ hs hsz hw
  have HR : Hid (mergedR l = joinS (leadR l) ((mg true false false (numsR l) (setN (leadR l))).take 1000)) := rfl
  generalize mergedR l = mr at *
  generalize leadR l = ld at *
  generalize numsR l = ns at *
  have hml := mg_len true false false _ ns (setN ld) (Nat.le_refl _)
  go_enter Try.func62, Try.ntmps62
  go_upto_region 4 with (go_at_call 100; refine HLd.out.mono ?_; rintro e w1 ⟨A1, c1, rfl, ho1, hlo1, hb1⟩; have HO1 := Lib.hid ho1; have HB1 := Lib.hid hb1; clear ho1 hlo1 hb1)
  have HNx := Lib.hid (HNu.out w1 HB1.out)
  have HSe : Hid (∀ w', foot.Own w' 22 1 A1 ld.length c1 (uv ld) → Calls Try.prog 103 #[.slice A1 ld.length c1] w' fun e w2 => RetNums (setN ld) w' e w2) := fun w' h => by
    refine (Set_any A1 c1 ld _ w' (by omega) h.nil h.cap h.max h.rg).mono ?_
    rintro e w2 ⟨t, ht, _, hr⟩
    obtain rfl := ht.eq (setN_ok ld)
    exact hr
  go_upto_region 5 with (first
    | (go_at_call 102; refine HNx.out.mono ?_; rintro e w2 ⟨⟨A2, c2, rfl, ho2, hlo2, hb2⟩, hn2⟩; have HN2 := Lib.hid hn2; have HO2 := Lib.hid ho2; have HB2 := Lib.hid (HB1.out.trans (hb2.mono HB1.out.size)); have HO12 := Lib.hid (HO1.out.bel hb2); have HSx := Lib.hid (HSe.out w2 HO12.out); clear ho2 hlo2 hb2 hn2)
    | (go_at_call 103; refine HSx.out.mono ?_; rintro e w3 ⟨A3, c3, rfl, ho3, hlo3, hb3⟩; have HO3 := Lib.hid ho3; have HB3 := Lib.hid (HB2.out.trans (hb3.mono HB2.out.size)); have HO13 := Lib.hid (HO12.out.bel hb3); have HMi := Lib.hid (Minus_any A2 A3 c2 c3 ns (setN ld) _ _ w3 (by have := HN2.out; omega) (Sn.own (HO2.out.bel hb3)) (Sn.own ho3)); clear ho3 hlo3 hb3)
    | (go_at_call 101; refine HMi.out.mono ?_; rintro e w4 ⟨A4, c4, rfl, ho4, hlo4, hb4⟩; have HO4 := Lib.hid ho4; have HB4 := Lib.hid (HB3.out.trans (hb4.mono HB3.out.size)); have HO14 := Lib.hid (HO13.out.bel hb4); clear ho4 hlo4 hb4))
  have HFi : Hid (Calls Try.prog 105 #[.slice A4 (mg true false false ns (setN ld)).length c4, .int .i64 1000] w4 fun e w' => e = .returned (.slice A4 ((mg true false false ns (setN ld)).take 1000).length c4) ∧ w4 = w') := first_any A4 c4 _ 1000 _ w4 (by omega) (by have := HN2.out; omega) (Sn.own HO4.out)
  have HSt : Hid (Sn w4 (sf A4) A4 c4 ((mg true false false ns (setN ld)).take 1000)) := by
    have h := HO4.out.take (k := ((mg true false false ns (setN ld)).take 1000).length) (by rw [List.length_take]; omega)
    have e : (uv (mg true false false ns (setN ld))).take (((mg true false false ns (setN ld)).take 1000).length * 1) = uv ((mg true false false ns (setN ld)).take 1000) := by
      rw [Nat.mul_one, ← uv_take, List.length_take]
      congr 1
      rcases Nat.le_total 1000 (mg true false false ns (setN ld)).length with h1 | h1
      · rw [Nat.min_eq_left h1]
      · rw [Nat.min_eq_right h1, List.take_of_length_le (Nat.le_refl _), List.take_of_length_le h1]
    rw [e] at h
    exact Sn.own h
  have HJo : Hid (Calls Try.prog 104 #[.slice A1 ld.length c1, .slice A4 ((mg true false false ns (setN ld)).take 1000).length c4] w4 (RetP mr w4)) := by
    rw [HR.out]
    exact Join_any A1 A4 c1 c4 ld _ _ w4 (by omega) (by rw [List.length_take]; omega) HW1.out (HW3.out ns HW2.out) HO14.out HSt.out
  generalize ((mg true false false ns (setN ld)).take 1000).length = nt at *
  go_wp2_with (first
    | (go_at_call 105; refine HFi.out.mono ?_; rintro e w5 ⟨rfl, rfl⟩)
    | (go_at_call 104; refine HJo.out.mono ?_; rintro e w6 hp; go_must (obtain ⟨A', n, c', rfl⟩ := HF.out e w6 _ hp); have HP := Lib.hid (HQ.out _ _ _ HB4.out hp); clear hp))
  exact HP.out
theorem mergePath_any (A : Option Addr) (c : Nat) (l : List Rt) (G : Foot) (w : World) (hl : l.length ≤ 10) (hsz : ∀ r ∈ l, nsz r.att.path ≤ 4000) (hs : Els 16 rRt w G A l) :
    Calls Try.prog 32 #[.bool true, .slice A l.length c] w (RetP (mergedR l) w) := by
  have HA := Lib.hid (merged_any A c l G w hl hsz hs)
  have HF : Hid (∀ e w', RetP (mergedR l) w e w' → ∃ A n c, e = .returned (.slice A n c)) := fun e w' => by
    rintro ⟨A, c, vs, rfl, _⟩
    exact ⟨A, _, c, rfl⟩
  obtain ⟨Q, hQ⟩ : ∃ Q, Q = RetP (mergedR l) w := ⟨_, rfl⟩
  rw [← hQ] at HA HF ⊢
  clear hQ hl hsz hs
  go_enter Try.func32, Try.ntmps32
  go_wp2_with (go_at_call 62; refine HA.out.mono ?_; rintro e w' hp; go_must (obtain ⟨A', n, c', rfl⟩ := HF.out e w' hp); have HP := Lib.hid hp; clear hp)
  exact HP.out
end Go.Proofs.Ytafepficapdepaa.attr
