/- The walk of the law TrieLean: the Go text returns true and writes nothing that was there. No condition. -/
import Derived.Test.YtbhhkjkjihenoaaTrieDoes
import Derived.Test.YtbhhkjkjihenoaaTrieArgs
namespace Go.Proofs.Ytbhhkjkjihenoaa.trieLean
open Go.RowKit Go.Proofs.Ytbhhkjkjihenoaa.kit Go.Proofs.Ytbhhkjkjihenoaa.mem Go.Proofs.Ytbhhkjkjihenoaa.foot Go.Proofs.Ytbhhkjkjihenoaa.pfx Go.Proofs.Ytbhhkjkjihenoaa.tri
set_option linter.unusedVariables false
set_option linter.unusedSimpArgs false

abbrev RAct : Rel (Int × Int × Int × Int) := rPair (rInt .i64) (rPair (rInt .i64) RPfx)
theorem keeps_act : Keeps 4 RAct := keeps_pair (keeps_int .i64) (keeps_pair (keeps_int .i64) keeps_pfx)
section
variable {H : Type} {enc : TypeId × Value → H} {w : World} {base : Nat} {held : Bool}
set_option maxRecDepth 100000 in
theorem opens_act : Opens enc Try.prog w base held 32 RAct :=
  opens_struct Try.underlying32 (by kernel_rfl) (opensF_cons (o' := 1) rfl (by kernel_rfl) (opens_int Try.underlying3) (opensF_cons (o' := 2) rfl (by kernel_rfl) (opens_int Try.underlying3) (opensF_last rfl opens_pfx)))
end
/-- the k-th act of a slice that came in -/
theorem act_at {W : World} {G : Foot} {A : Option Addr} {l : List (Int × Int × Int × Int)} (h : Els 4 RAct W G A l) {k : Nat} (hk : k < l.length) :
    ∃ (b off : Nat) (kind v : Int) (pa : Nat) (pn : Int), A = some ⟨b, off, none⟩ ∧ b < W.heap.size ∧ pa < 4294967296 ∧ -9223372036854775808 ≤ v ∧ v ≤ 9223372036854775807 ∧ W.cell? ⟨b, off + k * 4, none⟩ = some (.int .i64 kind) ∧ W.cell? ⟨b, off + k * 4 + 1, none⟩ = some (.int .i64 v) ∧ W.cell? ⟨b, off + k * 4 + 2, none⟩ = some (.int .u32 (pa : Int)) ∧ W.cell? ⟨b, off + k * 4 + 3, none⟩ = some (.int .i64 pn) := by
  obtain ⟨b, off, cs, e, _, hb, hr, hc⟩ := h.at_ keeps_act hk
  obtain ⟨_, c2, rfl, ⟨rfl, _⟩, _, c3, rfl, ⟨rfl, hv⟩, h3⟩ := hr
  obtain ⟨a, ha, h1, rfl, _⟩ := pfx_eq h3
  have hv := wf_i64 hv
  have q0 := hc 0 _ rfl
  have q1 := hc 1 _ rfl
  have q2 := hc 2 _ rfl
  have q3 := hc 3 _ rfl
  rw [Nat.add_zero] at q0
  exact ⟨b, off, _, _, a, _, e, hb, ha, hv.1, hv.2, q0, q1, q2, q3⟩

set_option maxRecDepth 100000 in
set_option maxHeartbeats 4000000 in
theorem core (A0 : Option Addr) (c0 : Nat) (l0 : List (Int × Int × Int × Int)) (W : World) (hm0 : l0.length ≤ 9223372036854775807) (h0 : Els 4 RAct W (fun _ => True) A0 l0) :
    Calls Try.prog 3 #[.slice A0 l0.length c0] W fun e w' => e = .returned (.bool true) ∧ Below W.heap.size W w' := by
  have H0 := Lib.hid h0
  clear h0
  go_enter Try.func3, Try.ntmps3
  go_wp2_with fail
  refine (New_any W).mono ?_; rintro e w1 ⟨tr, F, rfl, hT, hF, hb1⟩
  have HJ0 : Hid (Play W.heap.size (w1.alloc (.cells #[] 47)) tr .nil (some ⟨w1.heap.size, 0, none⟩) 0) := by
    have ha : Below w1.heap.size w1 (w1.alloc (.cells #[] 47)) := (Below.refl _ _).alloc (Nat.le_refl _) _
    exact ⟨⟨F, hT.bel ha, hF, fun x hx hf => by rw [sf_some] at hx; have := hT.lt x hf; have : w1.heap.size = x := hx; omega⟩, Row3.empty (Bk.new w1 _ _) hb1.size 3, trivial⟩
  have HB0 : Hid (Below W.heap.size W (w1.alloc (.cells #[] 47))) := hb1.alloc hb1.size _
  clear hT hF hb1
  go_wp2_with fail
  go_loopw [4, 5, 6] (fun v4 v5 v6 wr => ∃ (i : Nat) (t : T) (A : Option Addr) (c : Nat) (b : Bool), i ≤ 80 ∧ v6 = .int .i64 i ∧ v4 = .slice A t.rows.length c ∧ v5 = .bool b ∧ Play W.heap.size wr tr t A c ∧ t.cnt ≤ i ∧ Below W.heap.size W wr) (fun _ _ v6 _ => 80 - (intOf v6).toNat)
  case atStart => exact ⟨0, .nil, _, 0, false, by omega, rfl, rfl, rfl, HJ0.out, Nat.le_refl _, HB0.out⟩
  case round =>
    obtain ⟨i, t, A, c, bo, hi, rfl, rfl, rfl, hP, hc, hb⟩ := hrel
    have HP := Lib.hid hP
    have HC := Lib.hid hc
    have HB := Lib.hid hb
    clear hP hc hb HJ0 HB0
    by_cases hlt : i < l0.length ∧ i < 80
    · obtain ⟨hl1, hl2⟩ := hlt
      obtain ⟨b, off, kind, v, pa, pn, rfl, hbl, ha, hv0, hv1, q0, q1, q2, q3⟩ := act_at H0.out hl1
      have q0 := (HB.out.cell (p := ⟨b, off + i * 4, none⟩) hbl).trans q0
      have q1 := (HB.out.cell (p := ⟨b, off + i * 4 + 1, none⟩) hbl).trans q1
      have q2 := (HB.out.cell (p := ⟨b, off + i * 4 + 2, none⟩) hbl).trans q2
      have q3 := (HB.out.cell (p := ⟨b, off + i * 4 + 3, none⟩) hbl).trans q3
      have HD := Lib.hid (does_any W.heap.size tr t A c kind v pa pn wr HP.out HB.out.size (by have := HC.out; omega) ha hv0 hv1)
      generalize hn : t.rows.length = n at *
      clear hn hv0 hv1 ha
      go_wp2_with fail
      refine HD.out.mono ?_; rintro e w2 ⟨t', A', c', rfl, hP2, hc2, hb2⟩
      have HB2 := Lib.hid (HB.out.trans hb2)
      have HC2 : Hid (t'.cnt ≤ i + 1) := by have := HC.out; rw [Hid]; omega
      obtain ⟨F, hT, hSt⟩ := hP2.tree HB2.out.size
      have HCk := Lib.hid (Check_any w2 hT hP2.wf (by have := HC2.out; omega))
      have HSt := Lib.hid hSt
      have HW := Lib.hid hP2.wf
      obtain ⟨m, hm⟩ : ∃ m, m = t'.rows.length := ⟨_, rfl⟩
      have HM := Lib.hid hm
      rw [← hm]
      clear hP2 hc2 hb2 hT hSt HD hm q0 q1 q2 q3
      go_wp2_with fail
      refine HCk.out.mono ?_; rintro e w3 ⟨rfl, hT3, hC3⟩
      obtain ⟨hBl, hR3, hfin⟩ := HSt.out t' w3 ⟨F, hT3, hC3, Fresh.refl _ _⟩
      have HB3 := Lib.hid (HB2.out.trans hBl)
      have HP3 := Lib.hid (hfin w3 A' c' HW.out (Below.refl _ _) hR3 (fun x hx => .inl hx))
      obtain ⟨hs1, hs2⟩ := T.size_le HW.out
      have hcm : t'.cnt = m := HM.out.symm
      have hz : T.nil.size = 0 := rfl
      have hcc := HC2.out
      have hs3 : t'.size + 1 ≤ 2 * m ∨ t'.size = 0 := hs2.imp (fun h => by omega) (fun h => by rw [h]; rfl)
      have HN := Lib.hid (Nodes_any w3 hT3 (by omega))
      obtain ⟨z, hz2⟩ : ∃ z, z = t'.size := ⟨_, rfl⟩
      rw [← hz2] at HN hs1 hs3
      have d1 : m ≤ z := by omega
      have d2 : m = 0 → z = 0 := by omega
      have d3 : 0 < m → z ≤ 2 * m - 1 := by omega
      have hm81 : m ≤ 81 := by omega
      clear hBl hR3 hfin hT3 hC3 hs1 hs2 hs3 hcm hz hcc hz2
      go_wp2_with fail
      refine HN.out.mono ?_; rintro e w4 ⟨rfl, hb4⟩
      have HB4 := Lib.hid (HB3.out.trans (hb4.mono HB3.out.size))
      have HP4 := Lib.hid (HP3.out.bel hb4)
      clear hb4
      have e1 : decide ((z : Int) < (m : Int)) = false := by simp; omega
      rcases Nat.eq_zero_or_pos m with h | h
      · have hz0 := d2 h
        subst hz0
        have HM0 := Lib.hid h
        subst h
        go_wp2_with fail
        go_roundw
        case rel => exact ⟨i + 1, t', A', c', true, by omega, by go_num, by rw [← HM.out], rfl, HP4.out, HC2.out, HB4.out⟩
        case measure => simp [intOf]; omega
      · have e3 := d3 h
        have e4 : ((m : Int) == 0) = false := by rw [beq_eq_false_iff_ne]; omega
        have e5 : decide ((2 * (m : Int) - 1) < (z : Int)) = false := by simp; omega
        have e6 : decide ((0 : Int) < (m : Int)) = true := by simp; omega
        go_wp2_with fail
        go_roundw
        case rel => exact ⟨i + 1, t', A', c', true, by omega, by go_num, by rw [← HM.out], rfl, HP4.out, HC2.out, HB4.out⟩
        case measure => simp [intOf]; omega
    · by_cases hl1 : i < l0.length
      case' pos =>
        have e2 : decide ((i : Int) < 80) = false := by simp; omega
        have e1 : decide ((i : Int) < (l0.length : Int)) = true := by simp; omega
        go_wp2_with fail
      case' neg =>
        have e1 : decide ((i : Int) < (l0.length : Int)) = false := by simp; omega
        go_wp2_with fail
      all_goals
        refine (tri.lives_any _).mono ?_; rintro e w9 ⟨rfl, hb9⟩
        have HB9 := Lib.hid (HB.out.trans (hb9.mono HB.out.size))
        clear hb9
        go_wp2_with fail
        go_ret
        exact ⟨rfl, HB9.out⟩

set_option maxRecDepth 100000 in
theorem walk {H : Type} {enc : TypeId × Value → H} {W : World} {base : Nat} {v0 : Value} {d0 : DataW H} {p0 : List MemPlace}
    (hv0 : Value.okWide Try.prog W .any base 22 v0) (h0 : DataW.Trod enc Try.prog W 0 (fun _ => true) true 22 v0 d0 p0) :
    Calls Try.prog 3 #[v0] W fun e w' => e = .returned (.bool true) ∧ Below W.heap.size W w' := by
  obtain ⟨A0, c0, l0, rfl, _, hc0, hm0, he0⟩ := open_sl Try.underlying22 (opens_sl keeps_act Try.underlying22 (by kernel_rfl) (by omega) opens_act) hv0 h0
  unfold maxLen at hm0
  exact core A0 c0 l0 W (by omega) he0
end Go.Proofs.Ytbhhkjkjihenoaa.trieLean
