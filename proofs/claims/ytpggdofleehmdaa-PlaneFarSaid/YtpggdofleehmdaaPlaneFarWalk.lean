/- The walk of the law PlaneFar: the Go text returns true and writes nothing that was there. No condition. -/
import Derived.Test.YtpggdofleehmdaaPlaneFar
namespace Go.Proofs.Ytpggdofleehmdaa.planeFar
open Go.RowKit Go.Proofs.Ytpggdofleehmdaa.kit Go.Proofs.Ytpggdofleehmdaa.mem Go.Proofs.Ytpggdofleehmdaa.foot Go.Proofs.Ytpggdofleehmdaa.nums Go.Proofs.Ytpggdofleehmdaa.plane
set_option linter.unusedVariables false
set_option linter.unusedSimpArgs false

set_option maxRecDepth 100000 in
set_option maxHeartbeats 1000000 in
theorem core (a b : Nat) (ha : a < 4294967296) (hb : b < 4294967296) (A : Option Addr) (c : Nat) (l : List Nat) (W : World) (hA : A = none → c = 0) (hc : l.length ≤ c) (hcm : c ≤ maxLen) (hl : ∀ n ∈ l, n < 4294967296) (hs : Us W (fun _ => True) A l) :
    Calls Try.prog 12 #[.int .u32 a, .int .u32 b, .slice A l.length c] W fun e w' => e = .returned (.bool true) ∧ Below W.heap.size W w' := by
  have HF1 := Lib.hid (Few_any A c l 12 _ W (by omega) hA hc hcm hs)
  obtain ⟨x, hxe⟩ : ∃ x, x = l.take 12 := ⟨_, rfl⟩
  have hx12 : x.length ≤ 12 := by rw [hxe]; simp; omega
  have HXm : Hid (∀ n ∈ x, n < 4294967296) := fun n hn => hl n (by rw [hxe] at hn; exact List.mem_of_mem_take hn)
  rw [← hxe] at HF1
  have HA1 := Lib.hid (Far_any a b ha hb)
  have HA2 := Lib.hid (Far_any b a hb ha)
  have HR := Lib.hid (refFar_any a b ha hb)
  rw [dist_comm b a] at HA2
  have HRx := Lib.hid (fun n hn w => refFar_any a n ha hn w)
  have HLv := Lib.hid lives_any
  clear hs hA hc hcm hl hxe
  generalize dist a b = d at *
  go_enter Try.func12, Try.ntmps12
  go_wp2_with fail
  refine HF1.out.mono ?_; rintro e w1 ⟨A1, c1, rfl, ho1, _, hb1⟩
  have HF2 := Few_any A1 c1 x 12 _ w1 (by omega) ho1.nil ho1.cap ho1.max ho1.rg
  rw [List.take_of_length_le hx12] at HF2
  have HF2 := Lib.hid HF2
  have HU1 := Lib.hid ho1.rg
  have HB1 := Lib.hid hb1
  clear ho1 hb1 HF1
  go_wp2_with fail
  refine HF2.out.mono ?_; rintro e w2 ⟨A2, c2, rfl, ho2, _, hb2⟩
  have HN := Lib.hid (Near_any a ha A2 c2 x _ w2 (by unfold maxLen; omega) HXm.out ho2.rg)
  have HU2 := Lib.hid (HU1.out.bel hb2)
  have HB2 := Lib.hid (HB1.out.trans (hb2.mono HB1.out.size))
  clear ho2 hb2 HF2 HU1 HB1
  go_wp2_with fail
  refine HN.out.mono ?_; rintro e w3 ⟨rfl, hb3⟩
  have HU3 := Lib.hid (HU2.out.bel hb3)
  have HB3 := Lib.hid (HB2.out.trans (hb3.mono HB2.out.size))
  clear hb3 HU2 HB2 HN
  by_cases h0 : 0 < x.length
  · have HBest := Lib.hid (nearI_best a x x.length)
    have hlt := nearI_lt a x x.length h0
    have e0 : decide (0 < x.length) = true := by simpa using h0
    rw [e0]
    generalize nearI a x x.length = i at *
    have HX0 : Hid (x ≠ []) := fun e => by rw [e] at h0; exact absurd h0 (by simp)
    go_wp2_with (first
      | (go_at_call 41; (with_reducible refine (HA1.out _).mono ?_); rintro e w4 ⟨rfl, hb4⟩; have HB4 := Lib.hid (HB3.out.trans (hb4.mono HB3.out.size)); have HU4 := Lib.hid (HU3.out.bel hb4); clear hb4)
      | (go_at_call 41; (with_reducible refine (HA2.out _).mono ?_); rintro e w5 ⟨rfl, hb5⟩; have HB5 := Lib.hid (HB4.out.trans (hb5.mono HB4.out.size)); have HU5 := Lib.hid (HU4.out.bel hb5); clear hb5)
      | (go_at_call 42; refine (HR.out _).mono ?_; rintro e w' ⟨rfl, rfl⟩))
    clear HA1 HA2 HR HB3 HB4 HU3 HU4
    go_loopw [9] (fun ii wr => ∃ k : Nat, k ≤ x.length ∧ ii = .int .i64 k ∧ Below w5.heap.size w5 wr) (fun ii _ => x.length - (intOf ii).toNat)
    case atStart => exact ⟨0, by omega, rfl, Below.refl _ _⟩
    case round =>
      obtain ⟨k, hk, rfl, hbw⟩ := hrel
      have HBW := Lib.hid hbw
      have HBd := Lib.hid (fun n => (show Below w5.heap.size w5 (wr.drewN n) from ⟨hbw.os, hbw.tape, hbw.output, hbw.size, hbw.block⟩))
      clear hbw
      by_cases hltk : k < x.length
      · obtain ⟨g, off, rfl, _, hg, hck⟩ := (show Us w5 (sf A1) A1 x from HU5.out).at_ hltk
        have ck := (HBW.out.cell (p := ⟨g, off + k, none⟩) hg).trans hck
        obtain ⟨g', off', e', _, _, hci⟩ := (show Us w5 _ _ x from HU5.out).at_ hlt
        cases e'
        have ci := (HBW.out.cell (p := ⟨g, off + i, none⟩) hg).trans hci
        clear hck hci
        have hb := HBest.out k hltk
        have g1 : x.getD k 0 = x[k] := by simp [hltk]
        have g2 : x.getD i 0 = x[i] := by simp [hlt]
        rw [g1, g2] at hb
        have hyk := HXm.out _ (List.getElem_mem hltk)
        have hyi := HXm.out _ (List.getElem_mem hlt)
        have hki : (k : Int) < (x.length : Int) := by omega
        have hii : (i : Int) < (x.length : Int) := by omega
        clear g1 g2
        generalize x[k] = yk at *
        generalize x[i] = yi at *
        obtain ⟨hb1, hb2⟩ := hb
        have t1 : decide (dist a yk < dist a yi) = false := by simp; omega
        by_cases hki2 : k < i
        · have t2 : decide (k < i) = true := by simp; omega
          have t2n : k < i := hki2
          have t3 : (dist a yk == dist a yi) = false := by rw [beq_eq_false_iff_ne]; have := hb2 hki2; omega
          clear hb1 hb2 hki2
          go_wp2_with fail
          go_quiet ((go_at_call 42; exact quiet_eq (HRx.out _ (by omega) _)))
          go_wp2_with fail
          go_roundw
          case measure => simp [intOf]; omega
          case rel => exact ⟨k + 1, by omega, by go_num, HBd.out _⟩
        · have t2 : decide (k < i) = false := by simp; omega
          have t2n : ¬ k < i := hki2
          clear hb1 hb2 hki2
          go_wp2_with fail
          go_quiet ((go_at_call 42; exact quiet_eq (HRx.out _ (by omega) _)))
          go_wp2_with fail
          go_roundw
          case measure => simp [intOf]; omega
          case rel => exact ⟨k + 1, by omega, by go_num, HBd.out _⟩
      · obtain rfl : k = x.length := by omega
        have HWd := Lib.hid (HB5.out.trans (HBW.out.mono HB5.out.size))
        go_wp2_with (go_at_call 20; refine (HLv.out _).mono ?_; rintro e w6 ⟨rfl, hb6⟩)
        go_ret
        exact ⟨rfl, HWd.out.trans (hb6.mono HWd.out.size)⟩
  · have hx : x = [] := List.eq_nil_of_length_eq_zero (by omega)
    subst hx
    have e0 : nearI a [] 0 = 0 := rfl
    go_wp2_with (first
      | (go_at_call 41; (with_reducible refine (HA1.out _).mono ?_); rintro e w4 ⟨rfl, hb4⟩; have HB4 := Lib.hid (HB3.out.trans (hb4.mono HB3.out.size)); clear hb4)
      | (go_at_call 41; (with_reducible refine (HA2.out _).mono ?_); rintro e w5 ⟨rfl, hb5⟩; have HB5 := Lib.hid (HB4.out.trans (hb5.mono HB4.out.size)); clear hb5)
      | (go_at_call 42; refine (HR.out _).mono ?_; rintro e w' ⟨rfl, rfl⟩)
      | (go_at_call 20; refine (HLv.out _).mono ?_; rintro e w6 ⟨rfl, hb6⟩))
    go_ret
    exact ⟨rfl, HB5.out.trans (hb6.mono HB5.out.size)⟩

set_option maxRecDepth 100000 in
theorem walk {H : Type} {enc : TypeId × Value → H} {W : World} {base : Nat} {v2 : Value} {d2 : DataW H} {p2 : List MemPlace} (a0 : Int) (w0 : (Lit.int .u32 a0).wf = true) (a1 : Int) (w1 : (Lit.int .u32 a1).wf = true)
    (hv2 : Value.okWide Try.prog W .any base 63 v2) (h2 : DataW.Trod enc Try.prog W 0 (fun _ => true) true 63 v2 d2 p2) :
    Calls Try.prog 12 #[.int .u32 a0, .int .u32 a1, v2] W fun e w' => e = .returned (.bool true) ∧ Below W.heap.size W w' := by
  obtain ⟨A, c, l, rfl, hA, hcap, hm, hs, hl⟩ := open_nums Try.underlying63 Try.underlying22 (by kernel_rfl) hv2 h2
  have b0 := wf_u32 w0
  have b1 := wf_u32 w1
  obtain ⟨a, rfl⟩ := Int.eq_ofNat_of_zero_le b0.1
  obtain ⟨b, rfl⟩ := Int.eq_ofNat_of_zero_le b1.1
  exact core a b (by omega) (by omega) A c l W hA hcap hm hl hs
end Go.Proofs.Ytpggdofleehmdaa.planeFar
