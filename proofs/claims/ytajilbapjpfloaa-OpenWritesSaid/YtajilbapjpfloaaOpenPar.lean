/- What open's reader does with parameters. Conditions as each lemma states. -/
import Derived.Test.YtajilbapjpfloaaOpenCap
namespace Go.Proofs.Ytajilbapjpfloaa.openk
open Go.RowKit Go.Proofs.Ytajilbapjpfloaa.kit Go.Proofs.Ytajilbapjpfloaa.mem Go.Proofs.Ytajilbapjpfloaa.octet
set_option linter.unusedVariables false

theorem pars_bad (R b : Nat) (a h i : Int) (f : Bool) (sb : Int) (w : World) (hk : Ord w R a h i f sb true) :
    Calls Try.prog 73 #[.pointer (some ⟨R, 0, none⟩), .pointer (some ⟨b, 0, none⟩)] w fun e w' => e = .returned (.tuple #[]) ∧ w = w' := by
  have z5 := hk.cell 5
  simp [oc] at z5
  clear hk
  go_enter Try.func73, Try.ntmps73
  go_wp2_with fail
  refine wp_scope_jumps 0 (fun _ _ => False) (fun _ _ => 0) rfl ?_ (fun _ _ h => h.elim)
  go_wp2_with fail
  go_step3
  go_wp2_with fail
  try simp only [Exit.jump]
  refine bodyPost_ret (results_none rfl _ _ _) rfl ?_
  exact ⟨rfl, rfl⟩

structure ParJ (R b : Nat) (l : List UInt8) (s : Nat × Bool) (h i : Int) (w : World) (q : List UInt8) (bb : Bool) (a : Nat) (f : Bool) (sb : Int) (bd : Bool) (wr : World) : Prop where
  rdr : Rdr wr b q bb
  ord : Ord wr R a h i f sb bd
  chg : Chg2 R b w wr
  good : bd = false → bb = false ∧ sb = 0 ∧ parAll l s = parAll q (a, f)
  bad : bd = true → parAll l s = .inr sb
  len : q.length ≤ l.length
/-- what parameters leaves -/
def ParPost (R b : Nat) (l : List UInt8) (s : Nat × Bool) (h i : Int) (w w' : World) : Prop :=
  ∃ q bb a f sb bd, Rdr w' b q bb ∧ Ord w' R (a : Nat) h i f sb bd ∧ Chg2 R b w w' ∧ (bd = false → parAll l s = .inl (a, f) ∧ sb = 0) ∧ (bd = true → parAll l s = .inr sb)

set_option maxRecDepth 100000 in
set_option maxHeartbeats 2000000 in
theorem pars_any (R b : Nat) (l : List UInt8) (s : Nat × Bool) (h i : Int) (w : World) (hRb : R < b) (hk : Ord w R s.1 h i s.2 0 false) (hr : Rdr w b l false) (hl : l.length ≤ 549755813888) :
    Calls Try.prog 73 #[.pointer (some ⟨R, 0, none⟩), .pointer (some ⟨b, 0, none⟩)] w fun e w' => e = .returned (.tuple #[]) ∧ ParPost R b l s h i w w' := by
  have HJ0 : Hid (ParJ R b l s h i w l false s.1 s.2 0 false w) := ⟨hr, hk, Chg2.refl _ _ _, fun _ => ⟨rfl, rfl, rfl⟩, (fun e => by cases e), Nat.le_refl _⟩
  clear hk hr
  go_enter Try.func73, Try.ntmps73
  go_wp2_with fail
  refine wp_scope_jumps 0 (fun a' wr => ∃ q bb a f sb bd x2 x3 x4 x5 x6 x7 x8 x9 x10 x11 x12 x13 x14 x15 x16 x17 x18 x19 x20 x21 x22 x23 x24 x25 x26 x27 x28 x29 x30 x31 x32 x33 x34 x35, ParJ R b l s h i w q bb a f sb bd wr ∧ a' = { tmps := #[.pointer (some ⟨R, 0, none⟩), .pointer (some ⟨b, 0, none⟩), x2, x3, x4, x5, x6, x7, x8, x9, x10, x11, x12, x13, x14, x15, x16, x17, x18, x19, x20, x21, x22, x23, x24, x25, x26, x27, x28, x29, x30, x31, x32, x33, x34, x35], defers := [] }) (fun (a' : Act) (wr : World) => rlen wr b) rfl ?first ?pass
  case' first =>
    obtain ⟨q, bb, a, f, sb, bd, HJ⟩ : ∃ q bb a f sb bd, Hid (ParJ R b l s h i w q bb a f sb bd w) := ⟨_, _, _, _, _, _, HJ0⟩
    obtain ⟨wr, hwr, HJ⟩ : ∃ wr : World, wr = w ∧ Hid (ParJ R b l s h i w q bb a f sb bd wr) := ⟨w, rfl, HJ⟩
    clear HJ0
    go_wp2_with fail
    go_step3
    rw [← hwr]
    have Hwr := Lib.hid hwr
    clear hwr
  case' pass =>
    rintro a' wr ⟨q, bb, a, f, sb, bd, x2, x3, x4, x5, x6, x7, x8, x9, x10, x11, x12, x13, x14, x15, x16, x17, x18, x19, x20, x21, x22, x23, x24, x25, x26, x27, x28, x29, x30, x31, x32, x33, x34, x35, hJ, rfl⟩
    have HJ := Lib.hid hJ
    clear hJ HJ0
  all_goals
    have hlen : q.length ≤ 549755813888 := Nat.le_trans HJ.out.len hl
    have z5 := HJ.out.ord.cell 5
    simp [oc] at z5
    cases bd
    · obtain ⟨rfl, rfl, hpar⟩ := HJ.out.good rfl
      have Hpar := Lib.hid hpar
      have HL := Lib.hid (Left_any b q false wr HJ.out.rdr)
      clear hpar
      rcases q with _ | ⟨c, t0⟩
      · have HF : Hid (ParPost R b l s h i w wr) := ⟨_, _, _, _, _, _, HJ.out.rdr, HJ.out.ord, HJ.out.chg, fun _ => ⟨by rw [Hpar.out, parAll_nil], rfl⟩, (fun e => by cases e)⟩
        go_wp2_with fail
        refine HL.out.mono ?_; rintro e w' ⟨rfl, rfl⟩
        go_wp2_with fail
        try simp only [Exit.jump]
        refine bodyPost_ret (results_none rfl _ _ _) rfl ?_
        exact ⟨rfl, HF.out⟩
      · have h0 : (((c :: t0).length : Int) == 0) = false := by simp; omega
        have HR := Lib.hid HJ.out.rdr
        have HK := Lib.hid HJ.out.ord
        have hu := u8_any b (c :: t0) false wr HR.out
        obtain ⟨e1, e2, e3⟩ := rd_app [c] t0 1 rfl
        simp only [List.cons_append, List.nil_append] at e1 e2 e3
        rw [e1, e2, e3, num_one] at hu
        have HU := Lib.hid hu
        have hRb' : R ≠ b := by omega
        have Hne : Hid (some R ≠ some b) := by intro e; injection e with e; omega
        clear hu e1 e2 e3
        go_wp2_with fail
        refine HL.out.mono ?_; rintro e w' ⟨rfl, rfl⟩
        go_wp2_with fail
        refine HU.out.mono ?_; rintro e w1 ⟨rfl, hr1, hg1⟩
        have HR1 := Lib.hid hr1
        have HK1 : Hid (Ord w1 R a h i f 0 false) := HK.out.grown hg1 Hne.out
        have HC1 : Hid (Chg2 R b wr w1) := Chg2.snd hg1
        clear hr1 hg1 HU HL
        rcases t0 with _ | ⟨n, t⟩
        · have hu2 := u8_any b [] false w1 HR1.out
          obtain ⟨e1, e2, e3⟩ := rd_none 1 (by omega)
          rw [e1, e2, e3] at hu2
          have HU2 := Lib.hid hu2
          clear hu2 e1 e2 e3
          go_wp2_with fail
          refine HU2.out.mono ?_; rintro e w2 ⟨rfl, hr2, hg2⟩
          have hp := Part_any b [] true 0 w2 (by simp) hr2
          obtain ⟨e1, e2, e3⟩ := rd_zero_bad 0
          rw [e1, e2, e3] at hp
          have HP := Lib.hid hp
          have HK2 : Hid (Ord w2 R a h i f 0 false) := HK1.out.grown hg2 Hne.out
          have HC2 := Lib.hid (HC1.out.trans (Chg2.snd hg2))
          clear hp e1 e2 e3 hr2 hg2 HU2
          go_wp2_with fail
          refine HP.out.mono ?_; rintro e w3 ⟨⟨pc, rfl, hpc, hnew⟩, hr3, hg3⟩
          have HK3 : Hid (Ord w3 R a h i f 0 false) := HK2.out.grown hg3 Hne.out
          have HC3 := Lib.hid (HC2.out.trans (Chg2.snd hg3))
          have HR3 := Lib.hid hr3
          have HB := Lib.hid (Bad_any b [] true w3 hr3)
          clear hr3 hg3 hnew HP
          go_wp2_with fail
          refine HB.out.mono ?_; rintro e w' ⟨rfl, rfl⟩
          go_wp2_with fail
          refine (spoil_any R a h i f _ _ _ _ _ (by exact HK3.out)).mono ?_; rintro e w4 ⟨rfl, hk4, hg4⟩
          have hk4' : Ord w4 R a h i f 0 true := by simpa using hk4
          have HF : Hid (ParPost R b l s h i w w4) := ⟨[], true, a, f, 0, true, rdr_chg1 HR3.out hg4 (Ne.symm hRb') HK3.out (oc_no _ _ _ _ _ _), hk4', (HJ.out.chg.trans HC3.out).trans (Chg2.fst hg4), (fun e => by cases e), fun _ => by rw [Hpar.out, parAll_one]⟩
          clear hk4 hk4' hg4
          go_wp2_with fail
          try simp only [Exit.jump]
          refine bodyPost_ret (results_none rfl _ _ _) rfl ?_
          exact ⟨rfl, HF.out⟩
        · have hu2 := u8_any b (n :: t) false w1 HR1.out
          obtain ⟨e1, e2, e3⟩ := rd_app [n] t 1 rfl
          simp only [List.cons_append, List.nil_append] at e1 e2 e3
          rw [e1, e2, e3, num_one] at hu2
          have HU2 := Lib.hid hu2
          simp only [List.length_cons] at hlen
          clear hu2 e1 e2 e3
          go_wp2_with fail
          refine HU2.out.mono ?_; rintro e w2 ⟨rfl, hr2, hg2⟩
          have hp := Part_any b t false n.toNat w2 (by omega) hr2
          have HK2 : Hid (Ord w2 R a h i f 0 false) := HK1.out.grown hg2 Hne.out
          have HC2 := Lib.hid (HC1.out.trans (Chg2.snd hg2))
          have hwz : wr.heap.size ≤ w2.heap.size := HC2.out.size
          have hplt : b < w2.heap.size := hr2.lt
          clear hr2 hg2 HU2
          by_cases hn : n.toNat ≤ t.length
          · obtain ⟨e1, e2, e3⟩ := rd_in t n.toNat hn
            rw [e1, e2, e3] at hp
            have HP := Lib.hid hp
            clear hp e1 e2 e3
            go_wp2_with fail
            refine HP.out.mono ?_; rintro e w3 ⟨⟨pc, rfl, hpc, hnew⟩, hr3, hg3⟩
            have HK3 : Hid (Ord w3 R a h i f 0 false) := HK2.out.grown hg3 Hne.out
            have HC3 := Lib.hid (HC2.out.trans (Chg2.snd hg3))
            have HR3 := Lib.hid hr3
            have HN3 := Lib.hid hnew
            have hz3 : w2.heap.size ≤ w3.heap.size := hg3.size
            have HB := Lib.hid (Bad_any b _ _ w3 hr3)
            clear hr3 hg3 hnew HP
            go_wp2_with fail
            refine HB.out.mono ?_; rintro e w' ⟨rfl, rfl⟩
            go_wp2_with fail
            refine (spoil_any R a h i f _ _ _ _ _ (by exact HK3.out)).mono ?_; rintro e w4 ⟨rfl, hk4, hg4⟩
            have hk4' : Ord w4 R a h i f 0 false := by simpa using hk4
            have HK4 := Lib.hid hk4'
            have HR4 : Hid (Rdr w4 b (t.drop n.toNat) false) := rdr_chg1 HR3.out hg4 (Ne.symm hRb') HK3.out (oc_no _ _ _ _ _ _)
            have hpR : pc ≠ R := by omega
            have HN4 : Hid (Rdr w4 pc (t.take n.toNat) false) := rdr_chg1 HN3.out hg4 hpR HK3.out (oc_no _ _ _ _ _ _)
            have HC4 := Lib.hid ((HJ.out.chg.trans HC3.out).trans (Chg2.fst hg4))
            have hz4 : w2.heap.size ≤ w4.heap.size := Nat.le_trans hz3 hg4.size
            have hdl : (t.drop n.toNat).length ≤ l.length := by have := HJ.out.len; simp at this ⊢; omega
            clear hk4 hk4' hg4
            by_cases hc : c.toNat = 2
            · have d1 : ((c.toNat : Int) != 2) = false := by simp; omega
              go_wp2_with fail
              refine (spoil_any R a h i f _ _ _ _ _ (by exact HK4.out)).mono ?_; rintro e w5 ⟨rfl, hk5, hg5⟩
              have hk5' : Ord w5 R a h i f 0 false := by simpa using hk5
              have HK5 := Lib.hid hk5'
              have HR5 : Hid (Rdr w5 b (t.drop n.toNat) false) := rdr_chg1 HR4.out hg5 (Ne.symm hRb') HK4.out (oc_no _ _ _ _ _ _)
              have HN5 : Hid (Rdr w5 pc (t.take n.toNat) false) := rdr_chg1 HN4.out hg5 hpR HK4.out (oc_no _ _ _ _ _ _)
              have HC5 := Lib.hid (HC4.out.trans (Chg2.fst hg5))
              have HCap := Lib.hid (caps_any R pc (t.take n.toNat) (a, f) h i 0 w5 (by omega) hk5' HN5.out (by simp; omega))
              have hz5 : w2.heap.size ≤ w5.heap.size := Nat.le_trans hz4 hg5.size
              clear hk5 hk5' hg5
              go_wp2_with fail
              refine HCap.out.mono ?_; rintro e w6 ⟨rfl, q6, bb6, a6, f6, sb6, bd6, hr6, hk6, hc6, hgo6, hba6⟩
              have hlw : w.heap.size ≤ wr.heap.size := HJ.out.chg.size
              obtain ⟨cs6, kp6, np6⟩ := rdr_block HN5.out
              have HJ9 : Hid (ParJ R b l s h i w (t.drop n.toNat) false a6 f6 sb6 bd6 w6) := by
                refine ⟨rdr_chg HR5.out hc6 (Ne.symm hRb') (by omega) HK5.out (oc_no _ _ _ _ _ _) kp6 np6, hk6, HC5.out.then_ hc6 (by omega), fun e => ?_, fun e => ?_, hdl⟩
                · obtain ⟨g1, g2⟩ := hgo6 e
                  exact ⟨rfl, g2, by rw [Hpar.out, parAll_next c n t (a, f) (a6, f6) hn hc g1]⟩
                · obtain ⟨g1, g2⟩ := hba6 e
                  rw [Hpar.out, parAll_cap c n t (a, f) hn hc g1, g2]
              have Hfin : Hid (rlen w6 b < rlen wr b) := by rw [Hid, rlen_of HJ9.out.rdr, rlen_of HJ.out.rdr]; simp <;> omega
              clear hr6 hk6 hc6 hgo6 hba6 kp6 np6
              go_wp2_with fail
              go_step3
              first
                | exact ⟨rfl, t.drop n.toNat, false, a6, f6, sb6, bd6, _, _, _, _, _, _, _, _, _, _, _, _, _, _, _, _, _, _, _, _, _, _, _, _, _, _, _, _, _, _, _, _, _, _, HJ9.out, rfl⟩
                | exact ⟨rfl, ⟨t.drop n.toNat, false, a6, f6, sb6, bd6, _, _, _, _, _, _, _, _, _, _, _, _, _, _, _, _, _, _, _, _, _, _, _, _, _, _, _, _, _, _, _, _, _, _, HJ9.out, rfl⟩, Hfin.out⟩
            · have d1 : ((c.toNat : Int) != 2) = true := by simp; omega
              go_wp2_with fail
              refine (spoil_any R a h i f _ _ _ _ _ (by exact HK4.out)).mono ?_; rintro e w5 ⟨rfl, hk5, hg5⟩
              have hk5' : Ord w5 R a h i f 4 true := by simpa using hk5
              have HF : Hid (ParPost R b l s h i w w5) := ⟨_, false, a, f, 4, true, rdr_chg1 HR4.out hg5 (Ne.symm hRb') HK4.out (oc_no _ _ _ _ _ _), hk5', HC4.out.trans (Chg2.fst hg5), (fun e => by cases e), fun _ => by rw [Hpar.out, parAll_kind c n t _ hn hc]⟩
              clear hk5 hk5' hg5
              go_wp2_with fail
              try simp only [Exit.jump]
              refine bodyPost_ret (results_none rfl _ _ _) rfl ?_
              exact ⟨rfl, HF.out⟩
          · obtain ⟨e1, e2, e3⟩ := rd_over t n.toNat (by omega)
            rw [e1, e2, e3] at hp
            have HP := Lib.hid hp
            clear hp e1 e2 e3
            go_wp2_with fail
            refine HP.out.mono ?_; rintro e w3 ⟨⟨pc, rfl, hpc, hnew⟩, hr3, hg3⟩
            have HK3 : Hid (Ord w3 R a h i f 0 false) := HK2.out.grown hg3 Hne.out
            have HC3 := Lib.hid (HC2.out.trans (Chg2.snd hg3))
            have HR3 := Lib.hid hr3
            have HB := Lib.hid (Bad_any b _ _ w3 hr3)
            clear hr3 hg3 hnew HP
            go_wp2_with fail
            refine HB.out.mono ?_; rintro e w' ⟨rfl, rfl⟩
            go_wp2_with fail
            refine (spoil_any R a h i f _ _ _ _ _ (by exact HK3.out)).mono ?_; rintro e w4 ⟨rfl, hk4, hg4⟩
            have hk4' : Ord w4 R a h i f 0 true := by simpa using hk4
            have HF : Hid (ParPost R b l s h i w w4) := ⟨[], true, a, f, 0, true, rdr_chg1 HR3.out hg4 (Ne.symm hRb') HK3.out (oc_no _ _ _ _ _ _), hk4', (HJ.out.chg.trans HC3.out).trans (Chg2.fst hg4), (fun e => by cases e), fun _ => by rw [Hpar.out, parAll_short c n t _ (by omega)]⟩
            clear hk4 hk4' hg4
            go_wp2_with fail
            try simp only [Exit.jump]
            refine bodyPost_ret (results_none rfl _ _ _) rfl ?_
            exact ⟨rfl, HF.out⟩
    · have HF : Hid (ParPost R b l s h i w wr) := ⟨_, _, _, _, _, _, HJ.out.rdr, HJ.out.ord, HJ.out.chg, (fun e => by cases e), fun e => HJ.out.bad rfl⟩
      go_wp2_with fail
      try simp only [Exit.jump]
      refine bodyPost_ret (results_none rfl _ _ _) rfl ?_
      exact ⟨rfl, HF.out⟩
end Go.Proofs.Ytajilbapjpfloaa.openk
