/- What open's reader does with capabilities and parameters. Conditions as each lemma states. -/
import Derived.Test.YtajilbapjpfloaaOpenDec
import Derived.Test.YtajilbapjpfloaaOpenMath
import Derived.Test.YtajilbapjpfloaaOctLives
namespace Go.Proofs.Ytajilbapjpfloaa.openk
open Go.RowKit Go.Proofs.Ytajilbapjpfloaa.kit Go.Proofs.Ytajilbapjpfloaa.mem Go.Proofs.Ytajilbapjpfloaa.octet
set_option linter.unusedVariables false

/-- how many bytes a reader has left -/
def rlen (w : World) (r : Nat) : Nat := match w.cell? ⟨r, 0, none⟩ with | some (.slice _ n _) => n | _ => 0
theorem rlen_of {w : World} {r : Nat} {q : List UInt8} {bad : Bool} (h : Rdr w r q bad) : rlen w r = q.length := by
  obtain ⟨A, c, hk, _⟩ := h
  unfold rlen
  rw [hk.cell 0]
  rfl
theorem rd_none (n : Int) (h : 0 < n) : rok [] false n = false ∧ rget [] false n = [] ∧ rleft [] false n = [] := by
  have h1 : rok [] false n = false := by
    rw [Bool.eq_false_iff, Ne, rok_iff]
    rintro ⟨_, _, h2⟩
    simp at h2
    omega
  unfold rget rleft
  rw [h1]
  exact ⟨rfl, rfl, rfl⟩
theorem rd_zero_bad (n : Int) : rok [] true n = false ∧ rget [] true n = [] ∧ rleft [] true n = [] := by
  have h1 : rok [] true n = false := rfl
  unfold rget rleft
  rw [h1]
  exact ⟨rfl, rfl, rfl⟩
theorem rd_over (t : List UInt8) (n : Nat) (h : t.length < n) : rok t false n = false ∧ rget t false n = [] ∧ rleft t false n = [] := by
  have h1 : rok t false n = false := by
    rw [Bool.eq_false_iff, Ne, rok_iff]
    rintro ⟨_, _, h2⟩
    omega
  unfold rget rleft
  rw [h1]
  exact ⟨rfl, rfl, rfl⟩
theorem rd_in (t : List UInt8) (n : Nat) (h : n ≤ t.length) : rok t false n = true ∧ rget t false n = t.take n ∧ rleft t false n = t.drop n := by
  have h1 : rok t false n = true := by rw [rok_iff]; exact ⟨rfl, by omega, by omega⟩
  unfold rget rleft
  rw [if_pos h1, if_pos h1]
  exact ⟨h1, rfl, rfl⟩
theorem num_one (c : UInt8) : num [c] = c.toNat := by simp [num]

/-- what holds at the loop's head -/
structure CapJ (R p : Nat) (l : List UInt8) (s : Nat × Bool) (h i s0 : Int) (w : World) (q : List UInt8) (bb : Bool) (a : Nat) (f : Bool) (sb : Int) (bd : Bool) (wr : World) : Prop where
  rdr : Rdr wr p q bb
  ord : Ord wr R a h i f sb bd
  chg : Chg2 R p w wr
  good : bd = false → bb = false ∧ sb = s0 ∧ capAll l s = capAll q (a, f)
  bad : bd = true → sb = 0 ∧ capAll l s = none
  len : q.length ≤ l.length

/-- what capabilities leaves -/
def CapPost (R p : Nat) (l : List UInt8) (s : Nat × Bool) (h i s0 : Int) (w : World) (w' : World) : Prop :=
  ∃ q bb a f sb bd, Rdr w' p q bb ∧ Ord w' R (a : Nat) h i f sb bd ∧ Chg2 R p w w' ∧ (bd = false → capAll l s = some (a, f) ∧ sb = s0) ∧ (bd = true → capAll l s = none ∧ sb = 0)

set_option maxRecDepth 100000 in
set_option maxHeartbeats 800000 in
theorem caps_any (R p : Nat) (l : List UInt8) (s : Nat × Bool) (h i s0 : Int) (w : World) (hRp : R < p) (hk : Ord w R s.1 h i s.2 s0 false) (hr : Rdr w p l false) (hl : l.length ≤ 549755813888) :
    Calls Try.prog 91 #[.pointer (some ⟨R, 0, none⟩), .pointer (some ⟨p, 0, none⟩)] w fun e w' => e = .returned (.tuple #[]) ∧ CapPost R p l s h i s0 w w' := by
  have HJ0 : Hid (CapJ R p l s h i s0 w l false s.1 s.2 s0 false w) := ⟨hr, hk, Chg2.refl _ _ _, fun _ => ⟨rfl, rfl, rfl⟩, fun e => (by cases e), Nat.le_refl _⟩
  clear hk hr
  go_enter Try.func91, Try.ntmps91
  go_wp2_with fail
  go_loopw [4, 5, 6, 7] (fun _ _ _ _ wr => ∃ q bb a f sb bd, CapJ R p l s h i s0 w q bb a f sb bd wr) (fun _ _ _ _ wr => rlen wr p)
  case atStart => exact ⟨_, _, _, _, _, _, HJ0.out⟩
  case round =>
    obtain ⟨q, bb, a, f, sb, bd, hJ⟩ := hrel
    have HJ := Lib.hid hJ
    have hlen : q.length ≤ 549755813888 := Nat.le_trans hJ.len hl
    have z5 := hJ.ord.cell 5
    simp [oc] at z5
    clear hJ HJ0
    rcases q with _ | ⟨c, t0⟩
    · have HL := Lib.hid (Left_any p [] bb wr HJ.out.rdr)
      have HF : Hid (CapPost R p l s h i s0 w wr) := ⟨[], bb, a, f, sb, bd, HJ.out.rdr, HJ.out.ord, HJ.out.chg, fun e => by obtain ⟨_, h1, h2⟩ := HJ.out.good e; exact ⟨by rw [h2, capAll_nil], h1⟩, fun e => by obtain ⟨h1, h2⟩ := HJ.out.bad e; exact ⟨h2, h1⟩⟩
      go_wp2_with fail
      refine HL.out.mono ?_; rintro e w' ⟨rfl, rfl⟩
      go_wp2_with fail
      go_end0
      exact ⟨rfl, HF.out⟩
    · have HL := Lib.hid (Left_any p (c :: t0) bb wr HJ.out.rdr)
      have h0 : 0 < ((c :: t0).length : Int) := by simp
      cases bd
      · -- a round
        obtain ⟨rfl, hsb, hcap⟩ := HJ.out.good rfl
        have Hcap := Lib.hid hcap
        have Hsb := Lib.hid hsb
        have HR := Lib.hid HJ.out.rdr
        have HK := Lib.hid HJ.out.ord
        clear hcap hsb
        have hu := u8_any p (c :: t0) false wr HR.out
        obtain ⟨e1, e2, e3⟩ := rd_app [c] t0 1 rfl
        simp only [List.cons_append, List.nil_append] at e1 e2 e3
        rw [e1, e2, e3, num_one] at hu
        have HU := Lib.hid hu
        have hRp' : R ≠ p := by omega
        have Hne : Hid (some R ≠ some p) := by intro e; injection e with e; omega
        clear hu e1 e2 e3
        go_wp2_with fail
        refine HL.out.mono ?_; rintro e w' ⟨rfl, rfl⟩
        go_wp2_with fail
        refine HU.out.mono ?_; rintro e w1 ⟨rfl, hr1, hg1⟩
        have HR1 := Lib.hid hr1
        have HK1 : Hid (Ord w1 R a h i f sb false) := HK.out.grown hg1 Hne.out
        have HC1 : Hid (Chg2 R p wr w1) := Chg2.snd hg1
        clear hr1 hg1 HU HL
        rcases t0 with _ | ⟨n, t⟩
        · -- one byte alone
          have hu2 := u8_any p [] false w1 HR1.out
          obtain ⟨e1, e2, e3⟩ := rd_none 1 (by omega)
          rw [e1, e2, e3] at hu2
          have HU2 := Lib.hid hu2
          clear hu2 e1 e2 e3
          go_wp2_with fail
          refine HU2.out.mono ?_; rintro e w2 ⟨rfl, hr2, hg2⟩
          have hp := Part_any p [] true 0 w2 (by simp) hr2
          obtain ⟨e1, e2, e3⟩ := rd_zero_bad 0
          rw [e1, e2, e3] at hp
          have HP := Lib.hid hp
          have HK2 : Hid (Ord w2 R a h i f sb false) := HK1.out.grown hg2 Hne.out
          have HC2 := Lib.hid (HC1.out.trans (Chg2.snd hg2))
          clear hp e1 e2 e3 hr2 hg2 HU2
          go_wp2_with fail
          refine HP.out.mono ?_; rintro e w3 ⟨⟨pc, rfl, hpc, hnew⟩, hr3, hg3⟩
          have HK3 : Hid (Ord w3 R a h i f sb false) := HK2.out.grown hg3 Hne.out
          have HC3 := Lib.hid (HC2.out.trans (Chg2.snd hg3))
          have HR3 := Lib.hid hr3
          have HB := Lib.hid (Bad_any p [] true w3 hr3)
          clear hr3 hg3 hnew HP
          go_wp2_with fail
          refine HB.out.mono ?_; rintro e w' ⟨rfl, rfl⟩
          go_wp2_with fail
          refine (spoil_any R a h i f _ _ _ _ _ (by exact HK3.out)).mono ?_; rintro e w4 ⟨rfl, hk4, hg4⟩
          have hk4' : Ord w4 R a h i f 0 true := by simpa using hk4
          have HJ4 : Hid (CapJ R p l s h i s0 w [] true a f 0 true w4) :=
            ⟨rdr_chg1 HR3.out hg4 (Ne.symm hRp') HK3.out (oc_no _ _ _ _ _ _), hk4', (HJ.out.chg.trans HC3.out).trans (Chg2.fst hg4), (fun e => by cases e), fun _ => ⟨rfl, by rw [Hcap.out, capAll_one]⟩, by simp⟩
          have Hfin : Hid (rlen w4 p < rlen wr p) := by rw [Hid, rlen_of HJ4.out.rdr, rlen_of HJ.out.rdr]; simp
          clear hk4 hk4' hg4
          go_wp2_with fail
          go_roundw
          case rel => exact ⟨_, _, _, _, _, _, HJ4.out⟩
          case measure => exact Hfin.out
        · have hu2 := u8_any p (n :: t) false w1 HR1.out
          obtain ⟨e1, e2, e3⟩ := rd_app [n] t 1 rfl
          simp only [List.cons_append, List.nil_append] at e1 e2 e3
          rw [e1, e2, e3, num_one] at hu2
          have HU2 := Lib.hid hu2
          simp only [List.length_cons] at hlen
          clear hu2 e1 e2 e3
          go_wp2_with fail
          refine HU2.out.mono ?_; rintro e w2 ⟨rfl, hr2, hg2⟩
          have hp := Part_any p t false n.toNat w2 (by omega) hr2
          have HK2 : Hid (Ord w2 R a h i f sb false) := HK1.out.grown hg2 Hne.out
          have HC2 := Lib.hid (HC1.out.trans (Chg2.snd hg2))
          have hwz : wr.heap.size ≤ w2.heap.size := HC2.out.size
          have hplt : p < w2.heap.size := hr2.lt
          clear hr2 hg2 HU2
          by_cases hn : n.toNat ≤ t.length
          · obtain ⟨e1, e2, e3⟩ := rd_in t n.toNat hn
            rw [e1, e2, e3] at hp
            have HP := Lib.hid hp
            clear hp e1 e2 e3
            go_wp2_with fail
            refine HP.out.mono ?_; rintro e w3 ⟨⟨pc, rfl, hpc, hnew⟩, hr3, hg3⟩
            have HK3 : Hid (Ord w3 R a h i f sb false) := HK2.out.grown hg3 Hne.out
            have HC3 := Lib.hid (HC2.out.trans (Chg2.snd hg3))
            have HR3 := Lib.hid hr3
            have hz3 : w2.heap.size ≤ w3.heap.size := hg3.size
            have HN3 := Lib.hid hnew
            have HB := Lib.hid (Bad_any p _ _ w3 hr3)
            clear hr3 hg3 hnew HP
            go_wp2_with fail
            refine HB.out.mono ?_; rintro e w' ⟨rfl, rfl⟩
            go_wp2_with fail
            refine (spoil_any R a h i f _ _ _ _ _ (by exact HK3.out)).mono ?_; rintro e w4 ⟨rfl, hk4, hg4⟩
            have hk4' : Ord w4 R a h i f sb false := by simpa using hk4
            have HK4 := Lib.hid hk4'
            have HR4 : Hid (Rdr w4 p (t.drop n.toNat) false) := rdr_chg1 HR3.out hg4 (Ne.symm hRp') HK3.out (oc_no _ _ _ _ _ _)
            have hpR : pc ≠ R := by omega
            have HN4 : Hid (Rdr w4 pc (t.take n.toNat) false) := rdr_chg1 HN3.out hg4 hpR HK3.out (oc_no _ _ _ _ _ _)
            have HC4 := Lib.hid ((HJ.out.chg.trans HC3.out).trans (Chg2.fst hg4))
            have hz4 : w2.heap.size ≤ w4.heap.size := Nat.le_trans hz3 hg4.size
            clear hk4 hk4' hg4
            have hdl : (t.drop n.toNat).length ≤ l.length := by have := HJ.out.len; simp at this ⊢; omega
            by_cases hc : c.toNat = 65
            · have d1 : ((c.toNat : Int) != 65) = false := by simp; omega
              have hlf := Left_any pc (t.take n.toNat) false w4 HN4.out
              rw [List.length_take, Nat.min_eq_left hn] at hlf
              have HLf := Lib.hid hlf
              have hu3 := u32_any pc (t.take n.toNat) false w4 HN4.out
              have hNl := number_lt (t.take n.toNat) false 4 (by omega)
              have Hgood := fun h1 h2 => Lib.hid (capAll_four c n t (a, f) hn hc h1 h2)
              have Hbad := fun h1 => Lib.hid (capAll_bad c n t (a, f) hn hc h1)
              clear hlf
              by_cases hn4 : n.toNat = 4
              · have d2 : ((n.toNat : Int) != 4) = false := by simp; omega
                rw [hn4] at hu3 hNl Hgood Hbad HN4 hdl HR4 hn HLf
                obtain ⟨e1, e2, e3⟩ := rd_in (t.take 4) 4 (by simp; omega)
                have e4 : (t.take 4).take 4 = t.take 4 := by rw [List.take_take]; rfl
                rw [e4] at e2
                simp only [show ((4 : Nat) : Int) = 4 from rfl] at e1 e2 e3 hNl
                rw [e2] at hu3 hNl
                obtain ⟨N, hN⟩ : ∃ N, num (t.take 4) = N := ⟨_, rfl⟩
                rw [hN] at hu3 hNl Hgood Hbad
                have HU3 := Lib.hid hu3
                have Hn4 := Lib.hid hn4
                clear hu3 e1 e2 e3 e4 hN hn4
                by_cases hN0 : N = 0
                · subst hN0
                  have HBad := Hbad (by simp)
                  have d3 : (((0 : Nat) : Int) == 0) = true := rfl
                  clear Hgood Hbad
                  go_wp2_with fail
                  refine HLf.out.mono ?_; rintro e w' ⟨rfl, rfl⟩
                  go_wp2_with fail
                  refine HU3.out.mono ?_; rintro e w5 ⟨rfl, hr5, hg5⟩
                  have hR5 : Hid (some R ≠ some pc) := by intro e; injection e with e; omega
                  have HK5 : Hid (Ord w5 R a h i f sb false) := HK4.out.grown hg5 hR5.out
                  have HR5 := Lib.hid (HR4.out.grown hg5 (by omega))
                  have hlw : w.heap.size ≤ wr.heap.size := HJ.out.chg.size
                  have HC5 := Lib.hid (HC4.out.then_ (Chg2.snd hg5) (by omega))
                  clear hr5 hg5
                  go_wp2_with fail
                  refine (spoil_any R a h i f _ _ _ _ _ (by exact HK5.out)).mono ?_; rintro e w6 ⟨rfl, hk6, hg6⟩
                  have hk6' : Ord w6 R a h i f 0 true := by simpa using hk6
                  have HJ9 : Hid (CapJ R p l s h i s0 w (t.drop 4) false a f 0 true w6) :=
                    ⟨rdr_chg1 HR5.out hg6 (Ne.symm hRp') HK5.out (oc_no _ _ _ _ _ _), hk6', HC5.out.trans (Chg2.fst hg6), (fun e => by cases e), fun _ => ⟨rfl, by rw [Hcap.out, HBad.out]⟩, hdl⟩
                  clear hk6 hk6' hg6
                  have Hfin : Hid (rlen w6 p < rlen wr p) := by rw [Hid, rlen_of HJ9.out.rdr, rlen_of HJ.out.rdr]; simp <;> omega
                  go_wp2_with fail
                  go_roundw
                  case rel => exact ⟨_, _, _, _, _, _, HJ9.out⟩
                  case measure => exact Hfin.out
                · have d3 : ((N : Int) == 0) = false := by simp; omega
                  have HGood := Hgood rfl hN0
                  clear Hgood Hbad
                  go_wp2_with fail
                  refine HLf.out.mono ?_; rintro e w' ⟨rfl, rfl⟩
                  go_wp2_with fail
                  refine HU3.out.mono ?_; rintro e w5 ⟨rfl, hr5, hg5⟩
                  have hR5 : Hid (some R ≠ some pc) := by intro e; injection e with e; omega
                  have HK5 : Hid (Ord w5 R a h i f sb false) := HK4.out.grown hg5 hR5.out
                  have HR5 := Lib.hid (HR4.out.grown hg5 (by omega))
                  have hlw : w.heap.size ≤ wr.heap.size := HJ.out.chg.size
                  have HC5 := Lib.hid (HC4.out.then_ (Chg2.snd hg5) (by omega))
                  clear hr5 hg5
                  go_wp2_with fail
                  refine (spoil_any R a h i f _ _ _ _ _ (by exact HK5.out)).mono ?_; rintro e w6 ⟨rfl, hk6, hg6⟩
                  have hk6' : Ord w6 R a h i f sb false := by simpa using hk6
                  have z0 := hk6'.cell 0
                  have z3 := hk6'.cell 3
                  have y0 := hk6'.free 0
                  have y3 := hk6'.free 3
                  simp [oc] at z0 z3
                  have hs6 := grown_setCell (grown_setCell (World.grownBy.refl w6 (some R)) (p := ⟨R, 0, none⟩) (.inl rfl) (.int .u32 (N : Int))) (p := ⟨R, 3, none⟩) (.inl rfl) (.bool true)
                  have hk7 : Ord ((w6.setCell ⟨R, 0, none⟩ (.int .u32 (N : Int))).setCell ⟨R, 3, none⟩ (.bool true)) R N h i true sb false := by
                    have := (hk6'.put 0 (.int .u32 (N : Int))).put 3 (.bool true); simpa [oc, Ord] using this
                  have HJ9 : Hid (CapJ R p l s h i s0 w (t.drop 4) false N true sb false ((w6.setCell ⟨R, 0, none⟩ (.int .u32 (N : Int))).setCell ⟨R, 3, none⟩ (.bool true))) :=
                    ⟨rdr_chg1 (rdr_chg1 HR5.out hg6 (Ne.symm hRp') HK5.out (oc_no _ _ _ _ _ _)) hs6 (Ne.symm hRp') hk6' (oc_no _ _ _ _ _ _), hk7, (HC5.out.trans (Chg2.fst hg6)).trans (Chg2.fst hs6), fun _ => ⟨rfl, Hsb.out, by rw [Hcap.out, HGood.out]⟩, (fun e => by cases e), hdl⟩
                  have hRl6 := hk6'.lt
                  clear hk6 hk6' hg6 hs6 hk7
                  have Hfin : Hid (rlen ((w6.setCell ⟨R, 0, none⟩ (.int .u32 (N : Int))).setCell ⟨R, 3, none⟩ (.bool true)) p < rlen wr p) := by rw [Hid, rlen_of HJ9.out.rdr, rlen_of HJ.out.rdr]; simp <;> omega
                  go_wp2_with fail
                  go_roundw
                  case rel => exact ⟨_, _, _, _, _, _, HJ9.out⟩
                  case measure => exact Hfin.out
              · have d2 : ((n.toNat : Int) != 4) = true := by simp; omega
                have HBad := Hbad (fun h => hn4 h.1)
                generalize num (rget (t.take n.toNat) false 4) = N at *
                have HU3 := Lib.hid hu3
                clear Hgood Hbad hu3
                go_wp2_with fail
                refine HLf.out.mono ?_; rintro e w' ⟨rfl, rfl⟩
                go_wp2_with fail
                refine HU3.out.mono ?_; rintro e w5 ⟨rfl, hr5, hg5⟩
                have hR5 : Hid (some R ≠ some pc) := by intro e; injection e with e; omega
                have HK5 : Hid (Ord w5 R a h i f sb false) := HK4.out.grown hg5 hR5.out
                have HR5 := Lib.hid (HR4.out.grown hg5 (by omega))
                have hlw : w.heap.size ≤ wr.heap.size := HJ.out.chg.size
                have HC5 := Lib.hid (HC4.out.then_ (Chg2.snd hg5) (by omega))
                clear hr5 hg5
                go_wp2_with fail
                refine (spoil_any R a h i f _ _ _ _ _ (by exact HK5.out)).mono ?_; rintro e w6 ⟨rfl, hk6, hg6⟩
                have hk6' : Ord w6 R a h i f 0 true := by simpa using hk6
                have HJ9 : Hid (CapJ R p l s h i s0 w (t.drop n.toNat) false a f 0 true w6) :=
                  ⟨rdr_chg1 HR5.out hg6 (Ne.symm hRp') HK5.out (oc_no _ _ _ _ _ _), hk6', HC5.out.trans (Chg2.fst hg6), (fun e => by cases e), fun _ => ⟨rfl, by rw [Hcap.out, HBad.out]⟩, hdl⟩
                clear hk6 hk6' hg6
                have Hfin : Hid (rlen w6 p < rlen wr p) := by rw [Hid, rlen_of HJ9.out.rdr, rlen_of HJ.out.rdr]; simp <;> omega
                go_wp2_with fail
                go_roundw
                case rel => exact ⟨_, _, _, _, _, _, HJ9.out⟩
                case measure => exact Hfin.out
            · have d1 : ((c.toNat : Int) != 65) = true := by simp; omega
              have HJ9 : Hid (CapJ R p l s h i s0 w (t.drop n.toNat) false a f sb false w4) :=
                ⟨HR4.out, HK4.out, HC4.out, fun _ => ⟨rfl, Hsb.out, by rw [Hcap.out, capAll_skip c n t _ hn hc]⟩, (fun e => by cases e), hdl⟩
              have Hfin : Hid (rlen w4 p < rlen wr p) := by rw [Hid, rlen_of HJ9.out.rdr, rlen_of HJ.out.rdr]; simp <;> omega
              go_wp2_with fail
              go_roundw
              case rel => exact ⟨_, _, _, _, _, _, HJ9.out⟩
              case measure => exact Hfin.out
          · obtain ⟨e1, e2, e3⟩ := rd_over t n.toNat (by omega)
            rw [e1, e2, e3] at hp
            have HP := Lib.hid hp
            clear hp e1 e2 e3
            go_wp2_with fail
            refine HP.out.mono ?_; rintro e w3 ⟨⟨pc, rfl, hpc, hnew⟩, hr3, hg3⟩
            have HK3 : Hid (Ord w3 R a h i f sb false) := HK2.out.grown hg3 Hne.out
            have HC3 := Lib.hid (HC2.out.trans (Chg2.snd hg3))
            have HR3 := Lib.hid hr3
            have HB := Lib.hid (Bad_any p _ _ w3 hr3)
            clear hr3 hg3 hnew HP
            go_wp2_with fail
            refine HB.out.mono ?_; rintro e w' ⟨rfl, rfl⟩
            go_wp2_with fail
            refine (spoil_any R a h i f _ _ _ _ _ (by exact HK3.out)).mono ?_; rintro e w4 ⟨rfl, hk4, hg4⟩
            have hk4' : Ord w4 R a h i f 0 true := by simpa using hk4
            have HJ9 : Hid (CapJ R p l s h i s0 w [] true a f 0 true w4) :=
              ⟨rdr_chg1 HR3.out hg4 (Ne.symm hRp') HK3.out (oc_no _ _ _ _ _ _), hk4', (HJ.out.chg.trans HC3.out).trans (Chg2.fst hg4), (fun e => by cases e), fun _ => ⟨rfl, by rw [Hcap.out, capAll_short c n t _ (by omega)]⟩, by simp⟩
            clear hk4 hk4' hg4
            have Hfin : Hid (rlen w4 p < rlen wr p) := by rw [Hid, rlen_of HJ9.out.rdr, rlen_of HJ.out.rdr]; simp <;> omega
            go_wp2_with fail
            go_roundw
            case rel => exact ⟨_, _, _, _, _, _, HJ9.out⟩
            case measure => exact Hfin.out
      · -- it was bad
        have HF : Hid (CapPost R p l s h i s0 w wr) := ⟨_, bb, a, f, sb, true, HJ.out.rdr, HJ.out.ord, HJ.out.chg, (fun e => by cases e), fun e => by obtain ⟨h1, h2⟩ := HJ.out.bad e; exact ⟨h2, h1⟩⟩
        go_wp2_with fail
        refine HL.out.mono ?_; rintro e w' ⟨rfl, rfl⟩
        go_wp2_with fail
        go_end0
        exact ⟨rfl, HF.out⟩
end Go.Proofs.Ytajilbapjpfloaa.openk
