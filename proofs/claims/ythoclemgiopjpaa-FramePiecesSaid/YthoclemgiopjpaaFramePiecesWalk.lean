/- The walk of the law FramePieces: the Go text returns true and writes nothing that was there. No condition. -/
import Derived.Test.YthoclemgiopjpaaFrameSame
import Derived.Test.YthoclemgiopjpaaTold
import Derived.Test.YthoclemgiopjpaaBodies
namespace Go.Proofs.Ythoclemgiopjpaa.framePieces
open Go.RowKit Go.Proofs.Ythoclemgiopjpaa.kit Go.Proofs.Ythoclemgiopjpaa.mem Go.Proofs.Ythoclemgiopjpaa.foot Go.Proofs.Ythoclemgiopjpaa.octet Go.Proofs.Ythoclemgiopjpaa.frame Go.Proofs.Ythoclemgiopjpaa.told
set_option linter.unusedVariables false
set_option linter.unusedSimpArgs false

theorem feed_code : ∀ (k : Nat) (s : List UInt8), s.length ≤ k → ∀ t, (feed s).2.2 = some t → t.1 ≠ 0
  | 0, s, h, t, ht => by
    have : s = [] := List.eq_nil_of_length_eq_zero (by omega)
    subst this
    cases ht
  | k + 1, s, h, t, ht => by
    rcases e : nextF s with _ | n | ⟨kind, body, rest⟩
    · rw [feed_wait e] at ht; cases ht
    · rw [feed_bad e] at ht
      cases ht
      unfold nextF at e
      split at e
      · cases e
      · split at e
        · rename_i h2; cases e; exact h2
        · split at e <;> cases e
    · have h1 := nextF_got e
      rw [feed_got e] at ht
      exact feed_code k rest (by omega) t ht
/-- the code tells whether a head may not be -/
theorem code_some (s : List UInt8) : ((ntOf (feed s).2.2).1 != 0) = (feed s).2.2.isSome := by
  rcases e : (feed s).2.2 with _ | t
  · rfl
  · have := feed_code s.length s (Nat.le_refl _) t e
    simp only [ntOf, Option.isSome_some]
    rw [bne_iff_ne]; exact this

/-- a stream, all that was fed, and what was told, each in memory of its own -/
structure FS (W : World) (x left : List UInt8) (outs : List (Nat × List UInt8)) (br : Bool) (F : Foot) (s : Nat) (Aa : Option Addr) (ca : Nat) (At : Option Addr) (ct : Nat) (vs : List Value) (wr : World) : Prop where
  st : St wr F s left br
  own : Own wr 5 1 Aa x.length ca (bv x)
  two : Own wr 77 2 At outs.length ct vs
  all : rAll rFr wr (fun k => ¬ F k ∧ ¬ sf Aa k ∧ ¬ sf At k) vs (frs outs)
  fl : ∀ k, F k → W.heap.size ≤ k
  al : ∀ k, sf Aa k → W.heap.size ≤ k ∧ ¬ F k
  tl : ∀ k, sf At k → W.heap.size ≤ k ∧ ¬ F k ∧ ¬ sf Aa k
  bel : Below W.heap.size W wr
section
variable {W wr w' w3 : World} {x left b : List UInt8} {outs more : List (Nat × List UInt8)} {br br' : Bool} {F : Foot} {s : Nat} {Aa : Option Addr} {ca : Nat} {At : Option Addr} {ct : Nat} {vs vs2 : List Value}
theorem FS.mono (h : FS W x left outs br F s Aa ca At ct vs wr) (hb : Below wr.heap.size wr w') : FS W x left outs br F s Aa ca At ct vs w' :=
  ⟨h.st.bel hb, h.own.bel hb, h.two.bel hb, h.all.chg keeps_fr (F := fun _ => False) (Chg.of_below hb _) (fun _ _ _ e => e), h.fl, h.al, h.tl, h.bel.trans (hb.mono h.bel.size)⟩
theorem FS.fed {F' : Foot} {left' : List UInt8} (h : FS W x left outs br F s Aa ca At ct vs wr) (hst : St w' F' s left' br') (hc : Chg F wr w') (hf : Fresh wr F F') : FS W x left' outs br' F' s Aa ca At ct vs w' := by
  refine ⟨hst, h.own.chg hc fun k _ hk => (h.al k hk).2, h.two.chg hc fun k _ hk => (h.tl k hk).2.1, ?_, hf.low h.fl h.bel.size, fun k hk => ⟨(h.al k hk).1, hf.apart (h.own.lt k hk) (h.al k hk).2⟩,
    fun k hk => ⟨(h.tl k hk).1, hf.apart (h.two.lt k hk) (h.tl k hk).2.1, (h.tl k hk).2.2⟩, h.bel.trans (hc.below h.fl h.bel.size)⟩
  have h1 := h.all.mono keeps_fr (H := fun k => k < wr.heap.size ∧ ¬ F k ∧ ¬ sf Aa k ∧ ¬ sf At k) fun k hk hx => ⟨hk, hx⟩
  exact (h1.chg keeps_fr hc fun k _ hk => hk.2.1).mono keeps_fr fun k _ hk => ⟨hf.apart hk.1 hk.2.1, hk.2.2⟩
theorem FS.app_all {A' : Option Addr} {c' : Nat} (h : FS W x left outs br F s Aa ca At ct vs wr) (ho : Own w' 5 1 A' (x.length + b.length) c' (bv x ++ bv b)) (hc : Chg (sf Aa) wr w') (hf : Fresh wr (sf Aa) (sf A')) :
    FS W (x ++ b) left outs br F s A' c' At ct vs w' := by
  refine ⟨h.st.chg hc fun k hk e => (h.al k e).2 hk, by rw [List.length_append, bv_app]; exact ho, h.two.chg hc fun k _ hk e => (h.tl k hk).2.2 e, ?_, h.fl, fun k hk => ?_, fun k hk => ⟨(h.tl k hk).1, (h.tl k hk).2.1, hf.apart (h.two.lt k hk) (h.tl k hk).2.2⟩, h.bel.trans (hc.below (fun k hk => (h.al k hk).1) h.bel.size)⟩
  · have h1 := h.all.mono keeps_fr (H := fun k => k < wr.heap.size ∧ ¬ F k ∧ ¬ sf Aa k ∧ ¬ sf At k) fun k hk hx => ⟨hk, hx⟩
    exact (h1.chg keeps_fr hc fun k _ hk => hk.2.2.1).mono keeps_fr fun k _ hk => ⟨hk.2.1, hf.apart hk.1 hk.2.2.1, hk.2.2.2⟩
  · rcases hf k hk with e | e
    · exact h.al k e
    · exact ⟨Nat.le_trans h.bel.size e, fun e2 => by have := h.st.lt k e2; omega⟩
theorem FS.app_told {A' : Option Addr} {c' : Nat} (h : FS W x left outs br F s Aa ca At ct vs wr) (hm : rAll rFr wr (fun k => ¬ F k ∧ ¬ sf Aa k ∧ ¬ sf At k) vs2 (frs more)) (ho : Own w' 77 2 A' (outs.length + more.length) c' (vs ++ vs2)) (hc : Chg (sf At) wr w') (hf : Fresh wr (sf At) (sf A')) :
    FS W x left (outs ++ more) br F s Aa ca A' c' (vs ++ vs2) w' := by
  refine ⟨h.st.chg hc fun k hk e => (h.tl k e).2.1 hk, h.own.chg hc fun k _ hk e => (h.tl k e).2.2 hk, by rw [List.length_append]; exact ho, ?_, h.fl, h.al, fun k hk => ?_, h.bel.trans (hc.below (fun k hk => (h.tl k hk).1) h.bel.size)⟩
  · rw [frs_app]
    have h1 := (rAll.app h.all hm).mono keeps_fr (H := fun k => k < wr.heap.size ∧ ¬ F k ∧ ¬ sf Aa k ∧ ¬ sf At k) fun k hk hx => ⟨hk, hx⟩
    exact (h1.chg keeps_fr hc fun k _ hk => hk.2.2.2).mono keeps_fr fun k _ hk => ⟨hk.2.1, hk.2.2.1, hf.apart hk.1 hk.2.2.2⟩
  · rcases hf k hk with e | e
    · exact h.tl k e
    · exact ⟨Nat.le_trans h.bel.size e, fun e2 => by have := h.st.lt k e2; omega, fun e2 => by have := h.own.lt k e2; omega⟩
theorem FS.els (h : FS W x left outs br F s Aa ca At ct vs wr) : Els 2 rFr wr (fun _ => True) At (frs outs) :=
  ⟨vs, by rw [frs_len]; exact h.two.rg.mono fun _ _ _ => trivial, h.all.mono keeps_fr fun _ _ _ => trivial⟩
end

set_option maxRecDepth 100000 in
set_option maxHeartbeats 4000000 in
theorem core (A : Option Addr) (c : Nat) (l : List (List UInt8)) (W : World) (hl : l.length ≤ maxLen) (hs : Ls W (fun _ => True) A l) :
    Calls Try.prog 8 #[.slice A l.length c] W fun e w' => e = .returned (.bool true) ∧ Below W.heap.size W w' := by
  unfold maxLen at hl
  have HN := Lib.hid (New_any' W)
  have HS := Lib.hid hs
  obtain ⟨i0, hi, hz0, hz1, hz2⟩ := info_parts info_u8
  have Hi := Lib.hid hi
  have Hz0 := Lib.hid hz0
  have Hz1 := Lib.hid hz1
  have Hz2 := Lib.hid hz2
  obtain ⟨j0, hj, hy0, hy1, hy2⟩ := info_parts info_fr
  have Hj := Lib.hid hj
  have Hy0 := Lib.hid hy0
  have Hy1 := Lib.hid hy1
  have Hy2 := Lib.hid hy2
  clear hs hi hz0 hz1 hz2 hj hy0 hy1 hy2
  go_enter Try.func8, Try.ntmps8
  go_wp2_with fail
  refine HN.out.mono ?_; rintro e w1 ⟨s, F, rfl, hq, hF, hb⟩
  have HJ : Hid (FS W [] [] [] false F s (some ⟨w1.heap.size, 0, none⟩) 0 (some ⟨w1.heap.size + 1, 0, none⟩) 0 [] ((w1.alloc (.cells #[] 5)).alloc (.cells #[] 77))) := by
    have h1 : Below w1.heap.size w1 ((w1.alloc (.cells #[] 5)).alloc (.cells #[] 77)) := ((Below.refl _ _).alloc (Nat.le_refl _) _).alloc (by simp) _
    have h2 := Own.made w1 5 1 0 0 #[] [] (Nat.le_refl _) (Nat.zero_le _) rfl rfl rfl
    have h3 := Own.made (w1.alloc (.cells #[] 5)) 77 2 0 0 #[] [] (Nat.le_refl _) (Nat.zero_le _) rfl rfl rfl
    refine ⟨hq.bel h1, h2.bel ((Below.refl _ _).alloc (Nat.le_refl _) _), by simpa using h3, rfl, hF, fun k hk => ?_, fun k hk => ?_, hb.trans (h1.mono hb.size)⟩
    · rw [sf_some] at hk
      have e : w1.heap.size = k := hk
      exact ⟨e ▸ hb.size, fun e2 => by have := hq.lt k e2; omega⟩
    · rw [sf_some] at hk
      have e : w1.heap.size + 1 = k := hk
      have := hb.size
      exact ⟨by omega, fun e2 => by have := hq.lt k e2; omega, fun e2 => by rw [sf_some] at e2; have e3 : w1.heap.size = k := e2; omega⟩
  clear hq hF hb HN
  go_wp2_with fail
  go_loopw [4, 5, 6, 7, 8, 9, 10, 11, 12, 13, 14] (fun va vt vb i _ _ _ _ _ _ _ wr => ∃ (k : Nat) (x left : List UInt8) (outs : List (Nat × List UInt8)) (br : Bool) (F : Foot) (Aa : Option Addr) (ca : Nat) (At : Option Addr) (ct : Nat) (vs : List Value), k ≤ 25 ∧ k ≤ l.length ∧ i = .int .i64 k ∧ va = .slice Aa x.length ca ∧ vt = .slice At outs.length ct ∧ vb = .bool br ∧ x.length ≤ 300 * k ∧ (br = false → feed x = (outs, left, none)) ∧ (br = true → left = []) ∧ FS W x left outs br F s Aa ca At ct vs wr) (fun _ _ _ i _ _ _ _ _ _ _ _ => 25 - (intOf i).toNat)
  case atStart => exact ⟨0, [], [], [], false, F, _, _, _, _, [], by omega, by omega, rfl, rfl, rfl, rfl, by simp, fun _ => rfl, (fun h => by cases h), HJ.out⟩
  case round =>
    obtain ⟨k, x, left, outs, br, F, Aa, ca, At, ct, vs, hk, hkl, rfl, rfl, rfl, rfl, hin, hnb, hbr, hJ⟩ := hrel
    clear HJ
    have HNB := Lib.hid hnb
    have HBR := Lib.hid hbr
    have HJ := Lib.hid hJ
    clear hJ hnb hbr
    by_cases hlt : k < l.length ∧ k < 25
    · obtain ⟨hlt, hlt2⟩ := hlt
      obtain ⟨bb, off, Ak, ck, rfl, _, _, hcell, hAk, hck, hcm, hrk⟩ := Ls.at_ (HS.out.bel HJ.out.bel) hlt
      have hB1 := Bytes_law Ak ck wr.heap.size l[k] 300 wr (.inr (by omega)) hck (Nat.le_trans hck hcm) hAk (Nat.le_refl _) hrk.rd
      generalize hb : l[k].take 300 = b at *
      have hbl : b.length ≤ 300 := by rw [← hb]; simp; omega
      have HB1 := Lib.hid hB1
      clear hB1 hrk hb hAk
      have d1 : decide ((k : Int) < (l.length : Int)) = true := by simp; omega
      go_wp2_with fail
      refine HB1.out.mono ?_; rintro e w1 ⟨A1, c1, rfl, hA1, hc1, hm1, hs1, hb1, hn1⟩
      have HJ1 := Lib.hid (HJ.out.mono hb1)
      have HR1 := Lib.hid hs1
      have HB2 := Lib.hid (Bytes_law A1 c1 w1.heap.size b 300 w1 (.inr (by omega)) hc1 (Nat.le_trans hc1 hm1) hA1 (Nat.le_refl _) hs1)
      have HA1 := Lib.hid hA1
      rw [List.take_of_length_le hbl] at HB2
      have HN1 : Hid (∀ ad, A1 = some ad → ¬ F ad.block) := fun ad e e2 => by have := hn1 ad e; have := HJ.out.st.lt _ e2; omega
      clear hA1 hc1 hm1 hs1 hb1 HB1 HJ hn1
      go_wp2_with fail
      refine HB2.out.mono ?_; rintro e w2 ⟨A2, c2, rfl, hA2, hc2, hm2, hs2, hb2, hn2⟩
      have HJ2 := Lib.hid (HJ1.out.mono hb2)
      have HR2 := Lib.hid ((Rd.below HR1.out hb2 (Nat.le_refl _)).more hb2.size)
      have HS2 := Lib.hid hs2
      have HA2 := Lib.hid hA2
      clear hA2 hc2 hm2 hs2 hb2 HB2 HJ1 HR1 hn2
      rcases br with _ | _
      · have hfe : feed x = (outs, left, none) := HNB.out rfl
        have hap := feed_app b x.length x (Nat.le_refl _) (by rw [hfe])
        have hlx : left.length ≤ x.length := by have h1 := (feed_left x).2.2; rw [hfe] at h1; have h2 : left.length + endOf x = x.length := h1; omega
        have hox : outs.length ≤ x.length := by have h1 := feed_count x; rw [hfe] at h1; exact h1
        rw [hfe] at hap
        have hyl := feed_count (left ++ b)
        rw [List.length_append] at hyl
        have HFe := Lib.hid (Feed_any (b := b) (A0 := A2) (c0 := c2) w2 (by omega) (by omega) HA2.out (Nat.le_refl _) HS2.out HJ2.out.st)
        have hcs := code_some (left ++ b)
        have hzl := (feed_left (x ++ b)).2.2
        rw [hap] at hzl
        have hcz := feed_count (x ++ b)
        generalize hy : feed (left ++ b) = y at *
        have HAp : Hid (feed (x ++ b) = (outs ++ y.1, y.2.1, y.2.2)) := hap
        have HCs := Lib.hid hcs
        have HZl : Hid (y.2.1.length + endOf (x ++ b) = x.length + b.length) := by have h1 : y.2.1.length + endOf (x ++ b) = (x ++ b).length := hzl; rw [List.length_append] at h1; exact h1
        clear hfe hap hcs hzl hy hcz HNB HBR
        go_wp2_with fail
        refine HFe.out.mono ?_; rintro e w3 ⟨A3, c3, A4, c4, rfl, f1, f2, f3, f4, F', f5, f6, f7, f8, f9⟩
        rw [Bool.false_or] at f5
        have hsz := f6.size
        have HJ3 := Lib.hid (HJ2.out.fed f5 f6 f7)
        have HR3 : Hid (Rg w3 (fun _ => True) 1 A1 b.length (bv b)) := ((Rg.of_rd (G := fun k => ¬ F k) HR2.out (Nat.le_refl _) HN1.out).chg f6 fun k _ hk => hk).mono fun _ _ _ => trivial
        have HE3 : Hid (Els 2 rFr w3 (fun k => ¬ F' k ∧ ¬ sf Aa k ∧ ¬ sf At k) A3 (frs y.1)) := f8.mono keeps_fr fun k _ hk => ⟨hk.2, fun e => by have := HJ2.out.own.lt k e; have := hk.1; omega, fun e => by have := HJ2.out.two.lt k e; have := hk.1; omega⟩
        have HA3 := Lib.hid f1
        have HN3 : Hid (Rg w3 (fun k => ¬ sf Aa k ∧ ¬ sf At k) 1 A4 (ntOf y.2.2).2.2.length (bv (ntOf y.2.2).2.2)) := Rg.of_rd f4.2.2.2.1 (Nat.le_refl _) fun ad e => ⟨fun e2 => by have := HJ2.out.own.lt _ e2; have := f4.2.2.2.2 ad e; omega, fun e2 => by have := HJ2.out.two.lt _ e2; have := f4.2.2.2.2 ad e; omega⟩
        clear f1 f2 f3 f4 f5 f6 f7 f8 f9 HFe HJ2 HR2 HS2 HA2 hsz
        generalize ht : ntOf y.2.2 = t at *
        obtain ⟨tc, ts, td⟩ := t
        have HTq := Lib.hid ht
        clear ht
        obtain ⟨w4, hw4⟩ : ∃ w4, w4 = w3.alloc (.cells #[.int .i64 tc, .int .i64 ts, .slice A4 td.length c4] 53) := ⟨_, rfl⟩
        have hb4 : Below w3.heap.size w3 w4 := by rw [hw4]; exact (Below.refl _ _).alloc (Nat.le_refl _) _
        have hk4 : Bk w4 w3.heap.size 53 #[.int .i64 tc, .int .i64 ts, .slice A4 td.length c4] := by rw [hw4]; exact Bk.new _ _ _
        have HX1 : Hid (∀ {A5 : Option Addr} {c5 : Nat} {w5 : World}, Own w5 5 1 A5 (x.length + b.length) c5 (bv x ++ bv b) → Chg (sf Aa) w4 w5 → Fresh w4 (sf Aa) (sf A5) →
            FS W (x ++ b) (frame.leftOf y) outs y.2.2.isSome F' s A5 c5 At ct vs w5 ∧ Els 2 rFr w5 (fun k => ¬ F' k ∧ ¬ sf A5 k ∧ ¬ sf At k) A3 (frs y.1) ∧ Bk w5 w3.heap.size 53 #[.int .i64 tc, .int .i64 ts, .slice A4 td.length c4] ∧ Rg w5 (fun k => ¬ sf At k) 1 A4 td.length (bv td) ∧ w3.heap.size < w5.heap.size ∧ ¬ sf At w3.heap.size) := fun {A5 c5 w5} ho hc hf => by
          have g4 := HJ3.out.mono hb4
          have e4 : Els 2 rFr w4 (fun k => k < w4.heap.size ∧ ¬ F' k ∧ ¬ sf Aa k ∧ ¬ sf At k) A3 (frs y.1) := (HE3.out.bel keeps_fr hb4).mono keeps_fr fun k hk hx => ⟨hk, hx⟩
          have k5 := hk4.chg hc (fun e => by have := HJ3.out.own.lt _ e; omega)
          exact ⟨g4.app_all ho hc hf, (e4.chg keeps_fr hc fun k _ hk => hk.2.2.1).mono keeps_fr fun k _ hk => ⟨hk.2.1, hf.apart hk.1 hk.2.2.1, hk.2.2.2⟩, k5, ((HN3.out.bel hb4).chg hc fun k _ hk => hk.1).mono fun k _ hk => hk.2, k5.lt, fun e => by have := HJ3.out.two.lt _ e; omega⟩
        have HO4 := Lib.hid (HJ3.out.mono hb4).own
        have HR4 := Lib.hid (HR3.out.bel hb4)
        rw [hw4] at HO4 HR4 HX1
        clear hk4 hb4 hw4 HJ3 HR3 HN3 HE3 w4
        have HA1n : Hid (A1 = none → c1 = 0) := HA1.out
        have hol1 : outs.length + y.1.length ≤ 100000 := by omega
        go_wp2_with (first
          | (at_builtin; refine wpList_app _ rfl (.tmp 59) (.tmp 60) _ rfl 5 i0 _ 1 1 Try.underlying23 Hi.out Hz0.out Hz1.out Hz2.out rfl (by omega) Aa x.length ca (bv x) rfl HO4.out _ A1 b.length c1 HA1n.out (bv b) rfl HR4.out (bv_one _) (by unfold maxLen; omega) (by omega) ?_; intro A5 c5 w5 ho5 hc5 hf5; obtain ⟨m1, m2, m3, m4, m5, m6⟩ := HX1.out ho5 hc5 hf5; have HO5 := Lib.hid m1.two; have HJ5 := Lib.hid m1; obtain ⟨vs2, m7, m8⟩ := m2; have m9 := m8.one keeps_fr; rw [frs_len] at m7; have HR5 := Lib.hid m7; have HA5 := Lib.hid m8; have HV5 := Lib.hid m9; have HK5 := Lib.hid m3; have HN5 := Lib.hid m4; have hlt5 := m5; have HM6 := Lib.hid m6; clear m1 m3 m4 m5 m6 m7 m8 m9 ho5 hc5 hf5)
          | (at_builtin; refine wpList_app _ rfl (.tmp 62) (.tmp 63) _ rfl 77 j0 _ 2 32 Try.underlying51 Hj.out Hy0.out Hy1.out Hy2.out rfl (by omega) At outs.length ct vs rfl HO5.out _ A3 y.1.length c3 HA3.out vs2 rfl HR5.out HV5.out (by unfold maxLen; omega) (by omega) ?_; intro A6 c6 w6 ho6 hc6 hf6; have HJ6 := Lib.hid (HJ5.out.app_told HA5.out ho6 hc6 hf6); have HK6 := Lib.hid (HK5.out.chg hc6 HM6.out); have HN6 := Lib.hid (HN5.out.chg hc6 fun k _ hk => hk); clear ho6 hc6 hf6))
        have hpi := Pieces_any A5 c5 w6.heap.size (x ++ b) w6 (by rw [List.length_append]; omega) HJ6.out.own.nil HJ6.out.own.cap HJ6.out.own.max (Nat.le_refl _) HJ6.out.own.rg.rd
        rw [List.length_append] at hpi
        refine hpi.mono ?_
        rintro e w7 hp
        unfold PiecesP at hp
        rw [HAp.out] at hp
        simp only [HTq.out] at hp
        obtain ⟨A7, c7, A8, c8, rfl, p1, p2, p3, p4, p5⟩ := hp
        have hk7 := HK6.out.below p5 HK6.out.lt
        have hn7 := HN6.out.bel p5
        have hb8 : Below w7.heap.size w7 (w7.alloc (.cells #[.int .i64 tc, .int .i64 ts, .slice A8 td.length c8] 53)) := (Below.refl _ _).alloc (Nat.le_refl _) _
        have hb68 := p5.trans (hb8.mono p5.size)
        have HJ8 := Lib.hid (HJ6.out.mono hb68)
        have hk8 := hk7.below hb8 hk7.lt
        have hk8b : Bk (w7.alloc (.cells #[.int .i64 tc, .int .i64 ts, .slice A8 td.length c8] 53)) w7.heap.size 53 #[.int .i64 tc, .int .i64 ts, .slice A8 td.length c8] := Bk.new _ _ _
        have hSa := same_yes A6 A7 c6 c7 (frs (outs ++ y.1)) _ _ _ (by rw [frs_len, List.length_append]; unfold maxLen; omega) HJ8.out.els (p4.bel keeps_fr hb8)
        rw [frs_len, List.length_append] at hSa
        have hAl : (outs ++ y.1).length = outs.length + y.1.length := List.length_append
        have HTo := Lib.hid (fun m => Told_yes tc ts td A4 A8 c4 c8 _ _ ((w7.alloc (.cells #[.int .i64 tc, .int .i64 ts, .slice A8 td.length c8] 53)).drewN m) (Nat.le_refl _) (Nat.le_refl _) ((hn7.bel hb8).rd.drewN m) (((p3.below hb8 (Nat.le_refl _)).more hb8.size).drewN m))
        have HSa := Lib.hid hSa
        have q0 := hk7.cell 0
        have q1 := hk7.cell 1
        have q2 := hk7.cell 2
        have hlt7 := hk7.lt
        simp at q0 q1 q2
        have hend : endOf (x ++ b) ≤ x.length + b.length := by have := HZl.out; omega
        rw [hAl]
        clear hpi p1 p2 p3 p4 p5 hk7 hn7 hb8 hb68 hk8 hk8b hSa hAl HJ5 HJ6 HK5 HK6 HN5 HN6
        generalize endOf (x ++ b) = ez at *
        have HLen8 : Hid ((frame.leftOf y).length = if y.2.2.isSome then 0 else y.2.1.length) := by
          unfold frame.leftOf Hid; split <;> rfl
        have hsub : ((x.length : Int) + (b.length : Int)) - (ez : Int) = (y.2.1.length : Int) := by have := HZl.out; omega
        have hezl : (ez : Int) ≤ (x.length : Int) + (b.length : Int) := by omega
        have HEq8 : Hid (y.2.2.isSome = false → feed (x ++ b) = (outs ++ y.1, frame.leftOf y, none)) := fun h => by
          rw [HAp.out]
          unfold frame.leftOf
          rw [if_neg (by rw [h]; simp)]
          rcases hh : y.2.2 with _ | t
          · rfl
          · rw [hh] at h; cases h
        have HLn8 : Hid (y.2.2.isSome = true → frame.leftOf y = []) := fun h => by unfold frame.leftOf; rw [if_pos h]
        generalize frame.leftOf y = left8 at *
        generalize y.2.1.length = nl at *
        rcases hsm : y.2.2.isSome with _ | _
        all_goals
          rw [hsm] at HJ8
          have dtc := HCs.out
          rw [hsm] at dtc
          have HWt : Hid (∀ w', Below (w7.alloc (.cells #[.int .i64 tc, .int .i64 ts, .slice A8 td.length c8] 53)).heap.size (w7.alloc (.cells #[.int .i64 tc, .int .i64 ts, .slice A8 td.length c8] 53)) w' → Calls Try.prog 33 #[.pointer (some ⟨s, 0, none⟩)] w' fun e w'' => e = .returned (.int .i64 (left8.length : Int)) ∧ w' = w'') := fun w' hb' => Waits_any w' (HJ8.out.st.bel hb')
          have HBk : Hid (∀ w', Below (w7.alloc (.cells #[.int .i64 tc, .int .i64 ts, .slice A8 td.length c8] 53)).heap.size (w7.alloc (.cells #[.int .i64 tc, .int .i64 ts, .slice A8 td.length c8] 53)) w' → Calls Try.prog 34 #[.pointer (some ⟨s, 0, none⟩)] w' fun e w'' => e = .returned (.bool _) ∧ w' = w'') := fun w' hb' => Broken_any w' (HJ8.out.st.bel hb')
          have hl8 := HLen8.out
          rw [hsm] at hl8
          simp only [if_true, if_false, Bool.false_eq_true] at hl8
          rw [hl8] at HWt
          clear hl8
          go_wp2_with fail
          refine HSa.out.mono ?_; rintro e w' ⟨rfl, m, rfl⟩
          go_wp2_with fail
          refine (HTo.out m).mono ?_; rintro e w9 ⟨rfl, hb9⟩
          have hb89 : Below (w7.alloc (.cells #[.int .i64 tc, .int .i64 ts, .slice A8 td.length c8] 53)).heap.size (w7.alloc (.cells #[.int .i64 tc, .int .i64 ts, .slice A8 td.length c8] 53)) w9 := ⟨hb9.os, hb9.tape, hb9.output, hb9.size, hb9.block⟩
          have HJ9 := Lib.hid (HJ8.out.mono hb89)
          have HW9 := Lib.hid (HWt.out _ hb89)
          have HB9 := Lib.hid (HBk.out _ hb89)
          have he := HEq8.out
          have hn := HLn8.out
          rw [hsm] at he hn
          have HE := Lib.hid he
          have HN := Lib.hid hn
          clear hb9 hb89 HSa HTo HJ8 HWt HBk HEq8 HLn8 he hn hsm
          go_wp2_with (first
            | (go_at_call 33; refine HW9.out.mono ?_; rintro e w' ⟨rfl, rfl⟩)
            | (go_at_call 34; refine HB9.out.mono ?_; rintro e w' ⟨rfl, rfl⟩))
          go_roundw
          case measure => simp [intOf]; omega
          case rel => exact ⟨k + 1, x ++ b, left8, outs ++ y.1, _, F', _, _, _, _, _, by omega, by omega, by go_num, by rw [List.length_append], by rw [List.length_append], rfl, by rw [List.length_append]; omega, (fun h => HE.out (by first | exact h | trivial | (cases h))), (fun h => HN.out (by first | exact h | trivial | (cases h))), HJ9.out⟩
      · have HFb := Lib.hid (Feed_broken (A := A2) (n := b.length) (c := c2) w2 HJ2.out.st)
        obtain rfl := HBR.out rfl
        go_wp2_with fail
        refine HFb.out.mono ?_; rintro e w3 ⟨rfl, hb3⟩
        have HJ3 := Lib.hid (HJ2.out.mono (hb3.alloc hb3.size (.cells #[.int .i64 0, .int .i64 0, .slice none 0 0] 53)))
        have HWt := Lib.hid (Waits_any _ HJ3.out.st)
        have HBk := Lib.hid (Broken_any _ HJ3.out.st)
        clear hb3 HFb HJ2
        go_wp2_with (first
          | (go_at_call 33; refine HWt.out.mono ?_; rintro e w' ⟨rfl, rfl⟩)
          | (go_at_call 34; refine HBk.out.mono ?_; rintro e w' ⟨rfl, rfl⟩))
        go_roundw
        case measure => simp [intOf]; omega
        case rel => exact ⟨k + 1, x, [], outs, true, F, _, _, _, _, _, by omega, by omega, by go_num, rfl, rfl, rfl, by omega, (fun h => by cases h), (fun _ => rfl), HJ3.out⟩
    · have hend : (k < l.length ∧ k = 25) ∨ k = l.length := by
        by_cases h : k < l.length
        · exact .inl ⟨h, by omega⟩
        · exact .inr (by omega)
      have HRs := Lib.hid (Reset_any wr HJ.out.st)
      rcases hend with ⟨d1, rfl⟩ | rfl
      all_goals
        go_wp2_with fail
        refine HRs.out.mono ?_; rintro e w5 ⟨rfl, hst5, hc5⟩
        have HB5 := Lib.hid (HJ.out.bel.trans (hc5.below HJ.out.fl HJ.out.bel.size))
        have HW5 := Lib.hid (Waits_any w5 hst5)
        have HK5 := Lib.hid (Broken_any w5 hst5)
        clear hst5 hc5 HRs
        go_wp2_with (first
          | (go_at_call 33; refine HW5.out.mono ?_; rintro e w' ⟨rfl, rfl⟩)
          | (go_at_call 34; refine HK5.out.mono ?_; rintro e w' ⟨rfl, rfl⟩)
          | (go_at_call 25; refine (lives_any _).mono ?_; rintro e w6 ⟨rfl, hb6⟩))
        go_ret
        exact ⟨by simp, HB5.out.trans (hb6.mono HB5.out.size)⟩

set_option maxRecDepth 100000 in
theorem walk {H : Type} {enc : TypeId × Value → H} {W : World} {base : Nat} {v0 : Value} {d0 : DataW H} {p0 : List MemPlace}
    (hv0 : Value.okWide Try.prog W .any base 22 v0) (h0 : DataW.Trod enc Try.prog W 0 (fun _ => true) true 22 v0 d0 p0) :
    Calls Try.prog 8 #[v0] W fun e w' => e = .returned (.bool true) ∧ Below W.heap.size W w' := by
  obtain ⟨A, c, l, rfl, hA, hcap, hm, hs⟩ := open_bodies Try.underlying22 Try.underlying23 Try.underlying5 (by kernel_rfl) (by kernel_rfl) hv0 h0
  exact core A c l W (by omega) hs
end Go.Proofs.Ythoclemgiopjpaa.framePieces
