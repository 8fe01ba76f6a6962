/- The walk of the law OutqPlays: the Go text returns true and writes nothing that was there. No condition. -/
import Derived.Test.YthoclemgiopjpaaOutqRef2
import Derived.Deep.DeepCutAuto
namespace Go.Proofs.Ythoclemgiopjpaa.outqPlays
open Go.RowKit Go.Proofs.Ythoclemgiopjpaa.kit Go.Proofs.Ythoclemgiopjpaa.mem Go.Proofs.Ythoclemgiopjpaa.foot Go.Proofs.Ythoclemgiopjpaa.octet Go.Proofs.Ythoclemgiopjpaa.outq
set_option linter.unusedVariables false
set_option linter.unusedSimpArgs false

def rAct : Rel (Int × Int × List UInt8) := rPair (rInt .i64) (rPair (rInt .i64) rBs)
theorem keeps_act : Keeps 3 rAct := keeps_pair (n := 1) (m := 2) (keeps_int _) (keeps_pair (n := 1) (m := 1) (keeps_int _) keeps_bs)
theorem act_at {w : World} {G : Foot} {A : Option Addr} {l : List (Int × Int × List UInt8)} (h : Els 3 rAct w G A l) {k : Nat} (hk : k < l.length) :
    ∃ b off Ab cb, A = some ⟨b, off, none⟩ ∧ b < w.heap.size ∧ w.cell? ⟨b, off + k * 3, none⟩ = some (.int .i64 l[k].1) ∧ w.cell? ⟨b, off + k * 3 + 1, none⟩ = some (.int .i64 l[k].2.1) ∧ (Lit.int .i64 l[k].2.1).wf = true ∧
      w.cell? ⟨b, off + k * 3 + 2, none⟩ = some (.slice Ab l[k].2.2.length cb) ∧ (Ab = none → cb = 0) ∧ l[k].2.2.length ≤ cb ∧ cb ≤ maxLen ∧ Rg w G 1 Ab l[k].2.2.length (bv l[k].2.2) := by
  obtain ⟨b, off, cs, e, _, hl, hr, hc⟩ := h.at_ keeps_act hk
  obtain ⟨c1, c2, rfl, ⟨rfl, _⟩, c3, c4, rfl, ⟨rfl, hw⟩, Ab, cb, rfl, h1, h2, h3, h4⟩ := hr
  exact ⟨b, off, Ab, cb, e, hl, hc 0 _ rfl, hc 1 _ rfl, hw, hc 2 _ rfl, h1, h2, h3, h4⟩

theorem Ls.pass {w w' : World} {F F' : Foot} {A : Option Addr} {l : List (List UInt8)} (h : Ls w (fun k => ¬ F k) A l) (hc : Chg F w w') (hf : Fresh w F F') : Ls w' (fun k => ¬ F' k) A l :=
  ((h.mono (H := fun k => k < w.heap.size ∧ ¬ F k) fun k hk h => ⟨hk, h⟩).chg hc fun k _ hk => hk.2).mono fun k _ hk => hf.apart hk.1 hk.2

/-- behind k calls: a queue, and the messages that wait, in other memory -/
structure PS (W : World) (most : Int) (q k : Nat) (lk : List (List UInt8)) (sent : Nat) (F : Foot) (A : Option Addr) (c : Nat) (wr : World) : Prop where
  qu : Qu wr F q lk most sent
  fl : ∀ k, F k → W.heap.size ≤ k
  nil : A = none → c = 0
  cap : lk.length ≤ c
  max : c ≤ maxLen
  ls : Ls wr (fun k => ¬ F k) A lk
  bel : Below W.heap.size W wr
  le : (lk.flatten.length : Int) ≤ most
  num : lk.length ≤ k
  tot : sent + lk.flatten.length ≤ 60 * k

section
variable {W wr w' w2 : World} {most : Int} {q k sent : Nat} {lk : List (List UInt8)} {F : Foot} {A : Option Addr} {c : Nat} {b x : List UInt8} {r : List (List UInt8)}
theorem PS.mono (h : PS W most q k lk sent F A c wr) (hb : Below wr.heap.size wr w') : PS W most q k lk sent F A c w' :=
  ⟨h.qu.bel hb, h.fl, h.nil, h.cap, h.max, h.ls.bel hb, h.bel.trans (hb.mono h.bel.size), h.le, h.num, h.tot⟩
theorem takeQ_num : ∀ (l : List (List UInt8)) (n : Nat), (takeQ l n).1.length ≤ l.length
  | [], n => by simp [takeQ]
  | b :: r, n => by
    unfold takeQ
    by_cases h0 : n = 0
    · simp [h0]
    · by_cases h : n < b.length
      · simp [h0, h]
      · simp only [h0, h, if_false]
        have := takeQ_num r (n - b.length)
        simp; omega
/-- the reference took -/
theorem PS.ref {n : Nat} {A2 : Option Addr} {c2 : Nat} (h : PS W most q k lk sent F A c wr) (hls : Ls w2 (fun k => ¬ F k ∨ wr.heap.size ≤ k) A2 (takeQ lk n).1) (hb : Below wr.heap.size wr w2) (hn : A2 = none → c2 = 0) (hc : (takeQ lk n).1.length ≤ c2) (hm : c2 ≤ maxLen) :
    (∀ {w3}, Qu w3 F q (takeQ lk n).1 most (sent + (takeQ lk n).2.length) → Chg F w2 w3 → PS W most q k (takeQ lk n).1 (sent + (takeQ lk n).2.length) F A2 c2 w3) := fun {w3} hq h3 => by
  have h1 : Ls w2 (fun k => ¬ F k) A2 (takeQ lk n).1 := hls.mono fun i _ e => by
    rcases e with e | e
    · exact e
    · exact fun hF => by have := h.qu.lt i hF; omega
  have h5 := takeQ_len lk n
  have h6 := takeQ_num lk n
  exact ⟨hq, h.fl, hn, hc, hm, Ls.pass h1 h3 (Fresh.refl _ _), (h.bel.trans (hb.mono h.bel.size)).trans (h3.below h.fl (Nat.le_trans h.bel.size hb.size)), by have := h.le; omega, by have := h.num; omega, by have := h.tot; omega⟩
theorem PS.clear {A2 : Option Addr} (h : PS W most q k lk sent F A c wr) (hq : Qu w' F q [] most sent) (hc : Chg F wr w') (hb : Below w'.heap.size w' w2) : PS W most q k [] sent F A2 0 w2 :=
  ⟨hq.bel hb, h.fl, fun _ => rfl, Nat.le_refl _, Nat.zero_le _, ⟨[], Rg.nil _ _ _ _, trivial⟩, (h.bel.trans (hc.below h.fl h.bel.size)).trans (hb.mono (Nat.le_trans h.bel.size hc.size)), by have := h.le; simp; omega, by simp, by have := h.tot; simp; omega⟩
theorem PS.push {A2 : Option Addr} {c2 : Nat} {e : Ending} {w3 : World} (h : PS W most q k lk sent F A c wr) (hb60 : b.length ≤ 60) (hls : Ls w2 (fun k => ¬ F k ∨ wr.heap.size ≤ k) A2 (pushQ lk most b)) (hb : Below wr.heap.size wr w2) (hn : A2 = none → c2 = 0) (hc : (pushQ lk most b).length ≤ c2) (hm : c2 ≤ maxLen)
    (hp : Pushed lk b F q most sent w2 e w3) : e = .returned (.int .i64 (pushE lk most b)) ∧ ∃ F', PS W most q (k + 1) (pushQ lk most b) sent F' A2 c2 w3 := by
  obtain ⟨F', he, h2, h3, h4⟩ := hp
  have h1 : Ls w2 (fun k => ¬ F k) A2 (pushQ lk most b) := hls.mono fun i _ e => by
    rcases e with e | e
    · exact e
    · exact fun hF => by have := h.qu.lt i hF; omega
  have hl : (pushQ lk most b).length ≤ lk.length + 1 := by unfold pushQ; split <;> simp
  have hg := pushQ_grow lk b most
  exact ⟨he, F', h2, h4.low h.fl (Nat.le_trans h.bel.size hb.size), hn, hc, hm, Ls.pass h1 h3 h4, (h.bel.trans (hb.mono h.bel.size)).trans (h3.below h.fl (Nat.le_trans h.bel.size hb.size)), pushQ_le h.le, by have := h.num; omega, by have := h.tot; omega⟩
theorem takeQ_one (b : List UInt8) (r : List (List UInt8)) (hb : b ≠ []) : takeQ (b :: r) b.length = (r, b) := by
  have h0 : 0 < b.length := List.length_pos_iff.2 hb
  unfold takeQ
  rw [if_neg (by omega), if_neg (by omega), Nat.sub_self, takeQ_zero]
  simp
theorem PS.next {A2 : Option Addr} {c2 : Nat} {w3 : World} (h : PS W most q k (b :: r) sent F A c wr) (hq : Qu w2 F q r most (sent + b.length)) (hc : Chg F wr w2) (hls : Ls w3 (fun k => ¬ F k ∨ w2.heap.size ≤ k) A2 r) (hb : Below w2.heap.size w2 w3) (hn : A2 = none → c2 = 0) (hcp : r.length ≤ c2) (hm : c2 ≤ maxLen) :
    PS W most q k r (sent + b.length) F A2 c2 w3 := by
  have h5 := h.le
  have h6 := h.num
  have h7 := h.tot
  simp only [List.flatten_cons, List.length_append, List.length_cons] at h5 h6 h7
  refine ⟨hq.bel hb, h.fl, hn, hcp, hm, hls.mono fun i _ e => ?_, (h.bel.trans (hc.below h.fl h.bel.size)).trans (hb.mono (Nat.le_trans h.bel.size hc.size)), by omega, by omega, by omega⟩
  rcases e with e | e
  · exact e
  · exact fun hF => by have := h.qu.lt i hF; have := hc.size; omega
theorem PS.more (h : PS W most q k lk sent F A c wr) : PS W most q (k + 1) lk sent F A c wr :=
  ⟨h.qu, h.fl, h.nil, h.cap, h.max, h.ls, h.bel, h.le, by have := h.num; omega, by have := h.tot; omega⟩
end

theorem PS.tail {W wr : World} {most : Int} {q k sent : Nat} {lk : List (List UInt8)} {F : Foot} {A : Option Addr} {c : Nat} (h : PS W most q k lk sent F A c wr) (hk : k ≤ 1000) (hm : most ≤ 16777216) :
    ∃ m : Nat, (m : Int) ≤ most ∧ Calls Try.prog 20 #[.slice A lk.length c] wr (fun e w' => e = .returned (.int .i64 (m : Int)) ∧ wr = w') ∧
      Calls Try.prog 22 #[.pointer (some ⟨q, 0, none⟩)] wr (fun e w' => e = .returned (.int .i64 (lk.length : Int)) ∧ wr = w') ∧
      Calls Try.prog 14 #[.pointer (some ⟨q, 0, none⟩)] wr (fun e w' => e = .returned (.int .i64 (m : Int)) ∧ wr = w') ∧
      Calls Try.prog 23 #[.pointer (some ⟨q, 0, none⟩)] wr (fun e w' => e = .returned (.int .i64 (most - (m : Int))) ∧ ∃ n, w' = wr.drewN n) ∧
      (∀ n, Calls Try.prog 15 #[.pointer (some ⟨q, 0, none⟩)] (wr.drewN n) (fun e w' => e = .returned (.int .i64 (sent : Int)) ∧ wr.drewN n = w')) ∧
      ∀ n, PS W most q k lk sent F A c (wr.drewN n) :=
  ⟨lk.flatten.length, h.le, refBytes_any A c lk _ wr (by have := h.num; omega) (by have := h.le; omega) h.ls, Len_any wr h.qu, Waits_any wr h.qu, Room_any wr ⟨by have := h.le; omega, hm⟩ (by have := h.le; omega) h.qu, fun n => Sent_any _ (h.qu.drewN n), fun n => h.mono (below_drewN (Below.refl _ _) n)⟩

set_option maxRecDepth 100000 in
theorem core_no (most : Int) (A : Option Addr) (n c : Nat) (W : World) (h : most < 1 ∨ 16777216 < most) :
    Calls Try.prog 4 #[.int .i64 most, .slice A n c] W fun e w' => e = .returned (.bool true) ∧ Below W.heap.size W w' := by
  have HN := Lib.hid (New_no most W h)
  have HL := Lib.hid (lives_any W)
  rcases h with h | h
  · have d1 : decide (most < 1) = true := by simpa using h
    go_enter Try.func4, Try.ntmps4
    go_wp2_with (first | (go_at_call 10; refine HN.out.mono ?_; rintro e w' ⟨rfl, rfl⟩) | (go_at_call 16; refine HL.out.mono ?_; rintro e w' ⟨rfl, hb⟩))
    go_ret
    exact ⟨by simp, hb⟩
  · have d1 : decide (most < 1) = false := by simp; omega
    have d2 : decide (16777216 < most) = true := by simpa using h
    go_enter Try.func4, Try.ntmps4
    go_wp2_with (first | (go_at_call 10; refine HN.out.mono ?_; rintro e w' ⟨rfl, rfl⟩) | (go_at_call 16; refine HL.out.mono ?_; rintro e w' ⟨rfl, hb⟩))
    go_ret
    exact ⟨by simp, hb⟩

set_option maxRecDepth 100000 in
set_option maxHeartbeats 4000000 in
theorem core_yes (most : Int) (A : Option Addr) (l : List (Int × Int × List UInt8)) (c : Nat) (W : World) (h1 : 1 ≤ most) (h2 : most ≤ 16777216) (hl : l.length ≤ maxLen) (hs : Els 3 rAct W (fun _ => True) A l) :
    Calls Try.prog 4 #[.int .i64 most, .slice A l.length c] W fun e w' => e = .returned (.bool true) ∧ Below W.heap.size W w' := by
  unfold maxLen at hl
  have HN := Lib.hid (New_yes most W h1 h2)
  have HS := Lib.hid hs
  have d1 : decide (most < 1) = false := by simp; omega
  have d2 : decide (16777216 < most) = false := by simp; omega
  clear hs
  go_enter Try.func4, Try.ntmps4
  go_wp2_with fail
  refine HN.out.mono ?_; rintro e w1 ⟨q, F, rfl, hq, hF, hb⟩
  have HJ : Hid (PS W most q 0 [] 0 F (some ⟨w1.heap.size, 0, none⟩) 0 (w1.alloc (.cells #[] 23))) := by
    have hb1 : Below w1.heap.size w1 (w1.alloc (.cells #[] 23)) := (Below.refl _ _).alloc (Nat.le_refl _) _
    exact ⟨hq.bel hb1, hF, (fun h => by cases h), Nat.le_refl _, Nat.zero_le _, ⟨[], Rg.nil _ _ _ _, trivial⟩, hb.trans (hb1.mono hb.size), by simp; omega, by simp, by simp⟩
  clear hq hF hb HN
  go_wp2_with fail
  go_loopw [7, 8, 9] (fun vl vs i wr => ∃ (k : Nat) (lk : List (List UInt8)) (sent : Nat) (F : Foot) (A : Option Addr) (c : Nat), k ≤ 50 ∧ k ≤ l.length ∧ i = .int .i64 k ∧ vl = .slice A lk.length c ∧ vs = .int .i64 sent ∧ PS W most q k lk sent F A c wr) (fun _ _ i _ => 50 - (intOf i).toNat)
  case atStart => exact ⟨0, [], 0, F, _, 0, by omega, by omega, rfl, rfl, rfl, HJ.out⟩
  case round =>
    obtain ⟨k, lk, sent, F, A2, c2, hk, hkl, rfl, rfl, rfl, hJ⟩ := hrel
    clear HJ
    have HJ := Lib.hid hJ
    clear hJ
    by_cases hlt : k < l.length ∧ k < 50
    · obtain ⟨hlt, hlt2⟩ := hlt
      obtain ⟨bb, off, Ab, cb, rfl, hbl, x0, x1, hw1, x2, hAb, hcb, hcbm, hrb⟩ := act_at (HS.out.bel keeps_act HJ.out.bel) hlt
      have hB1 := Bytes_law Ab cb wr.heap.size l[k].2.2 60 wr (.inr (by omega)) hcb (Nat.le_trans hcb hcbm) hAb (Nat.le_refl _) hrb.rd
      have hbl60 : (l[k].2.2.take 60).length ≤ 60 := by simp; omega
      have hnn := wf_i64 hw1
      have HX : Hid (∀ {w'}, Below wr.heap.size wr w' → w'.cell? ⟨bb, off + k * 3, none⟩ = some (.int .i64 l[k].1) ∧ w'.cell? ⟨bb, off + k * 3 + 1, none⟩ = some (.int .i64 l[k].2.1)) := fun {w'} hb => ⟨(hb.cell (p := ⟨bb, off + k * 3, none⟩) hbl).trans x0, (hb.cell (p := ⟨bb, off + k * 3 + 1, none⟩) hbl).trans x1⟩
      generalize l[k].2.2.take 60 = b at *
      generalize l[k].2.2.length = bl at *
      generalize l[k].1 = kind at *
      generalize l[k].2.1 = nn at *
      have HB1 := Lib.hid hB1
      clear hB1 hrb hAb hw1 x0 x1
      go_wp2_with fail
      refine HB1.out.mono ?_; rintro e w1 ⟨A1, c1, rfl, hA1, hc1, hm1, hs1, hb1, hn1⟩
      have hb1' := hb1.alloc hb1.size (.cells #[] 5)
      have HJ1 := Lib.hid (HJ.out.mono hb1')
      obtain ⟨x0, x1⟩ := HX.out hb1'
      have HR1 : Hid (Rg (w1.alloc (.cells #[] 5)) (fun k => ¬ F k) 1 A1 b.length (bv b)) := Rg.of_rd (G := fun k => ¬ F k) (hs1.alloc (Nat.le_refl _) (.cells #[] 5)) (by simp) (fun ad e hF => by have := HJ.out.qu.lt _ hF; have := hn1 ad e; omega)
      have HA1 := Lib.hid hA1
      have hm2 : most ≤ 9223372036854775807 := by omega
      have hll : lk.length ≤ 1000000 := by have := HJ.out.num; omega
      have hfl : lk.flatten.length ≤ 1099511627776 := by have := HJ.out.le; omega
      have hst : sent + lk.flatten.length ≤ 1099511627776 := by have := HJ.out.tot; omega
      have hlim := HJ.out.tot
      have hw1a : (w1.alloc (.cells #[] 5)).heap.size = w1.heap.size + 1 := by simp
      clear hA1 hs1 hb1 hn1 HB1 HJ
      by_cases e1 : kind = 1
      case' pos =>
        subst e1
        have HRT := Lib.hid (refTake_any A2 c2 lk nn (fun k => ¬ F k) (w1.alloc (.cells #[] 5)) hnn HJ1.out.nil HJ1.out.cap HJ1.out.max hll hfl HJ1.out.ls)
        clear hw1a
        go_wp2_with fail
        refine HRT.out.mono ?_; rintro e w2 ⟨A3, c3, Ao, co, rfl, g1, g2, g3, hls, hown, hlow, hb2⟩
        have HPR : Hid (∀ {w3}, Qu w3 F q (takeQ lk nn.toNat).1 most (sent + (takeQ lk nn.toNat).2.length) → Chg F w2 w3 → PS W most q k (takeQ lk nn.toNat).1 (sent + (takeQ lk nn.toNat).2.length) F A3 c3 w3) := fun {w3} q1 q2 => HJ1.out.ref hls hb2 g1 g2 g3 q1 q2
        have hx : sent + (takeQ lk nn.toNat).2.length ≤ 1099511627776 := by have := takeQ_len lk nn.toNat; omega
        have HTk : Hid (∀ {w'}, Below w2.heap.size w2 w' → Calls Try.prog 13 #[.pointer (some ⟨q, 0, none⟩), .int .i64 nn] w' (Took (takeQ lk nn.toNat).2 (takeQ lk nn.toNat).1 F q most sent w')) := fun {w'} hb => Take_any nn w' hnn.2 hst ((HJ1.out.qu.bel hb2).bel hb)
        have HOw : Hid (∀ {w'}, Chg F w2 w' → Own w' 5 1 Ao (takeQ lk nn.toNat).2.length co (bv (takeQ lk nn.toNat).2)) := fun {w'} hc => hown.chg hc fun i _ hi hF => by have := hlow i hi; have := HJ1.out.qu.lt i hF; omega
        have HX2 : Hid (w2.cell? ⟨bb, off + k * 3 + 1, none⟩ = some (.int .i64 nn)) := (HX.out (hb1'.trans (hb2.mono hb1'.size))).2
        clear x0 x1 hls hown hlow g1 g2 g3 hb2 HRT HJ1 HR1 HA1 HX hb1'
        generalize (takeQ lk nn.toNat).2 = x at *
        generalize (takeQ lk nn.toNat).1 = lk3 at *
        go_wp2_with fail
        go_cut [102] (fun s wx => s = .bool false ∧ PS W most q k lk3 (sent + x.length) F A3 c3 wx)
        case first =>
          have x1 := HX2.out
          have hcv := run_str (w := w2.drew) (c := co) (HOw.out (Chg.refl _ _)).rg.rd
          go_region_with (go_at_call 13; refine (HTk.out (by first | exact Below.refl _ _ | exact (Below.refl _ _).drew)).mono ?_; rintro e w4 ⟨A4, c4, rfl, ho4, hl4, hq4, hc4⟩; have hc4' : Chg F w2 w4 := ((Chg.refl F w2).drew).trans hc4 (fun _ _ e => e); have hcv4 := run_str (c := c4) ho4.rg.rd; have hcv := run_str (c := co) (HOw.out hc4').rg.rd; have HP4 := Lib.hid (HPR.out hq4 hc4'); clear ho4 hl4 hq4 hc4 hc4')
          all_goals (go_wp2_with fail; go_meet; exact ⟨by simp, HP4.out⟩)
        case' rest =>
          obtain ⟨rfl, hP⟩ := hcut
          have HP := Lib.hid hP.more
          clear hP HPR HTk HOw HX2
          go_wp2_with fail
          rw [show (sent : Int) + (x.length : Int) = ((sent + x.length : Nat) : Int) from by omega]
          generalize sent + x.length = sent3 at *
          have hF3 : Hid (∃ F3, PS W most q (k + 1) lk3 sent3 F3 A3 c3 wc) := ⟨F, HP.out⟩
          clear HP hx
      case' neg =>
        by_cases e2 : kind = 2
        case' pos =>
          subst e2
          have hcn : ∀ (A : Option Addr) (c : Nat) (w : World), (convert 23 9 (.slice A 0 c)).run Try.prog w = .ok (.string ⟨#[]⟩) w := fun A c w => run_str (l := []) (B := 0) (Rd.nil _ _ _ _)
          rcases lk with _ | ⟨b0, r⟩
          case' nil =>
            have HNx := Lib.hid (Next_none _ HJ1.out.qu)
            have hF3 : Hid (∃ F3, PS W most q (k + 1) [] sent F3 A2 c2 (w1.alloc (.cells #[] 5))) := ⟨F, HJ1.out.more⟩
            clear HJ1 HR1 HA1 hw1a
            go_wp2_with (go_at_call 18; refine HNx.out.mono ?_; rintro e w' ⟨rfl, rfl⟩)
          case' cons =>
            have hb0 : b0 ≠ [] := HJ1.out.qu.ne b0 (by simp)
            have HNx := Lib.hid (Next_some _ hst HJ1.out.qu)
            go_wp2_with fail
            refine HNx.out.mono ?_; rintro e w2 ⟨A4, c4, rfl, ho4, hl4, hq4, hc4⟩
            have hls2 : Ls w2 (fun k => ¬ F k) A2 (b0 :: r) := Ls.pass HJ1.out.ls hc4 (Fresh.refl _ _)
            obtain ⟨bl2, of2, Ak, ck, rfl, _, _, hcell, hAk, hck, hcm, _⟩ := hls2.at_ (k := 0) (by simp)
            simp only [Nat.add_zero, List.getElem_cons_zero] at hcell
            have hRT := refTake_any _ c2 (b0 :: r) (b0.length : Int) (fun k => ¬ F k) w2 (by simp only [List.flatten_cons, List.length_append] at hfl; omega) HJ1.out.nil HJ1.out.cap HJ1.out.max hll hfl hls2
            rw [Int.toNat_natCast, takeQ_one b0 r hb0] at hRT
            have HRT := Lib.hid hRT
            have hx : sent + b0.length ≤ 1099511627776 := by simp only [List.flatten_cons, List.length_append] at hst; omega
            have HO4 := Lib.hid ho4
            have HNX : Hid (∀ {A3 c3 w3}, Ls w3 (fun k => ¬ F k ∨ w2.heap.size ≤ k) A3 r → Below w2.heap.size w2 w3 → (A3 = none → c3 = 0) → r.length ≤ c3 → c3 ≤ maxLen → PS W most q k r (sent + b0.length) F A3 c3 w3) := fun q1 q2 q3 q4 q5 => HJ1.out.next hq4 hc4 q1 q2 q3 q4 q5
            clear hls2 hRT ho4 hl4 hq4 hc4 hAk hck hcm HNx hb0 HJ1 HR1 HA1 hw1a
            go_wp2_with fail
            refine HRT.out.mono ?_; rintro e w3 ⟨A3, c3, Ao, co, rfl, g1, g2, g3, hls, hown, hlow, hb2⟩
            have hcv := run_str (c := co) hown.rg.rd
            have hcv4 := run_str (c := c4) (HO4.out.bel hb2).rg.rd
            have HP := Lib.hid (HNX.out hls hb2 g1 g2 g3).more
            clear hls hown hlow hb2 g1 g2 g3 HNX HO4 HRT
            go_wp2_with fail
            rw [show (sent : Int) + (b0.length : Int) = ((sent + b0.length : Nat) : Int) from by omega]
            generalize sent + b0.length = sent3 at *
            have hF3 : Hid (∃ F3, PS W most q (k + 1) r sent3 F3 A3 c3 w3) := ⟨F, HP.out⟩
            clear HP hx
        case' neg =>
          by_cases e3 : kind = 3
          case' pos =>
            subst e3
            have HCl := Lib.hid (Clear_any _ HJ1.out.qu)
            go_wp2_with fail
            refine HCl.out.mono ?_; rintro e w2 ⟨rfl, hq2, hc2⟩
            have HBy := Lib.hid (refBytes_any A2 c2 lk _ w2 (by omega) hfl (Ls.pass HJ1.out.ls hc2 (Fresh.refl _ _)))
            have hF3 : Hid (∃ F3, PS W most q (k + 1) [] sent F3 (some ⟨w2.heap.size, 0, none⟩) 0 (w2.alloc (.cells #[] 23))) := ⟨F, (HJ1.out.clear hq2 hc2 ((Below.refl _ _).alloc (Nat.le_refl _) _)).more⟩
            clear hq2 hc2 HCl HJ1 HR1 HA1 hw1a
            generalize lk.flatten.length = mm at *
            go_wp2_with fail
            refine HBy.out.mono ?_; rintro e w' ⟨rfl, rfl⟩
            go_wp2_with fail
          case' neg =>
            have f1 : (kind == 1) = false := by rw [beq_eq_false_iff_ne]; exact e1
            have f2 : (kind == 2) = false := by rw [beq_eq_false_iff_ne]; exact e2
            have f3 : (kind == 3) = false := by rw [beq_eq_false_iff_ne]; exact e3
            clear e1 e2 e3
            have HRP := Lib.hid (refPush_any A2 c2 lk A1 c1 b most (fun k => ¬ F k) _ HJ1.out.nil HJ1.out.cap HJ1.out.max hll hfl ⟨by omega, hm2⟩ (by omega) HA1.out hc1 hm1 HJ1.out.ls HR1.out)
            go_wp2_with fail
            refine HRP.out.mono ?_; rintro e w2 ⟨A3, c3, rfl, g1, g2, g3, hls, hb2⟩
            have HB2 := Lib.hid (Bytes_law A1 c1 w2.heap.size b 60 w2 (.inr (by omega)) hc1 (Nat.le_trans hc1 hm1) HA1.out (Nat.le_refl _) (HR1.out.bel hb2).rd)
            rw [List.take_of_length_le hbl60] at HB2
            have HJ2 := Lib.hid (HJ1.out.mono hb2)
            have HPu : Hid (∀ {w3 e w4}, Below w2.heap.size w2 w3 → Pushed lk b F q most sent w3 e w4 → e = .returned (.int .i64 (pushE lk most b)) ∧ ∃ F', PS W most q (k + 1) (pushQ lk most b) sent F' A3 c3 w4) := fun {w3 e w4} q1 q2 => HJ1.out.push hbl60 (hls.bel q1) (hb2.trans (q1.mono hb2.size)) g1 g2 g3 q2
            clear hls hb2 g1 g2 g3 HRP HJ1 HR1 HA1 hw1a
            go_wp2_with fail
            refine HB2.out.mono ?_; rintro e w3 ⟨A5, c5, rfl, hA5, hc5, hm5, hs5, hb5, hn5⟩
            have HPs := Lib.hid (Push_any (A0 := A5) (c0 := c5) w3 ⟨by omega, h2⟩ HJ2.out.le (by omega) hA5 (Nat.le_refl _) hs5 (HJ2.out.qu.bel hb5))
            have HPv : Hid (∀ {e w4}, Pushed lk b F q most sent w3 e w4 → e = .returned (.int .i64 (pushE lk most b)) ∧ ∃ F', PS W most q (k + 1) (pushQ lk most b) sent F' A3 c3 w4) := fun {e w4} q1 => HPu.out hb5 q1
            clear hA5 hc5 hm5 hs5 hb5 hn5 HJ2 HPu HB2
            go_wp2_with fail
            refine HPs.out.mono ?_; rintro e w4 hp
            obtain ⟨rfl, hps⟩ := HPv.out hp
            have hF3 := Lib.hid hps
            clear hp hps HPv HPs
            generalize pushE lk most b = pe at *
            generalize pushQ lk most b = lk3 at *
            go_wp2_with fail
      all_goals
        obtain ⟨F3, hP⟩ := hF3.out
        have HP := Lib.hid hP
        clear hP hF3
        obtain ⟨mm, hmm, hBy, hLe, hWa, hRo, hSe, hR⟩ := HP.out.tail (by omega) h2
        try simp only [List.length_nil] at hBy hLe
        have HBy := Lib.hid hBy
        have HLe := Lib.hid hLe
        have HWa := Lib.hid hWa
        have HRo := Lib.hid hRo
        have HSe := Lib.hid hSe
        have HRel := Lib.hid hR
        clear hBy hLe hWa hRo hSe hR
        go_wp2_with (first
          | (go_at_call 20; refine HBy.out.mono ?_; rintro e w' ⟨rfl, rfl⟩)
          | (go_at_call 22; refine HLe.out.mono ?_; rintro e w' ⟨rfl, rfl⟩)
          | (go_at_call 14; refine HWa.out.mono ?_; rintro e w' ⟨rfl, rfl⟩)
          | (go_at_call 23; refine HRo.out.mono ?_; rintro e w' ⟨rfl, nq, rfl⟩)
          | (go_at_call 15; refine (HSe.out nq).mono ?_; rintro e w' ⟨rfl, rfl⟩))
        go_roundw
        case rel => exact ⟨k + 1, _, _, F3, _, _, by omega, by omega, by go_num, rfl, rfl, HRel.out nq⟩
        case measure => simp [intOf]; omega
    · have hend : (k < l.length ∧ k = 50) ∨ k = l.length := by
        by_cases h : k < l.length
        · exact .inl ⟨h, by omega⟩
        · exact .inr (by omega)
      have HLv := Lib.hid (lives_any wr)
      clear hlt
      rcases hend with ⟨d3, rfl⟩ | rfl
      all_goals
        go_wp2_with (go_at_call 16; refine HLv.out.mono ?_; rintro e w' ⟨rfl, hb⟩)
        go_ret
        exact ⟨rfl, HJ.out.bel.trans (hb.mono HJ.out.bel.size)⟩

set_option maxRecDepth 100000 in
theorem walk {H : Type} {enc : TypeId × Value → H} {W : World} {base : Nat} (a0 : Int) (w0 : (Lit.int .i64 a0).wf = true) {v1 : Value} {d1 : DataW H} {p1 : List MemPlace}
    (hv1 : Value.okWide Try.prog W .any base 34 v1) (h1 : DataW.Trod enc Try.prog W 0 (fun _ => true) true 34 v1 d1 p1) :
    Calls Try.prog 4 #[.int .i64 a0, v1] W fun e w' => e = .returned (.bool true) ∧ Below W.heap.size W w' := by
  obtain ⟨A, c, l, rfl, hA, hcap, hm, hs⟩ := open_sl Try.underlying34
    (opens_sl keeps_act Try.underlying34 (by kernel_rfl) (by omega)
      (opens_struct Try.underlying36 (by kernel_rfl)
        (opensF_cons (o' := 1) rfl (by kernel_rfl) (opens_int Try.underlying3) (opensF_cons (o' := 2) rfl (by kernel_rfl) (opens_int Try.underlying3) (opensF_last rfl (opens_bs Try.underlying23 Try.underlying5 (by kernel_rfl))))))) hv1 h1
  by_cases h : 1 ≤ a0 ∧ a0 ≤ 16777216
  · exact core_yes a0 A l c W h.1 h.2 (by omega) hs
  · exact core_no a0 A l.length c W (by omega)
end Go.Proofs.Ythoclemgiopjpaa.outqPlays
