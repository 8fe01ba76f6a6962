/- The walk of the law OutqStream: the Go text returns true and writes nothing that was there. No condition. -/
import Derived.Test.YthoclemgiopjpaaOutqLives
namespace Go.Proofs.Ythoclemgiopjpaa.outqStream
open Go.RowKit Go.Proofs.Ythoclemgiopjpaa.kit Go.Proofs.Ythoclemgiopjpaa.mem Go.Proofs.Ythoclemgiopjpaa.foot Go.Proofs.Ythoclemgiopjpaa.octet Go.Proofs.Ythoclemgiopjpaa.outq
set_option linter.unusedVariables false
set_option linter.unusedSimpArgs false

/-- a queue, what went in, and what came out, each in memory of its own -/
structure OS (W : World) (lk : List (List UInt8)) (inb outb taken full : List UInt8) (F : Foot) (q : Nat) (Ai : Option Addr) (ci : Nat) (Ao : Option Addr) (co : Nat) (wr : World) : Prop where
  qu : Qu wr F q lk 100000 taken.length
  inn : Own wr 5 1 Ai inb.length ci (bv inb)
  out : Own wr 5 1 Ao outb.length co (bv outb)
  fl : ∀ k, F k → W.heap.size ≤ k
  il : ∀ k, sf Ai k → W.heap.size ≤ k ∧ ¬ F k
  ol : ∀ k, sf Ao k → W.heap.size ≤ k ∧ ¬ F k ∧ ¬ sf Ai k
  bel : Below W.heap.size W wr
  eq : taken ++ lk.flatten = full
  le : lk.flatten.length ≤ 100000

section
variable {W wr w' w3 : World} {lk : List (List UInt8)} {inb outb taken full b x : List UInt8} {F : Foot} {q : Nat} {Ai : Option Addr} {ci : Nat} {Ao : Option Addr} {co : Nat}
theorem OS.mono (h : OS W lk inb outb taken full F q Ai ci Ao co wr) (hb : Below wr.heap.size wr w') : OS W lk inb outb taken full F q Ai ci Ao co w' :=
  ⟨h.qu.bel hb, h.inn.bel hb, h.out.bel hb, h.fl, h.il, h.ol, h.bel.trans (hb.mono h.bel.size), h.eq, h.le⟩
theorem OS.push {e : Ending} (h : OS W lk inb outb taken full F q Ai ci Ao co wr) (hp : Pushed lk b F q 100000 taken.length wr e w') :
    e = .returned (.int .i64 (pushE lk 100000 b)) ∧ ∃ F', OS W (pushQ lk 100000 b) inb outb taken (full ++ (if pushE lk 100000 b = 0 then b else [])) F' q Ai ci Ao co w' := by
  obtain ⟨F', h1, h2, h3, h4⟩ := hp
  refine ⟨h1, F', h2, h.inn.chg h3 fun k _ hk => (h.il k hk).2, h.out.chg h3 fun k _ hk => (h.ol k hk).2.1, h4.low h.fl h.bel.size, fun k hk => ⟨(h.il k hk).1, h4.apart (h.inn.lt k hk) (h.il k hk).2⟩,
    fun k hk => ⟨(h.ol k hk).1, h4.apart (h.out.lt k hk) (h.ol k hk).2.1, (h.ol k hk).2.2⟩, h.bel.trans (h3.below h.fl h.bel.size), ?_, ?_⟩
  · unfold pushQ
    split
    · rw [List.flatten_append, ← List.append_assoc, h.eq]; simp
    · rw [h.eq]; simp
  · have := pushQ_le (l := lk) (b := b) (most := 100000) (by have := h.le; omega)
    omega
theorem OS.app_in {A' : Option Addr} {c' : Nat} (h : OS W lk inb outb taken full F q Ai ci Ao co wr) (ho : Own w' 5 1 A' (inb.length + b.length) c' (bv inb ++ bv b)) (hc : Chg (sf Ai) wr w') (hf : Fresh wr (sf Ai) (sf A')) :
    OS W lk (inb ++ b) outb taken full F q A' c' Ao co w' := by
  refine ⟨h.qu.chg hc fun k hk e => (h.il k e).2 hk, by rw [List.length_append, bv_app]; exact ho, h.out.chg hc fun k _ hk e => (h.ol k hk).2.2 e, h.fl, fun k hk => ?_, fun k hk => ⟨(h.ol k hk).1, (h.ol k hk).2.1, fun e => ?_⟩, h.bel.trans (hc.below (fun k hk => (h.il k hk).1) h.bel.size), h.eq, h.le⟩
  · rcases hf k hk with e | e
    · exact h.il k e
    · exact ⟨Nat.le_trans h.bel.size e, fun e2 => by have := h.qu.lt k e2; omega⟩
  · rcases hf k e with e2 | e2
    · exact (h.ol k hk).2.2 e2
    · have := h.out.lt k hk; omega
theorem OS.take {A3 : Option Addr} {c3 n : Nat} (h : OS W lk inb outb taken full F q Ai ci Ao co wr) (hq : Qu w' F q (takeQ lk n).1 100000 (taken.length + (takeQ lk n).2.length)) (hc : Chg F wr w') :
    OS W (takeQ lk n).1 inb outb (taken ++ (takeQ lk n).2) full F q Ai ci Ao co w' := by
  refine ⟨by rw [List.length_append]; exact hq, h.inn.chg hc fun k _ hk => (h.il k hk).2, h.out.chg hc fun k _ hk => (h.ol k hk).2.1, h.fl, h.il, h.ol, h.bel.trans (hc.below h.fl h.bel.size), ?_, ?_⟩
  · rw [takeQ_snd, takeQ_fst, List.append_assoc, List.take_append_drop, h.eq]
  · have := takeQ_len lk n
    have := h.le
    omega
theorem OS.app_out {A' : Option Addr} {c' : Nat} (h : OS W lk inb outb taken full F q Ai ci Ao co wr) (ho : Own w' 5 1 A' (outb.length + x.length) c' (bv outb ++ bv x)) (hc : Chg (sf Ao) wr w') (hf : Fresh wr (sf Ao) (sf A')) :
    OS W lk inb (outb ++ x) taken full F q Ai ci A' c' w' := by
  refine ⟨h.qu.chg hc fun k hk e => (h.ol k e).2.1 hk, h.inn.chg hc fun k _ hk e => (h.ol k e).2.2 hk, by rw [List.length_append, bv_app]; exact ho, h.fl, h.il, fun k hk => ?_, h.bel.trans (hc.below (fun k hk => (h.ol k hk).1) h.bel.size), h.eq, h.le⟩
  rcases hf k hk with e | e
  · exact h.ol k e
  · exact ⟨Nat.le_trans h.bel.size e, fun e2 => by have := h.qu.lt k e2; omega, fun e2 => by have := h.inn.lt k e2; omega⟩
end

set_option maxRecDepth 100000 in
set_option maxHeartbeats 2000000 in
theorem core (A : Option Addr) (c : Nat) (l : List (List UInt8)) (At : Option Addr) (ct : Nat) (ts : List UInt8) (W : World) (hl : l.length ≤ maxLen) (hs : Ls W (fun _ => True) A l) (hts : ts.length ≤ maxLen) (ht : Bs W W.heap.size At ts) :
    Calls Try.prog 3 #[.slice A l.length c, .slice At ts.length ct] W fun e w' => e = .returned (.bool true) ∧ Below W.heap.size W w' := by
  unfold maxLen at hl hts
  have HN := Lib.hid (New_yes 100000 W (by omega) (by omega))
  have HS := Lib.hid hs
  have HT := Lib.hid ht
  obtain ⟨i0, hi, hz0, hz1, hz2⟩ := info_parts info_u8
  have Hi := Lib.hid hi
  have Hz0 := Lib.hid hz0
  have Hz1 := Lib.hid hz1
  have Hz2 := Lib.hid hz2
  clear hs ht hi hz0 hz1 hz2
  go_enter Try.func3, Try.ntmps3
  go_wp2_with fail
  refine HN.out.mono ?_; rintro e w1 ⟨q, F, rfl, hq, hF, hb⟩
  have HJ : Hid (OS W [] [] [] [] [] F q (some ⟨w1.heap.size, 0, none⟩) 0 (some ⟨w1.heap.size + 1, 0, none⟩) 0 ((w1.alloc (.cells #[] 5)).alloc (.cells #[] 5))) := by
    have h1 : Below w1.heap.size w1 ((w1.alloc (.cells #[] 5)).alloc (.cells #[] 5)) := ((Below.refl _ _).alloc (Nat.le_refl _) _).alloc (by simp) _
    have h2 := Own.made w1 5 1 0 0 #[] [] (Nat.le_refl _) (Nat.zero_le _) rfl rfl rfl
    have h3 := Own.made (w1.alloc (.cells #[] 5)) 5 1 0 0 #[] [] (Nat.le_refl _) (Nat.zero_le _) rfl rfl rfl
    refine ⟨hq.bel h1, h2.bel ((Below.refl _ _).alloc (Nat.le_refl _) _), by simpa [bv] using h3, hF, fun k hk => ?_, fun k hk => ?_, hb.trans (h1.mono hb.size), rfl, by simp⟩
    · rw [sf_some] at hk
      have e : w1.heap.size = k := hk
      exact ⟨e ▸ hb.size, fun e2 => by have := hq.lt k e2; omega⟩
    · rw [sf_some] at hk
      have e : w1.heap.size + 1 = k := hk
      have := hb.size
      exact ⟨by omega, fun e2 => by have := hq.lt k e2; omega, fun e2 => by rw [sf_some] at e2; have e3 : w1.heap.size = k := e2; omega⟩
  clear hq hF hb HN
  go_wp2_with fail
  go_loopw [7, 8, 9] (fun vi vo i wr => ∃ (k : Nat) (lk : List (List UInt8)) (inb outb : List UInt8) (F : Foot) (Ai : Option Addr) (ci : Nat) (Ao : Option Addr) (co : Nat), k ≤ 30 ∧ k ≤ l.length ∧ i = .int .i64 k ∧ vi = .slice Ai inb.length ci ∧ vo = .slice Ao outb.length co ∧ inb.length ≤ 60 * k ∧ OS W lk inb outb outb inb F q Ai ci Ao co wr) (fun _ _ i _ => 30 - (intOf i).toNat)
  case atStart => exact ⟨0, [], [], [], F, _, _, _, _, by omega, by omega, rfl, rfl, rfl, by simp, HJ.out⟩
  case round =>
    obtain ⟨k, lk, inb, outb, F, Ai, ci, Ao, co, hk, hkl, rfl, rfl, rfl, hin, hJ⟩ := hrel
    clear HJ
    have HF0 := Lib.hid hJ.qu.lt
    have hol : outb.length ≤ inb.length := by rw [← hJ.eq]; simp
    have HJ := Lib.hid hJ
    clear hJ
    by_cases hlt : k < l.length ∧ k < 30
    · obtain ⟨hlt, hlt2⟩ := hlt
      obtain ⟨bb, off, Ak, ck, rfl, _, _, hcell, hAk, hck, hcm, hrk⟩ := Ls.at_ (HS.out.bel HJ.out.bel) hlt
      have hB1 := Bytes_law Ak ck wr.heap.size l[k] 60 wr (.inr (by omega)) hck (Nat.le_trans hck hcm) hAk (Nat.le_refl _) hrk.rd
      generalize hb : l[k].take 60 = b at *
      have hbl : b.length ≤ 60 := by rw [← hb]; simp; omega
      have HB1 := Lib.hid hB1
      clear hB1 hrk hb hAk
      have d1 : decide ((k : Int) < (l.length : Int)) = true := by simp; omega
      go_wp2_with fail
      refine HB1.out.mono ?_; rintro e w1 ⟨A1, c1, rfl, hA1, hc1, hm1, hs1, hb1, hn1⟩
      have HJ1 := Lib.hid (HJ.out.mono hb1)
      have HR1 := Lib.hid hs1
      have HB2 := Lib.hid (Bytes_law A1 c1 w1.heap.size b 60 w1 (.inr (by omega)) hc1 (Nat.le_trans hc1 hm1) hA1 (Nat.le_refl _) hs1)
      have HA1 := Lib.hid hA1
      rw [List.take_of_length_le hbl] at HB2
      have HN1 := Lib.hid hn1
      clear hA1 hc1 hm1 hs1 hb1 HB1 HJ hn1
      go_wp2_with fail
      refine HB2.out.mono ?_; rintro e w2 ⟨A2, c2, rfl, hA2, hc2, hm2, hs2, hb2, hn2⟩
      have HJ2 := Lib.hid (HJ1.out.mono hb2)
      have HR2 := Lib.hid ((Rd.below HR1.out hb2 (Nat.le_refl _)).more hb2.size)
      have HP := Lib.hid (Push_any (A0 := A2) (c0 := c2) w2 (by omega) (by have := HJ2.out.le; omega) (by omega) hA2 (Nat.le_refl _) hs2 HJ2.out.qu)
      clear hA2 hc2 hm2 hs2 hb2 HB2 HJ1 HR1 hn2
      go_wp2_with fail
      refine HP.out.mono ?_; rintro e w3 hp
      obtain ⟨rfl, F3, hJ3⟩ := HJ2.out.push hp
      have HJ3 := Lib.hid hJ3
      have HRG : Hid (Rg w3 (fun k => ¬ F k) 1 A1 b.length (bv b)) := by
        obtain ⟨F', _, _, h3, _⟩ := hp
        have hfw := HF0.out
        exact (Rg.of_rd (G := fun k => ¬ F k) HR2.out (Nat.le_refl _) (fun ad e hF => by have := HN1.out ad e; have := hfw _ hF; omega)).chg h3 fun k _ hk => hk
      clear hp hJ3 HP HJ2 HR2 HF0 HN1
      by_cases ht : k < ts.length
      · have d2 : decide ((k : Int) < (ts.length : Int)) = true := by simp; omega
        obtain ⟨tb, toff, rfl, htb, htc0⟩ := Bs.at_ HT.out ht
        have hbyte := ts[k].toNat_lt
        generalize ts[k].toNat = n at *
        by_cases hpe : pushE lk 100000 b = 0
        case' pos =>
          rw [hpe] at HJ3 ⊢
          rw [if_pos rfl] at HJ3
          clear hpe
          go_wp2_with (at_builtin; refine wpList_app _ rfl (.tmp 43) (.tmp 44) _ rfl 5 i0 _ 1 1 Try.underlying23 Hi.out Hz0.out Hz1.out Hz2.out rfl (by omega) Ai inb.length ci (bv inb) rfl HJ3.out.inn _ A1 b.length c1 HA1.out (bv b) rfl HRG.out (bv_one _) (by unfold maxLen; omega) (by omega) ?_; intro A4 c4 w4 ho4 hc4 hf4; have HJ4 := Lib.hid (HJ3.out.app_in ho4 hc4 hf4); have htc := (HJ4.out.bel.cell (p := ⟨tb, toff + k, none⟩) htb).trans htc0; clear ho4 hc4 hf4)
          have e4 : inb.length + b.length = (inb ++ b).length := by simp
          have hin4 : (inb ++ b).length ≤ 60 * k + 60 := by simp; omega
          rw [e4]
          clear HJ3 HRG e4
          generalize inb ++ b = in4 at *
          generalize pushQ lk 100000 b = lk4 at *
        case' neg =>
          have d3 : (pushE lk 100000 b == 0) = false := by rw [beq_eq_false_iff_ne]; exact hpe
          rw [if_neg hpe, List.append_nil] at HJ3
          have HJ4 := Lib.hid HJ3.out
          have htc := (HJ4.out.bel.cell (p := ⟨tb, toff + k, none⟩) htb).trans htc0
          have hin4 : inb.length ≤ 60 * k + 60 := by omega
          clear hpe HJ3 HRG
          generalize pushE lk 100000 b = pe at *
          generalize pushQ lk 100000 b = lk4 at *
        all_goals
          have hfl : outb.length + lk4.flatten.length ≤ 60 * k + 60 := by have := congrArg List.length HJ4.out.eq; rw [List.length_append] at this; omega
          have HTk := Lib.hid (Take_any (n : Int) _ (by omega) (by omega) HJ4.out.qu)
          go_wp2_with fail
          refine HTk.out.mono ?_; rintro e w5 ⟨A5, c5, rfl, ho5, hl5, hq5, hc5⟩
          have hx5 : (takeQ lk4 (n : Int).toNat).2.length ≤ 60 * k + 60 := by have := takeQ_len lk4 (n : Int).toNat; omega
          have HJ5 := Lib.hid (HJ4.out.take (A3 := A5) (c3 := c5) hq5 hc5)
          have HR5 := Lib.hid ho5.rg
          have HA5 := Lib.hid ho5.nil
          clear ho5 hl5 hq5 hc5 HTk HJ4 htc
          generalize (takeQ lk4 (n : Int).toNat).2 = x at *
          generalize (takeQ lk4 (n : Int).toNat).1 = lk5 at *
          go_wp2_with (at_builtin; refine wpList_app _ rfl (.tmp 50) (.tmp 57) _ rfl 5 i0 _ 1 1 Try.underlying23 Hi.out Hz0.out Hz1.out Hz2.out rfl (by omega) Ao outb.length co (bv outb) rfl HJ5.out.out _ A5 x.length c5 HA5.out (bv x) rfl HR5.out (bv_one _) (by unfold maxLen; omega) (by omega) ?_; intro A6 c6 w6 ho6 hc6 hf6; have HJ6 := Lib.hid (HJ5.out.app_out ho6 hc6 hf6); clear ho6 hc6 hf6)
          go_roundw
          case rel => exact ⟨k + 1, lk5, _, outb ++ x, _, _, _, _, _, by omega, by omega, by go_num, rfl, by rw [List.length_append], by omega, HJ6.out⟩
          case measure => simp [intOf]; omega
      · have d2 : decide ((k : Int) < (ts.length : Int)) = false := by simp; omega
        by_cases hpe : pushE lk 100000 b = 0
        · rw [hpe] at HJ3 ⊢
          rw [if_pos rfl] at HJ3
          clear hpe
          go_wp2_with (at_builtin; refine wpList_app _ rfl (.tmp 43) (.tmp 44) _ rfl 5 i0 _ 1 1 Try.underlying23 Hi.out Hz0.out Hz1.out Hz2.out rfl (by omega) Ai inb.length ci (bv inb) rfl HJ3.out.inn _ A1 b.length c1 HA1.out (bv b) rfl HRG.out (bv_one _) (by unfold maxLen; omega) (by omega) ?_; intro A4 c4 w4 ho4 hc4 hf4; have HJ4 := Lib.hid (HJ3.out.app_in ho4 hc4 hf4); clear ho4 hc4 hf4)
          go_roundw
          case rel => exact ⟨k + 1, _, inb ++ b, _, _, _, _, _, _, by omega, by omega, by go_num, by rw [List.length_append], rfl, by rw [List.length_append]; omega, HJ4.out⟩
          case measure => simp [intOf]; omega
        · have d3 : (pushE lk 100000 b == 0) = false := by rw [beq_eq_false_iff_ne]; exact hpe
          rw [if_neg hpe, List.append_nil] at HJ3
          clear hpe HRG
          generalize pushE lk 100000 b = pe at *
          generalize pushQ lk 100000 b = lk4 at *
          go_wp2_with fail
          go_roundw
          case rel => exact ⟨k + 1, _, _, _, _, _, _, _, _, by omega, by omega, by go_num, rfl, rfl, by omega, HJ3.out⟩
          case measure => simp [intOf]; omega
    · have hend : (k < l.length ∧ k = 30) ∨ k = l.length := by
        by_cases h : k < l.length
        · exact .inl ⟨h, by omega⟩
        · exact .inr (by omega)
      have hfl : outb.length + lk.flatten.length = inb.length := by have := congrArg List.length HJ.out.eq; rw [List.length_append] at this; exact this
      have HTk := Lib.hid (Take_any 100000 wr (by omega) (by omega) HJ.out.qu)
      have e1 : (100000 : Int).toNat = 100000 := rfl
      have e2 : lk.flatten.take 100000 = lk.flatten := List.take_of_length_le HJ.out.le
      rw [e1, takeQ_snd, e2] at HTk
      have HT5 : Hid (∀ {w5 : World}, Qu w5 F q (takeQ lk 100000).1 100000 (outb.length + lk.flatten.length) → Chg F wr w5 → OS W (takeQ lk 100000).1 inb outb (outb ++ lk.flatten) inb F q Ai ci Ao co w5) := fun {w5} h1 h2 => by
        have h3 := HJ.out.take (A3 := none) (c3 := 0) (n := 100000) (w' := w5) (by rw [takeQ_snd, e2]; exact h1) h2
        rw [takeQ_snd, e2] at h3
        exact h3
      have HX : Hid (outb ++ lk.flatten = inb) := HJ.out.eq
      have HE : Hid ((takeQ lk 100000).1.flatten = []) := by rw [Hid, takeQ_fst]; exact List.drop_of_length_le HJ.out.le
      have HS2 : Hid (∀ {A6 c6 w6}, OS W (takeQ lk 100000).1 inb (outb ++ lk.flatten) (outb ++ lk.flatten) inb F q Ai ci A6 c6 w6 → (convert 23 9 (.slice A6 inb.length c6)).run Try.prog w6 = .ok (.string ⟨inb.toArray⟩) w6) := fun {A6 c6 w6} h => by
        have h1 := run_str (c := c6) h.out.rg.rd
        rw [List.length_append, HX.out, hfl] at h1
        exact h1
      have HWt : Hid (∀ {A6 c6 w6}, OS W (takeQ lk 100000).1 inb (outb ++ lk.flatten) (outb ++ lk.flatten) inb F q Ai ci A6 c6 w6 → Calls Try.prog 14 #[.pointer (some ⟨q, 0, none⟩)] w6 fun e w' => e = .returned (.int .i64 0) ∧ w6 = w') := fun {A6 c6 w6} h => by
        have h1 := Waits_any w6 h.qu
        rw [HE.out] at h1
        exact h1
      have HSe : Hid (∀ {A6 c6 w6}, OS W (takeQ lk 100000).1 inb (outb ++ lk.flatten) (outb ++ lk.flatten) inb F q Ai ci A6 c6 w6 → Calls Try.prog 15 #[.pointer (some ⟨q, 0, none⟩)] w6 fun e w' => e = .returned (.int .i64 (inb.length : Int)) ∧ w6 = w') := fun {A6 c6 w6} h => by
        have h1 := Sent_any w6 h.qu
        rw [HX.out] at h1
        exact h1
      clear e1 e2 hlt
      generalize (takeQ lk 100000).1 = lk5 at *
      generalize lk.flatten = x at *
      have HB0 := Lib.hid HJ.out.bel
      rcases hend with ⟨d1, rfl⟩ | rfl
      all_goals
        go_wp2_with fail
        refine HTk.out.mono ?_; rintro e w5 ⟨A5, c5, rfl, ho5, hl5, hq5, hc5⟩
        have HJ5 := Lib.hid (HT5.out hq5 hc5)
        have HR5 := Lib.hid ho5.rg
        have HA5 := Lib.hid ho5.nil
        clear ho5 hl5 hq5 hc5 HTk HJ HT5 HX HE
        go_wp2_with (first
          | (at_builtin; refine wpList_app _ rfl (.tmp 59) (.tmp 61) _ rfl 5 i0 _ 1 1 Try.underlying23 Hi.out Hz0.out Hz1.out Hz2.out rfl (by omega) Ao outb.length co (bv outb) rfl HJ5.out.out _ A5 x.length c5 HA5.out (bv x) rfl HR5.out (bv_one _) (by unfold maxLen; omega) (by omega) ?_; intro A6 c6 w6 ho6 hc6 hf6; have HJ6 := Lib.hid (HJ5.out.app_out ho6 hc6 hf6); have hs1 := run_str (c := ci) HJ6.out.inn.rg.rd; have hs2 := HS2.out HJ6.out; have HW := Lib.hid (HWt.out HJ6.out); have HSn := Lib.hid (HSe.out HJ6.out); have HLv := Lib.hid (lives_any w6); clear ho6 hc6 hf6)
          | (go_at_call 14; refine HW.out.mono ?_; rintro e w' ⟨rfl, rfl⟩)
          | (go_at_call 15; refine HSn.out.mono ?_; rintro e w' ⟨rfl, rfl⟩)
          | (go_at_call 16; refine HLv.out.mono ?_; rintro e w' ⟨rfl, hb⟩))
        go_ret
        exact ⟨by simp, HJ6.out.bel.trans (hb.mono HJ6.out.bel.size)⟩

set_option maxRecDepth 100000 in
theorem walk {H : Type} {enc : TypeId × Value → H} {W : World} {base : Nat} {v0 v1 : Value} {d0 d1 : DataW H} {p0 p1 : List MemPlace}
    (hv0 : Value.okWide Try.prog W .any base 22 v0) (h0 : DataW.Trod enc Try.prog W 0 (fun _ => true) true 22 v0 d0 p0) (hv1 : Value.okWide Try.prog W .any base 23 v1) (h1 : DataW.Trod enc Try.prog W 0 (fun _ => true) true 23 v1 d1 p1) :
    Calls Try.prog 3 #[v0, v1] W fun e w' => e = .returned (.bool true) ∧ Below W.heap.size W w' := by
  obtain ⟨A, c, l, rfl, hA, hcap, hm, hs⟩ := open_bodies Try.underlying22 Try.underlying23 Try.underlying5 (by kernel_rfl) (by kernel_rfl) hv0 h0
  obtain ⟨At, ct, ts, rfl, hAt, hcapt, hmt, hst⟩ := open_bytes Try.underlying23 Try.underlying5 (by kernel_rfl) hv1 h1
  exact core A c l At ct ts W (by omega) hs (by omega) hst
end Go.Proofs.Ythoclemgiopjpaa.outqStream
