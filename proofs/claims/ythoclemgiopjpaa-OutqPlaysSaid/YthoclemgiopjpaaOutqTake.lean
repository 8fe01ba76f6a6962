/- What a queue's Take, Next, Clear do. Condition: at most 2^40 bytes in all. -/
import Derived.Test.YthoclemgiopjpaaOutqPush
import Derived.ScopeJumps
namespace Go.Proofs.Ythoclemgiopjpaa.outq
open Go.RowKit Go.Proofs.Ythoclemgiopjpaa.kit Go.Proofs.Ythoclemgiopjpaa.mem Go.Proofs.Ythoclemgiopjpaa.foot Go.Proofs.Ythoclemgiopjpaa.octet
set_option linter.unusedVariables false
set_option linter.unusedSimpArgs false

theorem takeQ_len (l : List (List UInt8)) (n : Nat) : (takeQ l n).2.length + (takeQ l n).1.flatten.length = l.flatten.length := by
  rw [takeQ_snd, takeQ_fst, List.length_take, List.length_drop]; omega

/-- bytes in memory of their own, taken of a queue -/
def Took (x : List UInt8) (l : List (List UInt8)) (F : Foot) (q : Nat) (most : Int) (sent : Nat) (w : World) (e : Ending) (w' : World) : Prop :=
  ∃ A c, e = .returned (.slice A x.length c) ∧ Own w' 5 1 A x.length c (bv x) ∧ (∀ k, sf A k → w.heap.size ≤ k ∧ ¬ F k) ∧ Qu w' F q l most (sent + x.length) ∧ Chg F w w'

/-- how far a queue has been taken -/
structure TakeJ (l : List (List UInt8)) (n : Int) (F : Foot) (q : Nat) (most : Int) (sent : Nat) (w : World) (lk : List (List UInt8)) (out : List UInt8) (A : Option Addr) (c : Nat) (wr : World) : Prop where
  qu : Qu wr F q lk most (sent + out.length)
  own : Own wr 5 1 A out.length c (bv out)
  low : ∀ k, sf A k → w.heap.size ≤ k ∧ ¬ F k
  chg : Chg F w wr
  sum : out.length + lk.flatten.length = l.flatten.length
  eq : takeQ l n.toNat = ((takeQ lk (n.toNat - out.length)).1, out ++ (takeQ lk (n.toNat - out.length)).2)

section
variable {l lk : List (List UInt8)} {n : Int} {F : Foot} {q sent c : Nat} {most : Int} {w wr : World} {out : List UInt8} {A : Option Addr}
theorem TakeJ.start (h : Qu w F q l most sent) : TakeJ l n F q most sent w l [] none 0 w :=
  ⟨h, Own.none_ _ _ _, fun k hk => absurd hk (sf_none k), Chg.refl _ _, by simp, by simp⟩
theorem TakeJ.done (h : TakeJ l n F q most sent w lk out A c wr) (hd : n ≤ out.length ∨ lk = []) : Took (takeQ l n.toNat).2 (takeQ l n.toNat).1 F q most sent w (.returned (.slice A out.length c)) wr := by
  have e : takeQ l n.toNat = (lk, out) := by
    rw [h.eq]
    rcases hd with hd | hd
    · rw [show n.toNat - out.length = 0 from by omega, takeQ_zero]; simp
    · subst hd; simp [takeQ]
  rw [e]
  exact ⟨A, c, rfl, h.own, h.low, h.qu, h.chg⟩
theorem TakeJ.next {b : List UInt8} {r : List (List UInt8)} {A3 A4 : Option Addr} {c3 c4 k : Nat} {w3 w4 : World} (h : TakeJ l n F q most sent w (b :: r) out A c wr) (hk : (k : Int) = n - out.length) (h0 : 0 < k)
    (h3 : w3.ownsRow wr.heap.size 5 1 (.slice A3 (b.take k).length c3) (b.take k).length (bv (b.take k))) (hq : Qu w3 F q (cutQ b r k) most (sent + out.length + (b.take k).length)) (hc : Chg F wr w3)
    (ho : Own w4 5 1 A4 (out.length + (b.take k).length) c4 (bv out ++ bv (b.take k))) (hc4 : Chg (sf A) w3 w4) (hf : Fresh w3 (sf A) (sf A4)) :
    TakeJ l n F q most sent w (cutQ b r k) (out ++ b.take k) A4 c4 w4 := by
  have hA4 : ∀ k, sf A4 k → w.heap.size ≤ k ∧ ¬ F k := fun k hk => by
    rcases hf k hk with e | e
    · exact h.low k e
    · exact ⟨Nat.le_trans (Nat.le_trans h.chg.size hc.size) e, fun e2 => by have := hq.lt k e2; omega⟩
  refine ⟨?_, by rw [List.length_append, bv_app]; exact ho, hA4, (h.chg.trans hc fun _ _ e => e).trans hc4 fun i hi e => by have := (h.low i e).1; omega, ?_, ?_⟩
  · rw [List.length_append, ← Nat.add_assoc]
    exact hq.chg hc4 fun k hk e => (h.low k e).2 hk
  · have := cutQ_flat b r k
    have h5 := h.sum
    simp only [List.length_append, List.flatten_cons, List.length_take] at this h5 ⊢
    omega
  · have e1 : n.toNat - out.length = k := by omega
    have e2 : n.toNat - (out ++ b.take k).length = k - (b.take k).length := by rw [List.length_append]; omega
    rw [h.eq, e1, e2, takeQ_cut b r k h0, List.append_assoc]
end

set_option maxRecDepth 100000 in
set_option maxHeartbeats 1000000 in
theorem Take_any {F : Foot} {q sent : Nat} {l : List (List UInt8)} {most : Int} (n : Int) (w : World) (hn : n ≤ 9223372036854775807) (hm : sent + l.flatten.length ≤ 1099511627776) (h : Qu w F q l most sent) :
    Calls Try.prog 13 #[.pointer (some ⟨q, 0, none⟩), .int .i64 n] w (Took (takeQ l n.toNat).2 (takeQ l n.toNat).1 F q most sent w) := by
  have HJ := Lib.hid (TakeJ.start (n := n) h)
  obtain ⟨i0, hi, hz0, hz1, hz2⟩ := info_parts info_u8
  have Hi := Lib.hid hi
  have Hz0 := Lib.hid hz0
  have Hz1 := Lib.hid hz1
  have Hz2 := Lib.hid hz2
  clear hi hz0 hz1 hz2 h
  go_enter Try.func13, Try.ntmps13
  go_wp2_with fail
  refine wp_scope_jumps 0 (fun a' wr => ∃ lk out A c x2 x3 x6 x7 x8 x9 x10 x11 x12 x13 x14 x15 x16 x17 x18 x19 x20 x21 x22 x23 x24 x25 x26 x27, TakeJ l n F q most sent w lk out A c wr ∧ a' = { tmps := #[.pointer (some ⟨q, 0, none⟩), .int .i64 n, x2, x3, .slice none 0 0, .slice A out.length c, x6, x7, x8, x9, x10, x11, x12, x13, x14, x15, x16, x17, x18, x19, x20, x21, x22, x23, x24, x25, x26, x27], defers := [] }) (fun (a' : Act) (_ : World) => match a'.tmps[5]? with | some (Value.slice _ k _) => n.toNat - k | _ => 0) rfl ?first ?pass
  case' first =>
    go_wp2_with fail
    go_step3
    obtain ⟨lk, out, A, c, HJ, hfr⟩ : ∃ (lk : List (List UInt8)) (out : List UInt8) (A : Option Addr) (c : Nat), Hid (TakeJ l n F q most sent w lk out A c w) ∧ (#[.pointer (some ⟨q, 0, none⟩), .int .i64 n, undef, undef, .slice none 0 0, .slice none 0 0, .pointer (some ⟨q, 0, none⟩), .bool false, undef, undef, undef, undef, undef, undef, undef, undef, undef, undef, undef, undef, undef, undef, undef, undef, undef, undef, undef, undef] : Array Value) = #[.pointer (some ⟨q, 0, none⟩), .int .i64 n, undef, undef, .slice none 0 0, .slice A out.length c, .pointer (some ⟨q, 0, none⟩), .bool false, undef, undef, undef, undef, undef, undef, undef, undef, undef, undef, undef, undef, undef, undef, undef, undef, undef, undef, undef, undef] := ⟨l, [], none, 0, HJ, rfl⟩
    have Hfr := Lib.hid hfr
    clear hfr
    rw [Hfr.out]
    clear Hfr
  case' pass =>
    rintro a' w1 ⟨lk, out, A, c, x2, x3, x6, x7, x8, x9, x10, x11, x12, x13, x14, x15, x16, x17, x18, x19, x20, x21, x22, x23, x24, x25, x26, x27, hJ, rfl⟩
    clear HJ
    have HJ := Lib.hid hJ
    clear hJ
  all_goals
    have hlen : out.length ≤ 1099511627776 := by have := HJ.out.sum; omega
    by_cases hd : n ≤ out.length
    · have HR := Lib.hid (HJ.out.done (.inl hd))
      have d1 : decide ((out.length : Int) < n) = false := by simpa using hd
      clear hd HJ
      go_wp2_with fail
      try simp only [Exit.jump]
      go_ret
      exact HR.out
    · obtain ⟨k, hk⟩ : ∃ k : Nat, (k : Int) = n - out.length := ⟨(n - out.length).toNat, by omega⟩
      have hk0 : 0 < k := by omega
      have d1 : decide ((out.length : Int) < n) = true := by simp; omega
      have hlt : (out.length : Int) < n := by omega
      have Hk := Lib.hid hk
      obtain ⟨_, _, _, _, hqk, _⟩ := id HJ.out.qu
      have k1 := hqk.cell 1
      clear hqk
      rcases lk with _ | ⟨b, r⟩
      · have HR := Lib.hid (HJ.out.done (.inr rfl))
        simp at k1
        clear HJ Hk hk hk0 hd
        go_wp2_with fail
        try simp only [Exit.jump]
        go_ret
        exact HR.out
      · have hb0 : 0 < b.length := List.length_pos_iff.2 (HJ.out.qu.ne b (by simp))
        have hpos : 0 < (b :: r).flatten.length := by simp; omega
        have hsum := HJ.out.sum
        have HC := Lib.hid (cut_any k _ hk0 (by omega) HJ.out.qu)
        rw [Hk.out] at HC
        have hbL : b.length ≤ 1099511627776 := by rw [List.flatten_cons, List.length_append] at hsum; omega
        clear hsum
        generalize (b :: r).flatten.length = m at *
        have d2 : decide (0 < (m : Int)) = true := by simp; omega
        simp at k1
        have hk2 : k ≤ 9223372036854775807 := by omega
        clear hk hd
        have HN : Hid (∀ {A3 A4 : Option Addr} {c3 c4 : Nat} {w3 w4 : World}, w3.ownsRow _ 5 1 (.slice A3 (b.take k).length c3) (b.take k).length (bv (b.take k)) → Qu w3 F q (cutQ b r k) most (sent + out.length + (b.take k).length) → Chg F _ w3 → Own w4 5 1 A4 (out.length + (b.take k).length) c4 (bv out ++ bv (b.take k)) → Chg (sf A) w3 w4 → Fresh w3 (sf A) (sf A4) → TakeJ l n F q most sent w (cutQ b r k) (out ++ b.take k) A4 c4 w4) :=
          fun h1 h2 h3 h4 h5 h6 => HJ.out.next Hk.out hk0 h1 h2 h3 h4 h5 h6
        have hbl : (b.take k).length ≤ 1099511627776 := by simp; omega
        have hb1 : 0 < (b.take k).length := by simp; omega
        go_wp2_with fail
        refine HC.out.mono ?_
        rintro e w3 ⟨A3, c3, rfl, hA3, ho3, hq3, hc3⟩
        have HO := Lib.hid (HJ.out.own.chg hc3 fun i _ hi => (HJ.out.low i hi).2)
        have HR := Lib.hid (Own.of_row ho3).1.rg
        have HS := Lib.hid ho3
        have HQ := Lib.hid hq3
        have HCh := Lib.hid hc3
        have HA3 := Lib.hid hA3
        clear ho3 hq3 hc3 hA3
        generalize hx : b.take k = x at *
        clear hx
        go_wp2_with (at_builtin; refine wpList_app _ rfl (.tmp 19) (.tmp 25) _ rfl 5 i0 _ 1 1 Try.underlying23 Hi.out Hz0.out Hz1.out Hz2.out rfl (by omega) A out.length c (bv out) rfl HO.out (sf A3) A3 x.length c3 HA3.out (bv x) rfl HR.out (bv_one _) (by unfold maxLen; omega) (by omega) ?_; intro A4 c4 w4 ho4 hc4 hf4; have HJ2 := Lib.hid (HN.out HS.out HQ.out HCh.out ho4 hc4 hf4); clear ho4 hc4 hf4)
        try simp only [Exit.jump]
        have e1 : (out ++ x).length = out.length + x.length := List.length_append
        have hmu : n.toNat - (out.length + x.length) < n.toNat - out.length := by omega
        go_step3
        first
          | exact ⟨rfl, _, out ++ x, A4, c4, _, _, _, _, _, _, _, _, _, _, _, _, _, _, _, _, _, _, _, _, _, _, _, _, HJ2.out, by rw [e1]⟩
          | exact ⟨rfl, ⟨_, out ++ x, A4, c4, _, _, _, _, _, _, _, _, _, _, _, _, _, _, _, _, _, _, _, _, _, _, _, _, HJ2.out, by rw [e1]⟩, hmu⟩
end Go.Proofs.Ythoclemgiopjpaa.outq
