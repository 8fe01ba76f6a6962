/- What a queue's Push does. Condition: a queue within its bounds. -/
import Derived.Test.YthoclemgiopjpaaOutqCut
import Derived.Deep.RegionLaw
import Derived.Deep.RegionWith
namespace Go.Proofs.Ythoclemgiopjpaa.outq
open Go.RowKit Go.Proofs.Ythoclemgiopjpaa.kit Go.Proofs.Ythoclemgiopjpaa.mem Go.Proofs.Ythoclemgiopjpaa.foot Go.Proofs.Ythoclemgiopjpaa.octet
set_option linter.unusedVariables false

theorem info_bs : (Try.prog.info? 23).map (fun i => (i.zero, i.size, i.bytes)) = some (some (.slice none 0 0), 1, 24) := by kernel_rfl

/-- what Push leaves -/
def Pushed (l : List (List UInt8)) (b : List UInt8) (F : Foot) (q : Nat) (most : Int) (sent : Nat) (w : World) (e : Ending) (w' : World) : Prop :=
  ∃ F', e = .returned (.int .i64 (pushE l most b)) ∧ Qu w' F' q (pushQ l most b) most sent ∧ Chg F w w' ∧ Fresh w F F'

theorem Pushed.no {l : List (List UInt8)} {b : List UInt8} {F : Foot} {q : Nat} {most : Int} {sent : Nat} {w w' : World} {n : Int} (hn : n ≠ 0) (he : pushE l most b = n) (h : Qu w F q l most sent) (hb : Below w.heap.size w w') : Pushed l b F q most sent w (.returned (.int .i64 n)) w' :=
  ⟨F, by rw [he], by unfold pushQ; rw [if_neg (by omega)]; exact h.bel hb, Chg.of_below hb F, Fresh.refl _ _⟩

theorem Push_no {F : Foot} {q sent : Nat} {l : List (List UInt8)} {b : List UInt8} {most : Int} {A0 : Option Addr} {c0 : Nat} (w : World) (hm : 0 ≤ most ∧ most ≤ 16777216) (hl : l.flatten.length ≤ most) (hb : b.length ≤ 1099511627776) (he : pushE l most b ≠ 0) (h : Qu w F q l most sent) :
    Calls Try.prog 12 #[.pointer (some ⟨q, 0, none⟩), .slice A0 b.length c0] w (Pushed l b F q most sent w) := by
  have HN := fun n (hn : n ≠ 0) (he : pushE l most b = n) w' hb => Pushed.no (w' := w') hn he h hb
  by_cases h1 : b = []
  · have Hfin := Lib.hid (HN 1 (by omega) (by simp [pushE, h1]))
    subst h1
    clear he HN h
    go_enter Try.func12, Try.ntmps12
    go_wp2_with fail
    go_ret
    exact Hfin.out _ (Below.refl _ _)
  · have hpos : 0 < b.length := List.length_pos_iff.2 h1
    have t1 : ((b.length : Int) == 0) = false := by rw [beq_eq_false_iff_ne]; omega
    by_cases h2 : most < b.length
    · have Hfin := Lib.hid (HN 6 (by omega) (by simp [pushE, h1, h2]))
      obtain ⟨A, c, vs, G, hk, _⟩ := h
      have k2 := hk.cell 2
      simp at k2
      clear he HN hk
      go_enter Try.func12, Try.ntmps12
      go_wp2_with fail
      go_ret
      exact Hfin.out _ (Below.refl _ _)
    · have h3 : most < l.flatten.length + b.length := by
        by_cases h3 : most < l.flatten.length + b.length
        · exact h3
        · exact absurd (by simp only [pushE]; rw [if_neg h1, if_neg h2, if_neg h3]) he
      have Hfin := Lib.hid (HN 3 (by omega) (by simp only [pushE]; rw [if_neg h1, if_neg h2, if_pos h3]))
      obtain ⟨A, c, vs, G, hk, _⟩ := h
      generalize l.flatten.length = m at *
      have k1 := hk.cell 1
      have k2 := hk.cell 2
      simp at k1 k2
      clear he HN hk
      have t2 : decide (most < (b.length : Int)) = false := by simpa using h2
      have t3 : decide (most - (m : Int) < (b.length : Int)) = true := by simp; omega
      go_enter Try.func12, Try.ntmps12
      go_wp2_with fail
      go_quiet (fail)
      go_wp2_with fail
      go_ret
      exact Hfin.out _ (below_drewN (Below.refl _ _) _)

theorem push_end {F : Foot} {q sent c c3 c4 : Nat} {A A3 A4 : Option Addr} {l : List (List UInt8)} {b : List UInt8} {vs : List Value} {G : Foot} {most : Int} {w w1 w4 : World} {H : Nat}
    (hb : b ≠ []) (hk : Bk w q 68 #[.slice A l.length c, .int .i64 (l.flatten.length : Int), .int .i64 most, .int .i64 (sent : Int)])
    (hbs : Bodies w G vs l) (hne : ∀ x ∈ l, x ≠ []) (hF : F q) (hA : ∀ k, sf A k → F k ∧ ¬ G k) (hG : ∀ k, G k → F k ∧ k ≠ q) (hlt : ∀ k, F k → k < w.heap.size) (hoA : ∀ k, sf A k → k < w.heap.size) (hqA : ∀ k, sf A k → k ≠ q)
    (h1 : Below w.heap.size w w1) (h3 : w1.ownsRow w.heap.size 5 1 (.slice A3 b.length c3) b.length (bv b)) (hH : H = w1.heap.size)
    (ho : Own w4 23 1 A4 (l.length + 1) c4 (vs ++ [.slice A3 b.length c3])) (hc : Chg (sf A) (w1.alloc (.cells #[.slice A3 b.length c3] 23)) w4) (hf : Fresh (w1.alloc (.cells #[.slice A3 b.length c3] 23)) (sf A) (sf A4)) :
    ∃ F', Qu ((w4.setCell ⟨q, 0, none⟩ (.slice A4 (l.length + 1) c4)).setCell ⟨q, 1, none⟩ (.int .i64 ((l.flatten.length : Int) + (b.length : Int)))) F' q (l ++ [b]) most sent ∧
      Chg F w ((w4.setCell ⟨q, 0, none⟩ (.slice A4 (l.length + 1) c4)).setCell ⟨q, 1, none⟩ (.int .i64 ((l.flatten.length : Int) + (b.length : Int)))) ∧ Fresh w F F' := by
  have hz : (w1.alloc (.cells #[.slice A3 b.length c3] 23)).heap.size = w1.heap.size + 1 := by simp
  obtain ⟨hw3, hbase⟩ := Own.of_row h3
  have hq : q < w.heap.size := hk.lt
  have hc2 : Chg (sf A) w w4 := (Chg.of_below h1 _).trans (((Chg.refl (sf A) w1).alloc _).trans hc fun _ _ e => e) fun _ _ e => e
  have hc3 : Chg (fun k => k = q ∨ sf A k) w ((w4.setCell ⟨q, 0, none⟩ (.slice A4 (l.length + 1) c4)).setCell ⟨q, 1, none⟩ (.int .i64 ((l.flatten.length : Int) + (b.length : Int)))) :=
    ((hc2.mono (G := fun k => k = q ∨ sf A k) fun _ _ e => .inr e).put (.inl (.inl rfl)) _).put (.inl (.inl rfl)) _
  have hc4 : Chg (fun k => k = q) w4 ((w4.setCell ⟨q, 0, none⟩ (.slice A4 (l.length + 1) c4)).setCell ⟨q, 1, none⟩ (.int .i64 ((l.flatten.length : Int) + (b.length : Int)))) :=
    ((Chg.refl (fun k => k = q) _).put (p := ⟨q, 0, none⟩) (.inl rfl) _).put (p := ⟨q, 1, none⟩) (.inl rfl) _
  have hA4 : ∀ k, sf A4 k → sf A k ∨ (w1.heap.size + 1 ≤ k) := fun k hk => by
    have := hf k hk; rw [hz] at this; exact this
  have hw1 := h1.size
  -- the new body, at the end
  have hbody : Body w1 (sf A3) (.slice A3 b.length c3) b := ⟨A3, c3, rfl, hw3.nil, hw3.cap, hw3.max, hw3.rg⟩
  have hA3 : ∀ k, sf A3 k → w.heap.size ≤ k ∧ k < w1.heap.size := fun k hk => ⟨hbase k hk, hw3.lt k hk⟩
  have hbody2 : Body ((w4.setCell ⟨q, 0, none⟩ (.slice A4 (l.length + 1) c4)).setCell ⟨q, 1, none⟩ (.int .i64 ((l.flatten.length : Int) + (b.length : Int)))) (sf A3) (.slice A3 b.length c3) b := by
    have e1 : Chg (sf A) w1 w4 := ((Chg.refl (sf A) w1).alloc _).trans hc fun _ _ e => e
    refine (hbody.chg e1 fun k hk hk3 hkA => ?_).chg hc4 fun k hk hk3 e => ?_
    · have := hA3 k hk3; have := hoA k hkA; omega
    · have e' : k = q := e
      have := hA3 k hk3; omega
  refine ⟨fun k => F k ∨ sf A4 k ∨ sf A3 k, ⟨A4, c4, vs ++ [.slice A3 b.length c3], fun k => G k ∨ sf A3 k, ?_, ?_, ?_, ?_, .inl hF, ?_, ?_, ?_⟩, ?_, ?_⟩
  · have e1 : ((l ++ [b]).flatten.length : Int) = (l.flatten.length : Int) + (b.length : Int) := by simp
    have e2 : (l ++ [b]).length = l.length + 1 := by simp
    rw [e1, e2]
    have h4 : Bk w4 q 68 #[.slice A l.length c, .int .i64 (l.flatten.length : Int), .int .i64 most, .int .i64 (sent : Int)] := hk.chg hc2 fun e => hqA q e rfl
    exact (h4.put 0 _).put 1 _
  · rw [show (l ++ [b]).length = l.length + 1 from by simp]
    refine ho.chg hc4 fun k hk hk4 e => ?_
    have e' : k = q := e
    rcases hA4 k hk4 with h | h
    · exact hqA k h e'
    · omega
  · refine Bodies.snoc ((hbs.chg hc3 fun k hk hkG e => ?_).mono fun _ _ e => .inl e) (hbody2.mono fun _ _ e => .inr e)
    rcases e with e | e
    · exact (hG k hkG).2 e
    · exact (hA k e).2 hkG
  · intro x hx
    rcases List.mem_append.1 hx with h | h
    · exact hne x h
    · simp at h; rw [h]; exact hb
  · intro k hk
    refine ⟨.inr (.inl hk), fun e => ?_⟩
    rcases hA4 k hk with h | h
    · rcases e with e | e
      · exact (hA k h).2 e
      · have := hA3 k e; have := hoA k h; omega
    · rcases e with e | e
      · have := hlt k (hG k e).1; omega
      · have := hA3 k e; omega
  · intro k hk
    rcases hk with h | h
    · exact ⟨.inl (hG k h).1, (hG k h).2⟩
    · exact ⟨.inr (.inr h), by have := hA3 k h; omega⟩
  · intro k hk
    have hs := hc4.size
    rcases hk with h | h | h
    · exact Nat.lt_of_lt_of_le (hlt k h) hc3.size
    · exact Nat.lt_of_lt_of_le (ho.lt k h) hs
    · have := hA3 k h; have := hc.size; rw [hz] at this; omega
  · refine hc3.mono fun k _ e => ?_
    rcases e with e | e
    · rw [e]; exact hF
    · exact (hA k e).1
  · intro k hk
    rcases hk with h | h | h
    · exact .inl h
    · rcases hA4 k h with h | h
      · exact .inl (hA k h).1
      · exact .inr (by omega)
    · exact .inr (hA3 k h).1

set_option maxRecDepth 100000 in
set_option maxHeartbeats 2000000 in
theorem Push_yes {F : Foot} {q sent : Nat} {l : List (List UInt8)} {b : List UInt8} {most : Int} {A0 : Option Addr} {c0 B : Nat} (w : World) (hm : 0 ≤ most ∧ most ≤ 16777216) (hb0 : b ≠ []) (hb1 : (l.flatten.length : Int) + b.length ≤ most) (hA0 : A0 = none → c0 = 0) (hB : B ≤ w.heap.size) (hs : Bs w B A0 b) (h : Qu w F q l most sent) :
    Calls Try.prog 12 #[.pointer (some ⟨q, 0, none⟩), .slice A0 b.length c0] w (Pushed l b F q most sent w) := by
  obtain ⟨A, c, vs, G, hk, ho, hbs, hne, hF, hA, hG, hlt⟩ := h
  have hqA : ∀ k, sf A k → k ≠ q := by
    rintro k ⟨ad, rfl, rfl⟩ rfl
    rcases ho.2 with ⟨h, _⟩ | ⟨g, off, cur, h, hg, _⟩
    · cases h
    · cases h
      unfold Bk at hk hg
      rw [hk] at hg
      injection hg with hg
      injection hg with _ ht
      exact absurd ht (by decide)
  have hll : l.length ≤ l.flatten.length := by
    clear hk ho hbs hb1
    induction l with
    | nil => simp
    | cons x l ih =>
      have h1 := ih (fun y hy => hne y (List.mem_cons_of_mem _ hy))
      have h2 : 0 < x.length := List.length_pos_iff.2 (hne x (by simp))
      simp only [List.length_cons, List.flatten_cons, List.length_append]; omega
  have he0 : pushE l most b = 0 := by
    unfold pushE; rw [if_neg hb0, if_neg (by omega), if_neg (by omega)]
  have HE := Lib.hid (fun (w1 w4 : World) (A3 : Option Addr) (c3 : Nat) (A4 : Option Addr) (c4 : Nat) h1 h2 h3 h4 h5 => show Pushed l b F q most sent w (.returned (.int .i64 0)) ((w4.setCell ⟨q, 0, none⟩ (.slice A4 (l.length + 1) c4)).setCell ⟨q, 1, none⟩ (.int .i64 ((l.flatten.length : Int) + (b.length : Int)))) from by
    obtain ⟨F', g1, g2, g3⟩ := push_end (A3 := A3) (A4 := A4) (c3 := c3) (c4 := c4) (w1 := w1) (w4 := w4) (H := w1.heap.size) hb0 hk hbs hne hF hA hG hlt ho.lt hqA h1 h2 rfl h3 h4 h5
    exact ⟨F', by rw [he0], by unfold pushQ; rw [if_pos he0]; exact g1, g2, g3⟩)
  have HO := Lib.hid ho
  have HQ : Hid (∀ {w'}, Below w.heap.size w w' → Own w' 23 1 A l.length c vs) := fun hb => ho.bel hb
  have HC : Hid (∀ {w'}, Below w.heap.size w w' → Calls Try.prog 36 #[.slice A0 b.length c0] w' (RetOwn b w')) := fun {w'} hbl => clone_own A0 c0 B b w' (by omega) hA0 (Nat.le_trans hB hbl.size) (hs.below hbl hB)
  have HK : Hid (∀ {w'}, Chg (sf A) w w' → w'.cell? ⟨q, 0, none⟩ = some (.slice A l.length c) ∧ w'.cell? ⟨q, 1, none⟩ = some (.int .i64 (l.flatten.length : Int)) ∧ w'.cell? ⟨q, 2, none⟩ = some (.int .i64 most) ∧ ∀ i, w'.frozen? ⟨q, i, none⟩ = false) := fun {w'} hc => by
    have h := hk.chg hc fun e => hqA q e rfl
    have h0 := h.cell 0
    have h1 := h.cell 1
    have h2 := h.cell 2
    exact ⟨h0, h1, h2, fun i => h.free i⟩
  have hpos : 0 < b.length := List.length_pos_iff.2 hb0
  have hq := hk.lt
  have HOb := Lib.hid hbs.one
  obtain ⟨i0, hi, hz0, hz1, hz2⟩ := info_parts info_bs
  have Hi := Lib.hid hi
  have Hz0 := Lib.hid hz0
  have Hz1 := Lib.hid hz1
  have Hz2 := Lib.hid hz2
  clear hi hz0 hz1 hz2 ho hk hbs hne hF hA hG hlt hs hqA he0
  have hmax : l.length ≤ 16777216 := by omega
  generalize l.flatten.length = m at *
  obtain ⟨k0, k1, k2, kf⟩ := HK.out (Chg.refl _ w)
  have t1 : ((b.length : Int) == 0) = false := by rw [beq_eq_false_iff_ne]; omega
  have t2 : decide (most < (b.length : Int)) = false := by simp; omega
  have t3 : decide (most - (m : Int) < (b.length : Int)) = false := by simp; omega
  go_enter Try.func12, Try.ntmps12
  go_wp2_with fail
  go_quiet (fail)
  go_wp2_with fail
  have HB := Lib.hid (below_drewN (Below.refl w.heap.size w) nq)
  clear k0 k1 k2 kf
  generalize w.drewN nq = wd at *
  obtain ⟨k0, k1, k2, kf⟩ := HK.out (Chg.of_below HB.out _)
  go_region_law (first
    | (refine step_app _ rfl (.tmp 38) (.tmp 41) _ rfl 23 i0 _ 1 24 Try.underlying22 Hi.out Hz0.out Hz1.out Hz2.out rfl (by omega) A l.length c vs rfl (by exact HQ.out HB2.out) _ (some ⟨w1.heap.size, 0, none⟩) 1 1 (by intro h; cases h) [.slice A3 b.length c3] rfl (by exact HR.out) (by intro u hu; simp at hu; rw [hu]; rfl) (by unfold maxLen; omega) (by omega) ?_; intro A4 c4 w4 ho4 hc4 hf4; clear k0 k1 k2 kf; go_must (obtain ⟨k0, k1, k2, kf⟩ := HK.out ((Chg.of_below HB2.out _).trans hc4 fun _ _ e => e)); go_must (have HO4 := Lib.hid ho4); go_must (have HC4 := Lib.hid hc4); go_must (have HF4 := Lib.hid hf4); clear ho4 hc4 hf4)
    | (go_simp; go_at_call 36; refine (HC.out HB.out.drew).mono ?_; rintro e w1 ⟨A3, c3, rfl, h3, h4⟩; clear k0 k1 k2 kf; go_must (have HB1 := Lib.hid (HB.out.drew.trans (h4.mono HB.out.size))); go_must (have H3 := Lib.hid (own_le h3 HB.out.size)); go_must (obtain ⟨k0, k1, k2, kf⟩ := HK.out (Chg.of_below HB1.out _)); go_must (have hq1 : q < w1.heap.size := Nat.lt_of_lt_of_le hq HB1.out.size); go_must (have HR := Lib.hid (Rg.new w1 23 1 1 #[.slice A3 b.length c3] rfl)); go_must (have HB2 := Lib.hid (HB1.out.alloc HB1.out.size (.cells #[.slice A3 b.length c3] 23))); clear h3 h4))
  all_goals
    go_wp2_with fail
    go_ret
    exact HE.out w1 w4 A3 c3 A4 c4 HB1.out H3.out HO4.out HC4.out HF4.out
end Go.Proofs.Ythoclemgiopjpaa.outq
