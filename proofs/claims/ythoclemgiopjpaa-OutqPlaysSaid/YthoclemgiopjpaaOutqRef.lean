/- What the reference's Bytes, Push and Take of messages return. Condition: at most 2^40 bytes in all. -/
import Derived.Test.YthoclemgiopjpaaOutqLives
import Derived.Test.YthoclemgiopjpaaRel
namespace Go.Proofs.Ythoclemgiopjpaa.outq
open Go.RowKit Go.Proofs.Ythoclemgiopjpaa.kit Go.Proofs.Ythoclemgiopjpaa.mem Go.Proofs.Ythoclemgiopjpaa.foot Go.Proofs.Ythoclemgiopjpaa.octet
set_option linter.unusedVariables false
set_option linter.unusedSimpArgs false

theorem flat_take (l : List (List UInt8)) (k : Nat) (hk : k < l.length) : (l.take (k + 1)).flatten.length = (l.take k).flatten.length + l[k].length := by
  rw [List.take_succ_eq_append_getElem hk, List.flatten_append, List.length_append]
  congr 1
  simp
theorem flat_le (l : List (List UInt8)) (k : Nat) : (l.take k).flatten.length ≤ l.flatten.length := by
  have : l.flatten = (l.take k).flatten ++ (l.drop k).flatten := by rw [← List.flatten_append, List.take_append_drop]
  rw [this]; simp

theorem refBytes_any (A : Option Addr) (c : Nat) (l : List (List UInt8)) (G : Foot) (w : World) (hn : l.length ≤ 1099511627776) (hl : l.flatten.length ≤ 1099511627776) (hs : Ls w G A l) :
    Calls Try.prog 20 #[.slice A l.length c] w fun e w' => e = .returned (.int .i64 (l.flatten.length : Int)) ∧ w = w' := by
  have HS := Lib.hid hs
  clear hs
  go_enter Try.func20, Try.ntmps20
  go_wp2_with fail
  go_loop [3, 4] (fun v i => ∃ k : Nat, k ≤ l.length ∧ i = .int .i64 k ∧ v = .int .i64 ((l.take k).flatten.length : Int)) (fun _ i => l.length - (intOf i).toNat)
  case atStart => exact ⟨0, by omega, rfl, by simp⟩
  case round =>
    obtain ⟨k, hk, rfl, rfl⟩ := hrel
    by_cases hlt : k < l.length
    · obtain ⟨b, off, Ak, ck, rfl, _, _, hcell, hAk, hck, hcm, _⟩ := HS.out.at_ hlt
      have HE := Lib.hid (flat_take l k hlt)
      have h1 := flat_le l (k + 1)
      rw [flat_take l k hlt] at h1
      generalize l[k].length = m at *
      generalize (l.take k).flatten.length = s at *
      go_wp2_with fail
      go_round
      case rel => exact ⟨k + 1, by omega, by go_num, by rw [HE.out]; simp⟩
      case measure => simp [intOf]; omega
    · obtain rfl : k = l.length := by omega
      go_wp2_with fail
      go_ret
      exact ⟨by simp, rfl⟩

/-- l[1:] of a slice of byte slices that is read -/
theorem cut_oneG (g off c l : Nat) (hc : l + 1 ≤ c) (hm : c ≤ maxLen) :
    ∃ A' c', (A' = none → c' = 0) ∧ l ≤ c' ∧ c' ≤ maxLen ∧ (∀ w, (Instr.slice 22 (.slice (some ⟨g, off, none⟩) (l + 1) c) (some (.int .i64 1)) none none).run Try.prog w = .ok (.slice A' l c') w) ∧ (∀ w G (x : List UInt8) (r : List (List UInt8)), r.length = l → Ls w G (some ⟨g, off, none⟩) (x :: r) → Ls w G A' r) := by
  have hm' := hm
  unfold maxLen at hm
  by_cases hz : c = 1
  · subst hz
    obtain rfl : l = 0 := by omega
    refine ⟨some ⟨g, off, none⟩, 0, (fun h => by cases h), by omega, Nat.zero_le _, fun w => ?_, fun w G x r hr h => ?_⟩
    · go_simp
    · obtain rfl := List.eq_nil_of_length_eq_zero hr
      exact ⟨[], Rg.nil _ _ _ _, trivial⟩
  · refine ⟨some (Addr.add ⟨g, off, none⟩ 1), c - 1, (fun h => by cases h), by omega, by unfold maxLen; omega, fun w => ?_, fun w G x r hr h => ?_⟩
    · have h1 : (1 : Int) ≤ (l : Int) + 1 := by omega
      go_simp
    · obtain ⟨vs, h1, h2⟩ := h
      exact ⟨vs.drop 1, by simpa using h1.skip (k := 1) (by simp), by simpa using h2.drop 1⟩

/-- the list, new or as it was, handed back with a number -/
def RefPushed (l : List (List UInt8)) (b : List UInt8) (most : Int) (G : Foot) (w : World) (e : Ending) (w' : World) : Prop :=
  ∃ A c, e = .returned (.tuple #[.slice A (pushQ l most b).length c, .int .i64 (pushE l most b)]) ∧ (A = none → c = 0) ∧ (pushQ l most b).length ≤ c ∧ c ≤ maxLen ∧ Ls w' (fun k => G k ∨ w.heap.size ≤ k) A (pushQ l most b) ∧ Below w.heap.size w w'

theorem refPush_any (A : Option Addr) (c : Nat) (l : List (List UInt8)) (Ab : Option Addr) (cb : Nat) (b : List UInt8) (most : Int) (G : Foot) (w : World) (hA : A = none → c = 0) (hc : l.length ≤ c) (hcm : c ≤ maxLen) (hn : l.length ≤ 1000000) (hl : l.flatten.length ≤ 1099511627776) (hm : -9223372036854775808 ≤ most ∧ most ≤ 9223372036854775807)
    (hbl : b.length ≤ 1099511627776) (hAb : Ab = none → cb = 0) (hcb : b.length ≤ cb) (hcbm : cb ≤ maxLen) (hs : Ls w G A l) (hb : Rg w G 1 Ab b.length (bv b)) :
    Calls Try.prog 21 #[.slice A l.length c, .int .i64 most, .slice Ab b.length cb] w (RefPushed l b most G w) := by
  have HBy := Lib.hid (refBytes_any A c l G w (by omega) hl hs)
  have hno : ∀ n, n ≠ 0 → pushE l most b = n → RefPushed l b most G w (.returned (.tuple #[.slice A l.length c, .int .i64 n])) w := fun n h0 he => by
    have e1 : pushQ l most b = l := by unfold pushQ; rw [if_neg (by omega)]
    exact ⟨A, c, by rw [e1, he], hA, by rw [e1]; exact hc, hcm, by rw [e1]; exact hs.mono fun _ _ h => .inl h, Below.refl _ _⟩
  by_cases h1 : b = []
  · have Hfin := Lib.hid (hno 1 (by omega) (by simp [pushE, h1]))
    subst h1
    clear hno hs hb HBy
    go_enter Try.func21, Try.ntmps21
    go_wp2_with fail
    go_ret2
    exact Hfin.out
  · have hpos : 0 < b.length := List.length_pos_iff.2 h1
    have t1 : ((b.length : Int) == 0) = false := by rw [beq_eq_false_iff_ne]; omega
    by_cases h2 : most < b.length
    · have Hfin := Lib.hid (hno 6 (by omega) (by simp [pushE, h1, h2]))
      clear hno hs hb HBy
      go_enter Try.func21, Try.ntmps21
      go_wp2_with fail
      go_ret2
      exact Hfin.out
    · have t2 : decide (most < (b.length : Int)) = false := by simpa using h2
      by_cases h3 : most < l.flatten.length + b.length
      · have Hfin := Lib.hid (hno 3 (by omega) (by simp only [pushE]; rw [if_neg h1, if_neg h2, if_pos h3]))
        generalize l.flatten.length = m at *
        have t3 : decide (most < (m : Int) + (b.length : Int)) = true := by simpa using h3
        clear hno hs hb
        go_enter Try.func21, Try.ntmps21
        go_wp2_with (go_at_call 20; refine HBy.out.mono ?_; rintro e w' ⟨rfl, rfl⟩)
        go_ret2
        exact Hfin.out
      · have e0 : pushE l most b = 0 := by simp only [pushE]; rw [if_neg h1, if_neg h2, if_neg h3]
        have e1 : pushQ l most b = l ++ [b] := by unfold pushQ; rw [if_pos e0]
        obtain ⟨vs, hr, hbs⟩ := id hs
        have hone := hbs.one
        have Hfin : Hid (∀ {A' c' w'}, Own w' 23 1 A' (l.length + 1) c' (vs ++ [.slice Ab b.length cb]) → (∀ k, sf A' k → w.heap.size ≤ k) → Below w.heap.size w w' → RefPushed l b most G w (.returned (.tuple #[.slice A' (l.length + 1) c', .int .i64 0])) w') := fun {A' c' w'} ho hf hbw => by
          refine ⟨A', c', by rw [e1, e0]; simp, ho.nil, by rw [e1]; simpa using ho.cap, ho.max, ?_, hbw⟩
          rw [e1]
          refine ⟨vs ++ [.slice Ab b.length cb], by simpa using ho.rg.mono fun k _ hk => .inr (hf k hk), Bodies.snoc ((hbs.bel hbw).mono fun _ _ h => .inl h) ⟨Ab, cb, rfl, hAb, hcb, hcbm, (hb.bel hbw).mono fun _ _ h => .inl h⟩⟩
        obtain ⟨i0, hi, hz0, hz1, hz2⟩ := info_parts info_bs
        have Hi := Lib.hid hi
        have Hz0 := Lib.hid hz0
        have Hz1 := Lib.hid hz1
        have Hz2 := Lib.hid hz2
        have HO0 : Hid (Own (w.alloc (.cells #[] 23)) 23 1 (some ⟨w.heap.size, 0, none⟩) 0 0 []) := Own.made w 23 1 0 0 #[] [] (Nat.le_refl _) (Nat.zero_le _) rfl rfl rfl
        have HR0 := Lib.hid (hr.bel ((Below.refl _ _).alloc (Nat.le_refl _) (.cells #[] 23)))
        have Hone := Lib.hid hone
        have HA := Lib.hid hA
        generalize l.flatten.length = m at *
        have t3 : decide (most < (m : Int) + (b.length : Int)) = false := by simpa using h3
        clear hno hs hb hr hbs hone hi hz0 hz1 hz2 e0 e1 hA hAb
        go_enter Try.func21, Try.ntmps21
        go_wp2_with (first
          | (go_at_call 20; refine HBy.out.mono ?_; rintro e w' ⟨rfl, rfl⟩)
          | (at_builtin; refine wpList_app _ rfl (.tmp 25) (.tmp 26) _ rfl 23 i0 _ 1 24 Try.underlying22 Hi.out Hz0.out Hz1.out Hz2.out rfl (by omega) (some ⟨w.heap.size, 0, none⟩) 0 0 [] rfl HO0.out G A l.length c HA.out vs rfl HR0.out Hone.out (by unfold maxLen; omega) (by omega) ?_; intro A1 c1 w1 ho1 hc1 hf1; rw [Nat.zero_add, List.nil_append] at ho1; have HO1 := Lib.hid (ho1.bel ((Below.refl _ _).alloc (Nat.le_refl _) (.cells #[.slice Ab b.length cb] 23))); have HB1 : Hid (Below w.heap.size w (w1.alloc (.cells #[.slice Ab b.length cb] 23)) ∧ ∀ k, sf A1 k → w.heap.size ≤ k) := ⟨by have h4 := ((Below.refl w.heap.size w).alloc (Nat.le_refl _) (.cells #[] 23)).trans (hc1.below (fun k hk => by rw [sf_some] at hk; exact Nat.le_of_eq hk) (by simp)); exact h4.alloc h4.size _, fun k hk => by rcases hf1 k hk with h | h; (· rw [sf_some] at h; exact Nat.le_of_eq h); (· simp at h; omega)⟩; have HR1 := Lib.hid (Rg.new w1 23 1 1 #[.slice Ab b.length cb] rfl); clear ho1 hc1 hf1)
          | (at_builtin; refine wpList_app _ rfl (.tmp 27) (.tmp 29) _ rfl 23 i0 _ 1 24 Try.underlying22 Hi.out Hz0.out Hz1.out Hz2.out rfl (by omega) A1 l.length c1 vs rfl HO1.out _ (some ⟨w1.heap.size, 0, none⟩) 1 1 (by intro h; cases h) [.slice Ab b.length cb] rfl HR1.out (by intro u hu; simp at hu; rw [hu]; rfl) (by unfold maxLen; omega) (by omega) ?_; intro A2 c2 w2 ho2 hc2 hf2; have HF := Lib.hid (Hfin.out ho2 (fun k hk => by rcases hf2 k hk with h | h; (· exact HB1.out.2 k h); (· exact Nat.le_trans HB1.out.1.size h)) (HB1.out.1.trans (hc2.below HB1.out.2 HB1.out.1.size))); clear ho2 hc2 hf2))
        go_ret2
        exact HF.out
end Go.Proofs.Ythoclemgiopjpaa.outq
