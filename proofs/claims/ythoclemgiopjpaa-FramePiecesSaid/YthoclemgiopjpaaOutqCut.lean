/- What a queue's cut does. Condition: at most 2^40 bytes in all. -/
import Derived.Test.YthoclemgiopjpaaOutqFns
import Derived.Test.YthoclemgiopjpaaSlice
namespace Go.Proofs.Ythoclemgiopjpaa.outq
open Go.RowKit Go.Proofs.Ythoclemgiopjpaa.kit Go.Proofs.Ythoclemgiopjpaa.mem Go.Proofs.Ythoclemgiopjpaa.foot Go.Proofs.Ythoclemgiopjpaa.octet
set_option linter.unusedVariables false

/-- b[n:] of a byte slice that is read -/
theorem cut_hiG (A : Option Addr) (c l n : Nat) (hA : A = none → c = 0) (hc : l ≤ c) (hm : c ≤ maxLen) (hn : n ≤ l) :
    ∃ A' c', (A' = none → c' = 0) ∧ l - n ≤ c' ∧ c' ≤ maxLen ∧ (∀ w, (Instr.slice 23 (.slice A l c) (some (.int .i64 n)) none none).run Try.prog w = .ok (.slice A' (l - n) c') w) ∧ (∀ w G (x : List UInt8), x.length = l → Rg w G 1 A x.length (bv x) → Rg w G 1 A' (x.drop n).length (bv (x.drop n))) := by
  have hm' := hm
  unfold maxLen at hm
  rcases A with _ | ad
  · have := hA rfl
    subst this
    obtain rfl : l = 0 := by omega
    obtain rfl : n = 0 := by omega
    exact ⟨none, 0, fun _ => rfl, Nat.le_refl _, Nat.zero_le _, fun w => by kernel_rfl, fun w G x hx h => h⟩
  · by_cases hz : n = c
    · subst hz
      obtain rfl : l = n := by omega
      refine ⟨some ad, 0, (fun h => by cases h), by omega, Nat.zero_le _, fun w => ?_, fun w G x hx h => ?_⟩
      · go_simp
      · rw [List.drop_of_length_le (by omega)]; exact Rg.nil _ _ _ _
    · refine ⟨some (ad.add n), c - n, (fun h => by cases h), by omega, by unfold maxLen; omega, fun w => ?_, fun w G x hx h => ?_⟩
      · have h1 : (n : Int) ≤ (l : Int) := by omega
        go_simp
        intro h; exact absurd h.symm hz
      · have := Rg.skip h (k := n) (by omega)
        rw [Nat.mul_one, ← bv_drop] at this
        rw [List.length_drop]; exact this
/-- l[1:] of a row of byte slices of the call's own -/
theorem cut_one (g off c l : Nat) (hc : l + 1 ≤ c) (hm : c ≤ maxLen) :
    ∃ A' c', (∀ w, (Instr.slice 22 (.slice (some ⟨g, off, none⟩) (l + 1) c) (some (.int .i64 1)) none none).run Try.prog w = .ok (.slice A' l c') w) ∧ (∀ k, sf A' k → k = g) ∧ (∀ w e v vs, Own w e 1 (some ⟨g, off, none⟩) (l + 1) c (v :: vs) → Own w e 1 A' l c' vs) := by
  have hm' := hm
  unfold maxLen at hm
  by_cases hz : c = 1
  · subst hz
    obtain rfl : l = 0 := by omega
    refine ⟨some ⟨g, off, none⟩, 0, fun w => ?_, fun k hk => by rw [sf_some] at hk; exact hk.symm, fun w e v vs h => ?_⟩
    · go_simp
    · have : vs = [] := by have := h.1; simp at this; exact this
      subst this
      exact h.spent
  · refine ⟨some (Addr.add ⟨g, off, none⟩ 1), c - 1, fun w => ?_, fun k hk => by rw [sf_some] at hk; exact hk.symm.trans (by unfold Addr.add; split <;> rfl), fun w e v vs h => ?_⟩
    · have h1 : (1 : Int) ≤ (l : Int) + 1 := by omega
      go_simp
    · exact h.skip (k := 1) (by omega)

/-- what cut hands back -/
def Cut (b : List UInt8) (r : List (List UInt8)) (n : Nat) (F : Foot) (q : Nat) (most : Int) (sent : Nat) (w : World) (e : Ending) (w' : World) : Prop :=
  ∃ A c, e = .returned (.slice A (b.take n).length c) ∧ (A = none → c = 0) ∧ w'.ownsRow w.heap.size 5 1 (.slice A (b.take n).length c) (b.take n).length (bv (b.take n)) ∧ Qu w' F q (cutQ b r n) most (sent + (b.take n).length) ∧ Chg F w w'

/-- the row's first element is written anew, and the numbers -/
theorem cut_part_end {F : Foot} {q sent c0 c1 g off c n d : Nat} {A0 A1 : Option Addr} {b : List UInt8} {r : List (List UInt8)} {vs' : List Value} {most : Int} {G : Foot} {w : World} (h0 : 0 < n) (hn : n < b.length) (hd : b.length - n = d + 1)
    (hk : Bk w q 68 #[.slice (some ⟨g, off, none⟩) (b :: r).length c, .int .i64 ((b :: r).flatten.length : Int), .int .i64 most, .int .i64 (sent : Int)])
    (ho : Own w 23 1 (some ⟨g, off, none⟩) (b :: r).length c (.slice A0 b.length c0 :: vs')) (hgq : g ≠ q)
    (hr0 : Rg w G 1 A0 b.length (bv b)) (hbs : Bodies w G vs' r) (hne : ∀ x ∈ b :: r, x ≠ []) (hF : F q) (hA : ∀ k, sf (some ⟨g, off, none⟩) k → F k ∧ ¬ G k) (hG : ∀ k, G k → F k ∧ k ≠ q) (hlt : ∀ k, F k → k < w.heap.size)
    (hA1 : A1 = none → c1 = 0) (hc1 : b.length - n ≤ c1) (hm1 : c1 ≤ maxLen) (hrd1 : ∀ w G (x : List UInt8), x.length = b.length → Rg w G 1 A0 x.length (bv x) → Rg w G 1 A1 (x.drop n).length (bv (x.drop n))) :
    Qu (((w.setCell ⟨g, off, none⟩ (.slice A1 (d + 1) c1)).setCell ⟨q, 1, none⟩ (.int .i64 ((b.length : Int) + (r.flatten.length : Int) - (n : Int)))).setCell ⟨q, 3, none⟩ (.int .i64 ((sent : Int) + (n : Int)))).drew F q (cutQ b r n) most (sent + n) ∧
    Chg F w (((w.setCell ⟨g, off, none⟩ (.slice A1 (d + 1) c1)).setCell ⟨q, 1, none⟩ (.int .i64 ((b.length : Int) + (r.flatten.length : Int) - (n : Int)))).setCell ⟨q, 3, none⟩ (.int .i64 ((sent : Int) + (n : Int)))).drew := by
  have hgF := hA g (by rw [sf_some])
  have c1' : Chg (fun k => k = g ∨ k = q) w (((w.setCell ⟨g, off, none⟩ (.slice A1 (d + 1) c1)).setCell ⟨q, 1, none⟩ (.int .i64 ((b.length : Int) + (r.flatten.length : Int) - (n : Int)))).setCell ⟨q, 3, none⟩ (.int .i64 ((sent : Int) + (n : Int)))) :=
    (((Chg.refl _ w).put (.inl (.inl rfl)) _).put (.inl (.inr rfl)) _).put (.inl (.inr rfl)) _
  have hGn : ∀ k, G k → ¬ (k = g ∨ k = q) := fun k hx e => by
    rcases e with e | e
    · exact hgF.2 (e ▸ hx)
    · exact (hG _ hx).2 e
  have e1 : (b.drop n).length = d + 1 := by simp; omega
  refine ⟨Qu.drew ⟨some ⟨g, off, none⟩, c, .slice A1 (d + 1) c1 :: vs', G, ?_, ?_, ?_, cutQ_ne b r n hne, hF, hA, hG, fun k hk => ?_⟩, (c1'.mono ?_).drew⟩
  · have e2 : cutQ b r n = b.drop n :: r := by unfold cutQ; rw [if_pos hn]
    have hk1 := ((hk.far (p := ⟨g, off, none⟩) (fun e => hgq e.symm) (.slice A1 (d + 1) c1)).put 1 (.int .i64 ((b.length : Int) + (r.flatten.length : Int) - (n : Int)))).put 3 (.int .i64 ((sent : Int) + (n : Int)))
    have e3 : ((cutQ b r n).flatten.length : Int) = (b.length : Int) + (r.flatten.length : Int) - (n : Int) := by
      rw [cutQ_flat]; simp only [List.flatten_cons, List.length_append]; omega
    rw [e3, e2, show ((sent + n : Nat) : Int) = (sent : Int) + (n : Int) from by omega]
    exact hk1
  · have e2 : cutQ b r n = b.drop n :: r := by unfold cutQ; rw [if_pos hn]
    rw [e2]
    have h1 := ho.put 0 (by simp) (.slice A1 (d + 1) c1)
    simp only [Nat.add_zero, List.set_cons_zero] at h1
    have h2 : Chg (fun k => k = q) (w.setCell ⟨g, off, none⟩ (.slice A1 (d + 1) c1)) (((w.setCell ⟨g, off, none⟩ (.slice A1 (d + 1) c1)).setCell ⟨q, 1, none⟩ (.int .i64 ((b.length : Int) + (r.flatten.length : Int) - (n : Int)))).setCell ⟨q, 3, none⟩ (.int .i64 ((sent : Int) + (n : Int)))) :=
      ((Chg.refl (fun k => k = q) _).put (p := ⟨q, 1, none⟩) (.inl rfl) _).put (p := ⟨q, 3, none⟩) (.inl rfl) _
    exact h1.chg h2 fun k _ hk e => by rw [sf_some] at hk; exact hgq (hk.trans e)
  · have e2 : cutQ b r n = b.drop n :: r := by unfold cutQ; rw [if_pos hn]
    rw [e2]
    refine ⟨⟨A1, c1, by rw [e1], hA1, by rw [e1, ← hd]; exact hc1, hm1, ?_⟩, hbs.chg c1' fun k _ hk => hGn k hk⟩
    exact (hrd1 w G b rfl hr0).chg c1' fun k _ hk => hGn k hk
  · exact Nat.lt_of_lt_of_le (hlt k hk) c1'.size
  · rintro k _ (rfl | rfl)
    · exact hgF.1
    · exact hF

set_option maxRecDepth 100000 in
theorem cut_part {F : Foot} {q sent : Nat} {b : List UInt8} {r : List (List UInt8)} {most : Int} (n : Nat) (w : World) (h0 : 0 < n) (hn : n < b.length) (hm : sent + (b :: r).flatten.length ≤ 1099511627776) (h : Qu w F q (b :: r) most sent) :
    Calls Try.prog 37 #[.pointer (some ⟨q, 0, none⟩), .int .i64 n] w (Cut b r n F q most sent w) := by
  obtain ⟨A, c, vs, G, hk, ho, hb, hne, hF, hA, hG, hlt⟩ := h
  obtain ⟨v, vs', rfl⟩ : ∃ v vs', vs = v :: vs' := by
    cases vs with
    | nil => exact hb.elim
    | cons v vs' => exact ⟨v, vs', rfl⟩
  obtain ⟨⟨A0, c0, rfl, hA0, hc0, hm0, hr0⟩, hbs⟩ := hb
  obtain ⟨g, off, cur, rfl, hgb, hcap, hmax, hfit, hcur⟩ : ∃ g off cur, A = some ⟨g, off, none⟩ ∧ Bk w g 23 cur ∧ (b :: r).length ≤ c ∧ c ≤ maxLen ∧ off + c * 1 ≤ cur.size ∧ ∀ j u, (Value.slice A0 b.length c0 :: vs')[j]? = some u → cur[off + j]? = some u := by
    rcases ho.2 with ⟨_, h, _⟩ | h
    · simp at h
    · exact h
  have hgq : g ≠ q := by
    rintro rfl
    unfold Bk at hk hgb
    rw [hk] at hgb
    injection hgb with hgb
    injection hgb with _ ht
    exact absurd ht (by decide)
  have hqg : q ≠ g := fun e => hgq e.symm
  obtain ⟨A1, c1, hA1, hc1, hm1, hrun1, hrd1⟩ := cut_hiG A0 c0 b.length n hA0 hc0 hm0 (by omega)
  have hlo := cut_lo A0 c0 b.length n hA0 hc0 hm0 (by omega)
  obtain ⟨d, hd⟩ : ∃ d, b.length - n = d + 1 := ⟨b.length - n - 1, by omega⟩
  obtain ⟨hQ, hC⟩ := cut_part_end h0 hn hd hk ho hgq hr0 hbs hne hF hA hG hlt hA1 hc1 hm1 hrd1
  have e1 : (b.take n).length = n := by simp; omega
  have hch : Chg (fun k => k = g ∨ k = q) w (((w.setCell ⟨g, off, none⟩ (.slice A1 (d + 1) c1)).setCell ⟨q, 1, none⟩ (.int .i64 ((b.length : Int) + (r.flatten.length : Int) - (n : Int)))).setCell ⟨q, 3, none⟩ (.int .i64 ((sent : Int) + (n : Int)))).drew :=
    ((((Chg.refl _ w).put (.inl (.inl rfl)) _).put (.inl (.inr rfl)) _).put (.inl (.inr rfl)) _).drew
  obtain ⟨W2, hW2⟩ : ∃ W2, (((w.setCell ⟨g, off, none⟩ (.slice A1 (d + 1) c1)).setCell ⟨q, 1, none⟩ (.int .i64 ((b.length : Int) + (r.flatten.length : Int) - (n : Int)))).setCell ⟨q, 3, none⟩ (.int .i64 ((sent : Int) + (n : Int)))).drew = W2 := ⟨_, rfl⟩
  rw [hW2] at hQ hC hch
  have hcl := clone_own A0 c0 W2.heap.size (b.take n) W2 (by simp at hm; rw [e1]; omega) hA0 (Nat.le_refl _) (by
      have h1 := hr0.take (k := n) (by omega)
      rw [Nat.mul_one, ← bv_take] at h1
      have h2 := (h1.chg hch (fun k _ hx e => by
          rcases e with e | e
          · exact (hA g (by rw [sf_some])).2 (e ▸ hx)
          · exact (hG _ hx).2 e)).rd
      unfold Bs
      rw [e1]
      exact h2)
  rw [e1] at hcl
  have hfin : ∀ A c w', w'.ownsRow W2.heap.size 5 1 (.slice A n c) n (bv (b.take n)) → Below W2.heap.size W2 w' → Cut b r n F q most sent w (.returned (.slice A n c)) w' := by
    intro A c w' h1 h2
    refine ⟨A, c, by rw [e1], (by obtain ⟨A', c', hv, h3, _⟩ := own_form h1; cases hv; exact h3), by rw [e1]; exact own_le h1 hC.size, by rw [e1]; exact hQ.bel h2, hC.bel h2⟩
  have HC := Lib.hid hcl
  have HF := Lib.hid hfin
  clear hcl hfin hQ hC hr0 hch
  subst hW2
  have k0 := hk.cell 0
  have k1 := hk.cell 1
  have k2 := hk.cell 2
  have k3 := hk.cell 3
  have kf := fun i => hk.free i
  have g0 : w.cell? ⟨g, off, none⟩ = some (.slice A0 b.length c0) := by rw [hgb.cell]; exact hcur 0 _ rfl
  have gf := hgb.free off
  have hfl : (b :: r).flatten.length = b.length + r.flatten.length := by simp
  rw [hfl] at k1 hm
  clear hfl hrd1 hA hG hlt hF hne ho hk hbs
  generalize r.flatten.length = m at *
  simp at k0 k1 k2 k3
  have hnl : (n : Int) < (b.length : Int) := by omega
  have hmin : min (n : Int) (b.length : Int) = n := by omega
  rw [hd] at hrun1
  have He1 := Lib.hid e1
  have Hd := Lib.hid hd
  clear hmin e1 hd
  go_enter Try.func37, Try.ntmps37
  go_wp2_with fail
  go_region_held3 (fun w' => w'.cell? ⟨q, 0, none⟩ = some (.slice (some ⟨g, off, none⟩) (r.length + 1) c)) (go_keep) (fail)
  go_wp2_with fail
  refine HC.out.mono ?_
  rintro e w3 ⟨A3, c3, rfl, h1, h2⟩
  have HX := Lib.hid (HF.out A3 c3 w3 (by rw [He1.out] at h1; exact h1) h2)
  clear h1 h2
  rw [He1.out]
  go_wp2_with fail
  go_ret
  exact HX.out

/-- the first element goes -/
theorem cut_whole_end {F : Foot} {q sent c0 c1 c2 g off c : Nat} {A0 A1 A2 : Option Addr} {b : List UInt8} {r : List (List UInt8)} {vs' : List Value} {most : Int} {G : Foot} {w : World} {u : Int} (hu : u = (r.flatten.length : Int))
    (hk : Bk w q 68 #[.slice (some ⟨g, off, none⟩) (b :: r).length c, .int .i64 ((b :: r).flatten.length : Int), .int .i64 most, .int .i64 (sent : Int)])
    (ho : Own w 23 1 (some ⟨g, off, none⟩) (b :: r).length c (.slice A0 b.length c0 :: vs')) (hgq : g ≠ q)
    (hbs : Bodies w G vs' r) (hne : ∀ x ∈ b :: r, x ≠ []) (hF : F q) (hA : ∀ k, sf (some ⟨g, off, none⟩) k → F k ∧ ¬ G k) (hG : ∀ k, G k → F k ∧ k ≠ q) (hlt : ∀ k, F k → k < w.heap.size)
    (hA2 : ∀ k, sf A2 k → k = g) (ho2 : ∀ w e v vs, Own w e 1 (some ⟨g, off, none⟩) (r.length + 1) c (v :: vs) → Own w e 1 A2 r.length c2 vs) :
    Qu ((((w.setCell ⟨g, off, none⟩ (.slice A1 0 c1)).setCell ⟨q, 0, none⟩ (.slice A2 r.length c2)).setCell ⟨q, 1, none⟩ (.int .i64 u)).setCell ⟨q, 3, none⟩ (.int .i64 ((sent : Int) + (b.length : Int)))).drew F q r most (sent + b.length) ∧
    Chg F w ((((w.setCell ⟨g, off, none⟩ (.slice A1 0 c1)).setCell ⟨q, 0, none⟩ (.slice A2 r.length c2)).setCell ⟨q, 1, none⟩ (.int .i64 u)).setCell ⟨q, 3, none⟩ (.int .i64 ((sent : Int) + (b.length : Int)))).drew := by
  have hgF := hA g (by rw [sf_some])
  have c1' : Chg (fun k => k = g ∨ k = q) w ((((w.setCell ⟨g, off, none⟩ (.slice A1 0 c1)).setCell ⟨q, 0, none⟩ (.slice A2 r.length c2)).setCell ⟨q, 1, none⟩ (.int .i64 u)).setCell ⟨q, 3, none⟩ (.int .i64 ((sent : Int) + (b.length : Int)))) :=
    ((((Chg.refl _ w).put (.inl (.inl rfl)) _).put (.inl (.inr rfl)) _).put (.inl (.inr rfl)) _).put (.inl (.inr rfl)) _
  have hGn : ∀ k, G k → ¬ (k = g ∨ k = q) := fun k hx e => by
    rcases e with e | e
    · exact hgF.2 (e ▸ hx)
    · exact (hG _ hx).2 e
  refine ⟨Qu.drew ⟨A2, c2, vs', G, ?_, ?_, hbs.chg c1' fun k _ hk => hGn k hk, fun x hx => hne x (List.mem_cons_of_mem _ hx), hF, fun k hk => hA2 k hk ▸ hgF, hG, fun k hk => Nat.lt_of_lt_of_le (hlt k hk) c1'.size⟩, (c1'.mono ?_).drew⟩
  · have hk1 := (((hk.far (p := ⟨g, off, none⟩) (fun e => hgq e.symm) (.slice A1 0 c1)).put 0 (.slice A2 r.length c2)).put 1 (.int .i64 u)).put 3 (.int .i64 ((sent : Int) + (b.length : Int)))
    rw [← hu, show ((sent + b.length : Nat) : Int) = (sent : Int) + (b.length : Int) from by omega]
    exact hk1
  · have h1 := ho.put 0 (by simp) (.slice A1 0 c1)
    simp only [Nat.add_zero, List.set_cons_zero] at h1
    have h2 := ho2 _ _ _ _ h1
    have h3 : Chg (fun k => k = q) (w.setCell ⟨g, off, none⟩ (.slice A1 0 c1)) ((((w.setCell ⟨g, off, none⟩ (.slice A1 0 c1)).setCell ⟨q, 0, none⟩ (.slice A2 r.length c2)).setCell ⟨q, 1, none⟩ (.int .i64 u)).setCell ⟨q, 3, none⟩ (.int .i64 ((sent : Int) + (b.length : Int)))) :=
      (((Chg.refl (fun k => k = q) _).put (p := ⟨q, 0, none⟩) (.inl rfl) _).put (p := ⟨q, 1, none⟩) (.inl rfl) _).put (p := ⟨q, 3, none⟩) (.inl rfl) _
    exact h2.chg h3 fun k _ hk e => hgq ((hA2 k hk).symm.trans e)
  · rintro k _ (rfl | rfl)
    · exact hgF.1
    · exact hF

set_option maxRecDepth 100000 in
theorem cut_whole {F : Foot} {q sent : Nat} {b : List UInt8} {r : List (List UInt8)} {most : Int} (n : Nat) (w : World) (hn : b.length ≤ n) (hm : sent + (b :: r).flatten.length ≤ 1099511627776) (h : Qu w F q (b :: r) most sent) :
    Calls Try.prog 37 #[.pointer (some ⟨q, 0, none⟩), .int .i64 n] w (Cut b r n F q most sent w) := by
  obtain ⟨A, c, vs, G, hk, ho, hb, hne, hF, hA, hG, hlt⟩ := h
  obtain ⟨v, vs', rfl⟩ : ∃ v vs', vs = v :: vs' := by
    cases vs with
    | nil => exact hb.elim
    | cons v vs' => exact ⟨v, vs', rfl⟩
  obtain ⟨⟨A0, c0, rfl, hA0, hc0, hm0, hr0⟩, hbs⟩ := hb
  obtain ⟨g, off, cur, rfl, hgb, hcap, hmax, hfit, hcur⟩ : ∃ g off cur, A = some ⟨g, off, none⟩ ∧ Bk w g 23 cur ∧ (b :: r).length ≤ c ∧ c ≤ maxLen ∧ off + c * 1 ≤ cur.size ∧ ∀ j u, (Value.slice A0 b.length c0 :: vs')[j]? = some u → cur[off + j]? = some u := by
    rcases ho.2 with ⟨_, h, _⟩ | h
    · simp at h
    · exact h
  have hgq : g ≠ q := by
    rintro rfl
    unfold Bk at hk hgb
    rw [hk] at hgb
    injection hgb with hgb
    injection hgb with _ ht
    exact absurd ht (by decide)
  have hqg : q ≠ g := fun e => hgq e.symm
  obtain ⟨A1, c1, hA1, hc1, hm1, hrun1, hrd1⟩ := cut_hiG A0 c0 b.length b.length hA0 hc0 hm0 (Nat.le_refl _)
  obtain ⟨A2, c2, hrun2, hA2, ho2⟩ := cut_one g off c r.length (by simpa using hcap) hmax
  have hlo := cut_lo A0 c0 b.length b.length hA0 hc0 hm0 (Nat.le_refl _)
  obtain ⟨hQ, hC⟩ := cut_whole_end (A1 := A1) (c1 := c1) (u := (b.length : Int) + (r.flatten.length : Int) - (b.length : Int)) (by omega) hk ho hgq hbs hne hF hA hG hlt hA2 ho2
  have e1 : b.take n = b := List.take_of_length_le hn
  have hch : Chg (fun k => k = g ∨ k = q) w ((((w.setCell ⟨g, off, none⟩ (.slice A1 0 c1)).setCell ⟨q, 0, none⟩ (.slice A2 r.length c2)).setCell ⟨q, 1, none⟩ (.int .i64 ((b.length : Int) + (r.flatten.length : Int) - (b.length : Int)))).setCell ⟨q, 3, none⟩ (.int .i64 ((sent : Int) + (b.length : Int)))).drew :=
    (((((Chg.refl _ w).put (.inl (.inl rfl)) _).put (.inl (.inr rfl)) _).put (.inl (.inr rfl)) _).put (.inl (.inr rfl)) _).drew
  obtain ⟨W2, hW2⟩ : ∃ W2, ((((w.setCell ⟨g, off, none⟩ (.slice A1 0 c1)).setCell ⟨q, 0, none⟩ (.slice A2 r.length c2)).setCell ⟨q, 1, none⟩ (.int .i64 ((b.length : Int) + (r.flatten.length : Int) - (b.length : Int)))).setCell ⟨q, 3, none⟩ (.int .i64 ((sent : Int) + (b.length : Int)))).drew = W2 := ⟨_, rfl⟩
  rw [hW2] at hQ hC hch
  have hcl := clone_own A0 c0 W2.heap.size b W2 (by simp at hm; omega) hA0 (Nat.le_refl _) (hr0.chg hch (fun k _ hx e => by
          rcases e with e | e
          · exact (hA g (by rw [sf_some])).2 (e ▸ hx)
          · exact (hG _ hx).2 e)).rd
  have hfin : ∀ A c w', w'.ownsRow W2.heap.size 5 1 (.slice A b.length c) b.length (bv b) → Below W2.heap.size W2 w' → Cut b r n F q most sent w (.returned (.slice A b.length c)) w' := by
    intro A c w' h1 h2
    refine ⟨A, c, by rw [e1], (by obtain ⟨A', c', hv, h3, _⟩ := own_form h1; cases hv; exact h3), by rw [e1]; exact own_le h1 hC.size, ?_, hC.bel h2⟩
    unfold cutQ
    rw [e1, if_neg (by omega)]
    exact hQ.bel h2
  have HC := Lib.hid hcl
  have HF := Lib.hid hfin
  clear hcl hfin hQ hC hr0 hch e1
  subst hW2
  have k0 := hk.cell 0
  have k1 := hk.cell 1
  have k2 := hk.cell 2
  have k3 := hk.cell 3
  have kf := fun i => hk.free i
  have g0 : w.cell? ⟨g, off, none⟩ = some (.slice A0 b.length c0) := by rw [hgb.cell]; exact hcur 0 _ rfl
  have gf := hgb.free off
  have hfl : (b :: r).flatten.length = b.length + r.flatten.length := by simp
  rw [hfl] at k1 hm
  clear hfl hrd1 hA hG hlt hF hne ho hk hbs hA2 ho2 hfit hcur
  generalize r.flatten.length = m at *
  simp at k0 k1 k2 k3
  rw [Nat.sub_self] at hrun1
  have walk : (n : Int) = (b.length : Int) ∨ ((b.length : Int) < (n : Int)) → Calls Try.prog 37 #[.pointer (some ⟨q, 0, none⟩), .int .i64 n] w (Cut b r n F q most sent w) := by
    rintro (he | hlt)
    · rw [he]
      clear hn he
      go_enter Try.func37, Try.ntmps37
      go_wp2_with fail
      go_region_held3 (fun w' => w'.cell? ⟨q, 0, none⟩ = some (.slice (some ⟨g, off, none⟩) (r.length + 1) c)) (go_keep) (fail)
      go_wp2_with fail
      refine HC.out.mono ?_
      rintro e w3 ⟨A3, c3, rfl, h1, h2⟩
      have HX := Lib.hid (HF.out A3 c3 w3 h1 h2)
      clear h1 h2
      go_wp2_with fail
      go_ret
      exact HX.out
    · have hmin : min (n : Int) (b.length : Int) = b.length := by omega
      have hnle : ¬ (n : Int) ≤ (b.length : Int) := by omega
      clear hn
      go_enter Try.func37, Try.ntmps37
      go_wp2_with fail
      go_region_held3 (fun w' => w'.cell? ⟨q, 0, none⟩ = some (.slice (some ⟨g, off, none⟩) (r.length + 1) c)) (go_keep) (fail)
      go_wp2_with fail
      refine HC.out.mono ?_
      rintro e w3 ⟨A3, c3, rfl, h1, h2⟩
      have HX := Lib.hid (HF.out A3 c3 w3 h1 h2)
      clear h1 h2
      go_wp2_with fail
      go_ret
      exact HX.out
  exact walk (by omega)

theorem cut_any {F : Foot} {q sent : Nat} {b : List UInt8} {r : List (List UInt8)} {most : Int} (n : Nat) (w : World) (h0 : 0 < n) (hm : sent + (b :: r).flatten.length ≤ 1099511627776) (h : Qu w F q (b :: r) most sent) :
    Calls Try.prog 37 #[.pointer (some ⟨q, 0, none⟩), .int .i64 n] w (Cut b r n F q most sent w) := by
  by_cases hn : n < b.length
  · exact cut_part n w h0 hn hm h
  · exact cut_whole n w (by omega) hm h
end Go.Proofs.Ythoclemgiopjpaa.outq
