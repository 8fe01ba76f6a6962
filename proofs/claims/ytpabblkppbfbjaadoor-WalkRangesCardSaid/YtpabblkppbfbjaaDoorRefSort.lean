/- What confluenceref01.Cmp, confluencelaw07.Few, confluenceref07.Same and Sort return, for rows of prefixes. Conditions as each lemma states. -/
import Derived.Test.YtpabblkppbfbjaaDoorNlriSort
import Derived.Test.YtpabblkppbfbjaaDoorPfxRef0
import Derived.Test.YtpabblkppbfbjaaDoorSplice
import Derived.Test.YtpabblkppbfbjaaDoorStruct
import Derived.Deep.RegionHeld3
import Derived.Deep.QuietTactic
import Derived.OwnWalk
namespace Go.Proofs.YtpabblkppbfbjaaDoor.srt
open Go.RowKit Go.Proofs.YtpabblkppbfbjaaDoor.kit Go.Proofs.YtpabblkppbfbjaaDoor.pfx Go.Proofs.YtpabblkppbfbjaaDoor.mem Go.Proofs.YtpabblkppbfbjaaDoor.foot
set_option linter.unusedVariables false
set_option linter.unusedSimpArgs false

def cmpR (x y : Pf) : Int := if plt x y then -1 else if x = y then 0 else 1
theorem cmpR_lt (x y : Pf) : cmpR x y < 0 ↔ plt x y := by
  unfold cmpR
  split
  · rename_i h; exact ⟨fun _ => h, fun _ => by decide⟩
  · rename_i h
    split
    · exact ⟨fun h => absurd h (by decide), fun k => absurd k h⟩
    · exact ⟨fun h => absurd h (by decide), fun k => absurd k h⟩
theorem cmpR_one {x y : Pf} (h : ¬ plt x y) (k : x ≠ y) : cmpR x y = 1 := by unfold cmpR; rw [if_neg h, if_neg k]
theorem fv_take2 (l : List Pf) (n : Nat) : (fv l).take (n * 2) = fv (l.take n) := (fv_take l n).symm
theorem fv_drop2 (l : List Pf) (n : Nat) : (fv l).drop (n * 2) = fv (l.drop n) := (fv_drop l n).symm

/-- prefixes of the call's own, handed back -/
def RetF (out : List Pf) (w : World) (e : Ending) (w' : World) : Prop := ∃ A c, e = .returned (.slice A out.length c) ∧ Own w' 24 2 A out.length c (fv out) ∧ (∀ x, sf A x → w.heap.size ≤ x) ∧ Below w.heap.size w w'

theorem fv_two {w : World} {G : Foot} {b off n : Nat} {l : List Pf} (h : Rg w G 2 (some ⟨b, off, none⟩) n (fv l)) {i : Nat} {p : Pf} (hp : l[i]? = some p) (hn : 0 < n) :
    w.cell? ⟨b, off + i * 2, none⟩ = some (.int .u32 (p.1 : Int)) ∧ w.cell? ⟨b, off + i * 2 + 1, none⟩ = some (.int .i64 p.2) ∧ b < w.heap.size := by
  obtain ⟨b', off', e, _, hl, hc⟩ := h.2 hn
  cases e
  have hq := fv_at l i p hp
  exact ⟨hc _ _ hq.1, by rw [Nat.add_assoc]; exact hc _ _ hq.2, hl⟩

set_option maxHeartbeats 1000000 in
theorem sameP_eq {G H : Foot} (A A' : Option Addr) (c c' : Nat) (l : List Pf) (w : World) (hl : l.length ≤ 1000000000) (h : Rg w G 2 A l.length (fv l)) (h' : Rg w H 2 A' l.length (fv l)) :
    Calls Tryd.prog 8 #[.slice A l.length c, .slice A' l.length c'] w fun e w' => e = .returned (.bool true) ∧ Below w.heap.size w w' := by
  have HR := Lib.hid h
  have HR' := Lib.hid h'
  clear h h'
  have d0 : ((l.length : Int) != (l.length : Int)) = false := by simp
  go_enter Tryd.func8, Tryd.ntmps8
  go_wp2_with fail
  go_loopw [5] (fun i wr => ∃ k m : Nat, k ≤ l.length ∧ i = .int .i64 k ∧ wr = w.drewN m) (fun i _ => l.length - (intOf i).toNat)
  case atStart => exact ⟨0, 0, by omega, rfl, rfl⟩
  case round =>
    obtain ⟨k, m, hk, rfl, rfl⟩ := hrel
    by_cases hlt : k < l.length
    · obtain ⟨p, hp⟩ : ∃ p, l[k]? = some p := ⟨l[k], List.getElem?_eq_getElem hlt⟩
      obtain ⟨b, off, rfl⟩ : ∃ b off, A = some ⟨b, off, none⟩ := by
        obtain ⟨b, off, e, _⟩ := HR.out.2 (by omega)
        exact ⟨b, off, e⟩
      obtain ⟨b', off', rfl⟩ : ∃ b off, A' = some ⟨b, off, none⟩ := by
        obtain ⟨b, off, e, _⟩ := HR'.out.2 (by omega)
        exact ⟨b, off, e⟩
      have x0 := fv_two HR.out hp (by omega)
      have y0 := fv_two HR'.out hp (by omega)
      have c0 := x0.1
      have c1 := x0.2.1
      have c0' := y0.1
      have c1' := y0.2.1
      have hki : (k : Int) < (l.length : Int) := by omega
      clear x0 y0 hp
      go_wp2_with fail
      go_quiet (fail)
      go_wp2_with fail
      go_roundw
      case rel => exact ⟨k + 1, _, by omega, by go_num, rfl⟩
      case measure => simp [intOf]; omega
    · obtain rfl : k = l.length := by omega
      go_wp2_with fail
      go_ret
      exact ⟨rfl, below_drewN (Below.refl _ _) _⟩

/-- where one is put -/
def spotS (o : List Pf) (x : Pf) : Nat := (o.takeWhile fun p => decide (plt p x)).length
def insS (o : List Pf) (x : Pf) : List Pf := if gdP x = true ∧ o[spotS o x]? ≠ some x then o.take (spotS o x) ++ [x] ++ o.drop (spotS o x) else o
theorem spotS_le (o : List Pf) (x : Pf) : spotS o x ≤ o.length := (List.takeWhile_sublist _).length_le
theorem spotS_spec : ∀ (o : List Pf) (x : Pf) (t : Nat), t ≤ spotS o x → (t = spotS o x ↔ ¬ ∃ p, o[t]? = some p ∧ plt p x)
  | [], x, t, h => by
    have : spotS [] x = 0 := rfl
    simp; omega
  | q :: o, x, t, h => by
    by_cases hq : plt q x
    · have e : spotS (q :: o) x = spotS o x + 1 := by
        unfold spotS
        rw [List.takeWhile_cons, if_pos (by simpa using hq)]
        rfl
      rw [e] at h ⊢
      rcases t with _ | t
      · simp [hq]
      · have := spotS_spec o x t (by omega)
        simp only [List.getElem?_cons_succ]
        rw [← this]
        omega
    · have e : spotS (q :: o) x = 0 := by
        unfold spotS
        rw [List.takeWhile_cons, if_neg (by simpa using hq)]
        rfl
      rw [e] at h ⊢
      obtain rfl : t = 0 := by omega
      simp [hq]
theorem spotS_take : ∀ (o : List Pf) (x : Pf), ∀ p ∈ o.take (spotS o x), plt p x
  | [], x, p, h => by simp at h
  | q :: o, x, p, h => by
    unfold spotS at h
    rw [List.takeWhile_cons] at h
    split at h
    · rename_i hq
      simp only [List.length_cons, List.take_succ_cons] at h
      rcases List.mem_cons.1 h with rfl | h
      · simpa using hq
      · exact spotS_take o x p h
    · simp at h
theorem spotS_drop : ∀ (o : List Pf) (x : Pf), o.Pairwise plt → ∀ p ∈ o.drop (spotS o x), ¬ plt p x
  | [], x, _, p, h => by simp at h
  | q :: o, x, hp, p, h => by
    obtain ⟨h1, h2⟩ := List.pairwise_cons.1 hp
    unfold spotS at h
    rw [List.takeWhile_cons] at h
    split at h
    · simp only [List.length_cons, List.drop_succ_cons] at h
      exact spotS_drop o x h2 p h
    · rename_i hq
      simp only [List.length_nil, List.drop_zero] at h
      have hq : ¬ plt q x := by simpa using hq
      rcases List.mem_cons.1 h with rfl | h
      · exact hq
      · exact fun hc => hq (plt_trans (h1 p h) hc)
theorem insS_ok {l o : List Pf} (h : IsSort gdP l o) (x : Pf) : IsSort gdP (l ++ [x]) (insS o x) := by
  unfold insS
  by_cases hg : gdP x = true
  · by_cases hx : o[spotS o x]? = some x
    · rw [if_neg (fun hc => hc.2 hx)]
      refine ⟨h.strict, fun y => ?_⟩
      rw [h.mem y, List.mem_append, List.mem_singleton]
      constructor
      · rintro ⟨h1, h2⟩; exact ⟨.inl h1, h2⟩
      · rintro ⟨h1 | rfl, h2⟩
        · exact ⟨h1, h2⟩
        · exact (h.mem _).1 (List.mem_of_getElem? hx)
    · rw [if_pos ⟨hg, hx⟩]
      have hto : o = o.take (spotS o x) ++ o.drop (spotS o x) := (List.take_append_drop _ o).symm
      have h1 := spotS_take o x
      have h2 := spotS_drop o x h.strict
      have hst := h.strict
      rw [hto] at hst
      have hap := List.pairwise_append.1 hst
      have h3 : ∀ p ∈ o.drop (spotS o x), plt x p := by
        intro p hp
        rcases plt_total x p with h4 | h4 | h4
        · exact h4
        · exfalso
          obtain ⟨j, hj, hj2⟩ := List.mem_iff_getElem.1 hp
          subst h4
          rcases j with _ | j
          · rw [List.getElem_drop] at hj2
            exact hx ((List.getElem?_eq_getElem (by rw [List.length_drop] at hj; omega)).trans (congrArg some hj2))
          · have hlt : spotS o x < o.length := by rw [List.length_drop] at hj; omega
            have h5 := List.pairwise_iff_getElem.1 hap.2.1 0 (j + 1) (by rw [List.length_drop]; omega) hj (by omega)
            rw [hj2] at h5
            exact h2 _ (List.getElem_mem _) h5
        · exact absurd h4 (h2 p hp)
      refine ⟨List.pairwise_append.2 ⟨List.pairwise_append.2 ⟨hap.1, by simp, fun p hp q hq => ?_⟩, hap.2.1, fun p hp q hq => ?_⟩, fun y => ?_⟩
      · rw [List.mem_singleton.1 hq]; exact h1 p hp
      · rcases List.mem_append.1 hp with hp | hp
        · exact hap.2.2 p hp q hq
        · rw [List.mem_singleton.1 hp]; exact h3 q hq
      · have hm := h.mem y
        rw [hto] at hm
        simp only [List.mem_append, List.mem_singleton] at hm ⊢
        constructor
        · rintro ((h4 | h4) | h4)
          · have := hm.1 (.inl h4); exact ⟨.inl this.1, this.2⟩
          · exact ⟨.inr h4, by rw [h4]; exact hg⟩
          · have := hm.1 (.inr h4); exact ⟨.inl this.1, this.2⟩
        · rintro ⟨h4 | h4, h5⟩
          · rcases hm.2 ⟨h4, h5⟩ with h6 | h6
            · exact .inl (.inl h6)
            · exact .inr h6
          · exact .inl (.inr h4)
  · rw [if_neg (fun hc => hg hc.1)]
    refine ⟨h.strict, fun y => ?_⟩
    rw [h.mem y, List.mem_append, List.mem_singleton]
    constructor
    · rintro ⟨h1, h2⟩; exact ⟨.inl h1, h2⟩
    · rintro ⟨h1 | rfl, h2⟩
      · exact ⟨h1, h2⟩
      · exact absurd h2 hg
theorem insS_len (o : List Pf) (x : Pf) : (insS o x).length ≤ o.length + 1 := by
  unfold insS
  split
  · have := spotS_le o x
    simp only [List.length_append, List.length_take, List.length_drop, List.length_singleton]
    omega
  · omega
theorem scut_lo (A : Option Addr) (c l n : Nat) (hA : A = none → c = 0) (hc : l ≤ c) (hm : c ≤ maxLen) (hn : n ≤ l) (w : World) :
    (Instr.slice 31 (.slice A l c) none (some (.int .i64 n)) none).run Tryd.prog w = .ok (.slice A n c) w := by
  unfold maxLen at hm
  rcases A with _ | ad
  · have := hA rfl
    subst this
    obtain rfl : l = 0 := by omega
    obtain rfl : n = 0 := by omega
    have h : ∀ w, (Instr.slice 31 (.slice none 0 0) none (some (.int .i64 0)) none).run Tryd.prog w = .ok (.slice none 0 0) w := fun w => by kernel_rfl
    exact h w
  · have h1 : (n : Int) ≤ (c : Int) := by omega
    go_simp
theorem scut_hi (A : Option Addr) (c l n : Nat) (hA : A = none → c = 0) (hc : l ≤ c) (hm : c ≤ maxLen) (hn : n ≤ l) :
    ∃ A' c', (A' = none → c' = 0) ∧ l - n ≤ c' ∧ c' ≤ maxLen ∧ (∀ w, (Instr.slice 31 (.slice A l c) (some (.int .i64 n)) none none).run Tryd.prog w = .ok (.slice A' (l - n) c') w) ∧ (∀ w G (x : List Value), Rg w G 2 A l x → Rg w G 2 A' (l - n) (x.drop (n * 2))) := by
  have hm' := hm
  unfold maxLen at hm
  rcases A with _ | ad
  · have := hA rfl
    subst this
    obtain rfl : l = 0 := by omega
    obtain rfl : n = 0 := by omega
    exact ⟨none, 0, fun _ => rfl, Nat.le_refl _, Nat.zero_le _, fun w => by kernel_rfl, fun w G x h => by simpa using h⟩
  · by_cases hz : n = c
    · subst hz
      obtain rfl : l = n := by omega
      refine ⟨some ad, 0, (fun h => by cases h), by omega, Nat.zero_le _, fun w => ?_, fun w G x h => ?_⟩
      · go_simp
      · rw [List.drop_of_length_le (by rw [h.1]; exact Nat.le_refl _), Nat.sub_self]; exact Rg.nil _ _ _ _
    · refine ⟨some (ad.add (n * 2)), c - n, (fun h => by cases h), by omega, by unfold maxLen; omega, fun w => ?_, fun w G x h => h.skip hn⟩
      have h1 : (n : Int) ≤ (l : Int) := by omega
      go_simp
      intro h; exact absurd h.symm hz
theorem sown_lo {w : World} {A : Option Addr} {m c n : Nat} {xs : List Value} (h : Own w 24 2 A m c xs) (hn : n ≤ m) (w' : World) :
    (Instr.slice 31 (.slice A m c) none (some (.int .i64 n)) none).run Tryd.prog w' = .ok (.slice A n c) w' := scut_lo A c m n h.nil h.cap h.max hn w'
theorem sown_hi {w : World} {A : Option Addr} {m c n : Nat} {xs : List Value} (h : Own w 24 2 A m c xs) (hn : n ≤ m) :
    ∃ A' c', (A' = none → c' = 0) ∧ m - n ≤ c' ∧ c' ≤ maxLen ∧ (∀ w, (Instr.slice 31 (.slice A m c) (some (.int .i64 n)) none none).run Tryd.prog w = .ok (.slice A' (m - n) c') w) ∧ (∀ w G (x : List Value), Rg w G 2 A m x → Rg w G 2 A' (m - n) (x.drop (n * 2))) := scut_hi A c m n h.nil h.cap h.max hn
theorem rg_boxS {w : World} {g : Nat} {t : TypeId} {a b : Value} (h : Bk w g t #[a, b]) : Rg w (fun k => k = g) 2 (some ⟨g, 0, none⟩) 1 [a, b] :=
  ⟨rfl, fun _ => ⟨g, 0, rfl, rfl, h.lt, fun j u hu => by rw [h.cell, Nat.zero_add]; simpa using hu⟩⟩
theorem acc_apS {w w0 w1 w2 : World} {e : TypeId} {size n m c c' : Nat} {A A' : Option Addr} {xs news : List Value} (hc : Chg (sf A) w0 w2) (hf : Fresh w0 (sf A) (sf A')) (ho : Own w2 e size A' m c' news) (h : Acc w e size w1 A n c xs) (h1 : w0.heap = w1.heap) (h2 : w0.os = w1.os) (h3 : w0.tape = w1.tape) (h4 : w0.output = w1.output) : Acc w e size w2 A' m c' news :=
  (h.go (w2 := w0) ⟨h2, h3, h4, by rw [h1]; exact Nat.le_refl _, fun k _ => by rw [h1]⟩).app ho hc hf
theorem bk_apS {w0 w1 w2 : World} {g0 g : Nat} {t : TypeId} {cs : Array Value} (hc : Chg (sf (some ⟨g0, 0, none⟩)) w0 w2) (h : Bk w1 g t cs) (h1 : w0.heap = w1.heap) (hn : g0 ≠ g) : Bk w2 g t cs :=
  Bk.chg (w := w0) (by unfold Bk; rw [h1]; exact h) hc (by rw [sf_some]; exact hn)

end Go.Proofs.YtpabblkppbfbjaaDoor.srt
