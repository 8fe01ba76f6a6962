/- What confluenceref01.Cmp, confluencelaw07.Few, confluenceref07.Same and Sort return, for rows of prefixes. Conditions as each lemma states. -/
import Derived.Test.YtajilbapjpfloaaNlriSort
import Derived.Test.YtajilbapjpfloaaPfxRef0
import Derived.Test.YtajilbapjpfloaaSplice
import Derived.Test.YtajilbapjpfloaaStruct
import Derived.Deep.RegionHeld3
import Derived.Deep.QuietTactic
import Derived.OwnWalk
namespace Go.Proofs.Ytajilbapjpfloaa.srt
open Go.RowKit Go.Proofs.Ytajilbapjpfloaa.kit Go.Proofs.Ytajilbapjpfloaa.pfx Go.Proofs.Ytajilbapjpfloaa.mem Go.Proofs.Ytajilbapjpfloaa.foot
set_option linter.unusedVariables false
set_option linter.unusedSimpArgs false

def cmpR (x y : Pf) : Int := if plt x y then -1 else if x = y then 0 else 1
theorem cmpR_lt (x y : Pf) : cmpR x y < 0 ↔ plt x y := by
  unfold cmpR
  split
  · rename_i h; exact ⟨fun _ => h, fun _ => by decide⟩
  · rename_i h
    split
    · exact ⟨fun h => absurd h (by decide), fun k => absurd k h⟩
    · exact ⟨fun h => absurd h (by decide), fun k => absurd k h⟩
theorem cmpR_one {x y : Pf} (h : ¬ plt x y) (k : x ≠ y) : cmpR x y = 1 := by unfold cmpR; rw [if_neg h, if_neg k]
theorem fv_take2 (l : List Pf) (n : Nat) : (fv l).take (n * 2) = fv (l.take n) := (fv_take l n).symm
theorem fv_drop2 (l : List Pf) (n : Nat) : (fv l).drop (n * 2) = fv (l.drop n) := (fv_drop l n).symm

set_option maxRecDepth 100000 in
theorem refCmp_any (x y : Pf) (w : World) :
    Calls Try.prog 84 #[.agg #[.int .u32 (x.1 : Int), .int .i64 x.2], .agg #[.int .u32 (y.1 : Int), .int .i64 y.2]] w fun e w' => e = .returned (.int .i64 (cmpR x y)) ∧ Below w.heap.size w w' := by
  obtain ⟨a, m⟩ := x
  obtain ⟨b, n⟩ := y
  have HB : Hid (Below w.heap.size w ((w.alloc (.cells #[.int .u32 (a : Int), .int .i64 m] 69)).alloc (.cells #[.int .u32 (b : Int), .int .i64 n] 69))) := ((Below.refl _ _).alloc (Nat.le_refl _) _).alloc (by simp) _
  dsimp only
  by_cases h1 : a < b
  · have e : cmpR (a, m) (b, n) = -1 := by unfold cmpR; rw [if_pos (.inl h1)]
    rw [e]
    have d1 : (a : Int) < (b : Int) := by omega
    clear h1 e
    go_enter Try.func84, Try.ntmps84
    go_wp2_with fail
    go_ret
    exact ⟨rfl, HB.out⟩
  · have d1 : ¬ (a : Int) < (b : Int) := by omega
    by_cases h2 : a = b
    · subst h2
      by_cases h3 : m < n
      · have e : cmpR (a, m) (a, n) = -1 := by unfold cmpR; rw [if_pos (.inr ⟨rfl, h3⟩)]
        rw [e]
        clear h1 e
        go_enter Try.func84, Try.ntmps84
        go_wp2_with fail
        go_ret
        exact ⟨rfl, HB.out⟩
      · by_cases h4 : m = n
        · subst h4
          have e : cmpR (a, m) (a, m) = 0 := by unfold cmpR; rw [if_neg (plt_irrefl _), if_pos rfl]
          rw [e]
          clear h1 e
          go_enter Try.func84, Try.ntmps84
          go_wp2_with fail
          go_ret
          exact ⟨rfl, HB.out⟩
        · have e : cmpR (a, m) (a, n) = 1 := cmpR_one (by unfold plt; dsimp only; omega) (fun hc => h4 (congrArg Prod.snd hc))
          rw [e]
          have d4 : (m == n) = false := by rw [beq_eq_false_iff_ne]; exact h4
          clear h1 e
          go_enter Try.func84, Try.ntmps84
          go_wp2_with fail
          go_ret
          exact ⟨rfl, HB.out⟩
    · have e : cmpR (a, m) (b, n) = 1 := cmpR_one (by unfold plt; dsimp only; omega) (fun hc => h2 (congrArg Prod.fst hc))
      rw [e]
      have d2 : ((a : Int) == (b : Int)) = false := by rw [beq_eq_false_iff_ne]; omega
      clear h1 e
      go_enter Try.func84, Try.ntmps84
      go_wp2_with fail
      go_ret
      exact ⟨rfl, HB.out⟩

/-- prefixes of the call's own, handed back -/
def RetF (out : List Pf) (w : World) (e : Ending) (w' : World) : Prop := ∃ A c, e = .returned (.slice A out.length c) ∧ Own w' 69 2 A out.length c (fv out) ∧ (∀ x, sf A x → w.heap.size ≤ x) ∧ Below w.heap.size w w'

set_option maxRecDepth 100000 in
theorem fewP_any {G : Foot} (A : Option Addr) (c : Nat) (l : List Pf) (most : Nat) (w : World) (hmost : most ≤ 100000) (hcap : l.length ≤ c) (hm : l.length ≤ maxLen) (hA : A = none → c = 0) (hs : Rg w G 2 A l.length (fv l)) :
    Calls Try.prog 40 #[.slice A l.length c, .int .i64 most] w (RetF (l.take most) w) := by
  obtain ⟨i0, hi, hz0, hz1, hz2⟩ := info_parts info_pf
  have Hi := Lib.hid hi
  have Hz0 := Lib.hid hz0
  have Hz1 := Lib.hid hz1
  have Hz2 := Lib.hid hz2
  have HA0 : Hid (Acc w 69 2 (w.alloc (.cells #[] 69)) (some ⟨w.heap.size, 0, none⟩) 0 0 []) := Acc.start ((Below.refl _ _).alloc (Nat.le_refl _) _) (Bk.new w _ _) (Nat.le_refl _)
  clear hi hz0 hz1 hz2
  unfold maxLen at hm
  by_cases h : most < l.length
  · have hr := hs.take (k := most) (by omega)
    rw [fv_take2] at hr
    obtain ⟨ad, rfl⟩ : ∃ ad, A = some ad := by
      obtain ⟨b, off, e, _⟩ := hs.2 (by omega)
      exact ⟨_, e⟩
    have e1 : (l.take most).length = most := by simp; omega
    have HR := Lib.hid (HA0.out.rg hr)
    have HM : Hid (0 + most ≤ maxLen) := by show _ ≤ maxLen; unfold maxLen; omega
    clear hs hr hA
    go_enter Try.func40, Try.ntmps40
    go_wp2_with (at_builtin; refine wpList_app _ rfl (.tmp 12) (.tmp 13) _ rfl 69 i0 _ 2 16 Try.underlying62 Hi.out Hz0.out Hz1.out Hz2.out rfl (by omega) (some ⟨w.heap.size, 0, none⟩) 0 0 [] rfl HA0.out.own _ (some ad) most c (by intro h; cases h) (fv (l.take most)) rfl HR.out (fv_one _) HM.out (by omega) ?_; intro A4 c4 w4 ho4 hc4 hf4; have H4 := Lib.hid (HA0.out.app ho4 hc4 hf4); clear ho4 hc4 hf4)
    go_ret
    have h4 := H4.out
    rw [Nat.zero_add, List.nil_append] at h4
    refine ⟨A4, c4, by rw [e1]; simp, ?_, h4.low, h4.bel⟩
    rw [e1]
    exact h4.own
  · have e1 : l.take most = l := List.take_of_length_le (by omega)
    rw [e1]
    have d1 : decide ((most : Int) < (l.length : Int)) = false := by simp; omega
    have HM : Hid (0 + l.length ≤ maxLen) := by show _ ≤ maxLen; unfold maxLen; omega
    have HN : Hid ((0 + l.length) * 16 ≤ 140737488355328) := by show _ ≤ _; omega
    have HR := Lib.hid (HA0.out.rg hs)
    have HA := Lib.hid hA
    clear hs hA
    go_enter Try.func40, Try.ntmps40
    go_wp2_with (at_builtin; refine wpList_app _ rfl (.tmp 12) (.tmp 13) _ rfl 69 i0 _ 2 16 Try.underlying62 Hi.out Hz0.out Hz1.out Hz2.out rfl (by omega) (some ⟨w.heap.size, 0, none⟩) 0 0 [] rfl HA0.out.own _ A l.length c HA.out (fv l) rfl HR.out (fv_one _) HM.out HN.out ?_; intro A4 c4 w4 ho4 hc4 hf4; have H4 := Lib.hid (HA0.out.app ho4 hc4 hf4); clear ho4 hc4 hf4)
    go_ret
    have h4 := H4.out
    rw [Nat.zero_add, List.nil_append] at h4
    exact ⟨A4, c4, by simp, h4.own, h4.low, h4.bel⟩

theorem fv_two {w : World} {G : Foot} {b off n : Nat} {l : List Pf} (h : Rg w G 2 (some ⟨b, off, none⟩) n (fv l)) {i : Nat} {p : Pf} (hp : l[i]? = some p) (hn : 0 < n) :
    w.cell? ⟨b, off + i * 2, none⟩ = some (.int .u32 (p.1 : Int)) ∧ w.cell? ⟨b, off + i * 2 + 1, none⟩ = some (.int .i64 p.2) ∧ b < w.heap.size := by
  obtain ⟨b', off', e, _, hl, hc⟩ := h.2 hn
  cases e
  have hq := fv_at l i p hp
  exact ⟨hc _ _ hq.1, by rw [Nat.add_assoc]; exact hc _ _ hq.2, hl⟩

set_option maxHeartbeats 1000000 in
theorem sameP_eq {G H : Foot} (A A' : Option Addr) (c c' : Nat) (l : List Pf) (w : World) (hl : l.length ≤ 1000000000) (h : Rg w G 2 A l.length (fv l)) (h' : Rg w H 2 A' l.length (fv l)) :
    Calls Try.prog 48 #[.slice A l.length c, .slice A' l.length c'] w fun e w' => e = .returned (.bool true) ∧ Below w.heap.size w w' := by
  have HR := Lib.hid h
  have HR' := Lib.hid h'
  clear h h'
  have d0 : ((l.length : Int) != (l.length : Int)) = false := by simp
  go_enter Try.func48, Try.ntmps48
  go_wp2_with fail
  go_loopw [5] (fun i wr => ∃ k m : Nat, k ≤ l.length ∧ i = .int .i64 k ∧ wr = w.drewN m) (fun i _ => l.length - (intOf i).toNat)
  case atStart => exact ⟨0, 0, by omega, rfl, rfl⟩
  case round =>
    obtain ⟨k, m, hk, rfl, rfl⟩ := hrel
    by_cases hlt : k < l.length
    · obtain ⟨p, hp⟩ : ∃ p, l[k]? = some p := ⟨l[k], List.getElem?_eq_getElem hlt⟩
      obtain ⟨b, off, rfl⟩ : ∃ b off, A = some ⟨b, off, none⟩ := by
        obtain ⟨b, off, e, _⟩ := HR.out.2 (by omega)
        exact ⟨b, off, e⟩
      obtain ⟨b', off', rfl⟩ : ∃ b off, A' = some ⟨b, off, none⟩ := by
        obtain ⟨b, off, e, _⟩ := HR'.out.2 (by omega)
        exact ⟨b, off, e⟩
      have x0 := fv_two HR.out hp (by omega)
      have y0 := fv_two HR'.out hp (by omega)
      have c0 := x0.1
      have c1 := x0.2.1
      have c0' := y0.1
      have c1' := y0.2.1
      have hki : (k : Int) < (l.length : Int) := by omega
      clear x0 y0 hp
      go_wp2_with fail
      go_quiet (fail)
      go_wp2_with fail
      go_roundw
      case rel => exact ⟨k + 1, _, by omega, by go_num, rfl⟩
      case measure => simp [intOf]; omega
    · obtain rfl : k = l.length := by omega
      go_wp2_with fail
      go_ret
      exact ⟨rfl, below_drewN (Below.refl _ _) _⟩

/-- where one is put -/
def spotS (o : List Pf) (x : Pf) : Nat := (o.takeWhile fun p => decide (plt p x)).length
def insS (o : List Pf) (x : Pf) : List Pf := if gdP x = true ∧ o[spotS o x]? ≠ some x then o.take (spotS o x) ++ [x] ++ o.drop (spotS o x) else o
theorem spotS_le (o : List Pf) (x : Pf) : spotS o x ≤ o.length := (List.takeWhile_sublist _).length_le
theorem spotS_spec : ∀ (o : List Pf) (x : Pf) (t : Nat), t ≤ spotS o x → (t = spotS o x ↔ ¬ ∃ p, o[t]? = some p ∧ plt p x)
  | [], x, t, h => by
    have : spotS [] x = 0 := rfl
    simp; omega
  | q :: o, x, t, h => by
    by_cases hq : plt q x
    · have e : spotS (q :: o) x = spotS o x + 1 := by
        unfold spotS
        rw [List.takeWhile_cons, if_pos (by simpa using hq)]
        rfl
      rw [e] at h ⊢
      rcases t with _ | t
      · simp [hq]
      · have := spotS_spec o x t (by omega)
        simp only [List.getElem?_cons_succ]
        rw [← this]
        omega
    · have e : spotS (q :: o) x = 0 := by
        unfold spotS
        rw [List.takeWhile_cons, if_neg (by simpa using hq)]
        rfl
      rw [e] at h ⊢
      obtain rfl : t = 0 := by omega
      simp [hq]
theorem spotS_take : ∀ (o : List Pf) (x : Pf), ∀ p ∈ o.take (spotS o x), plt p x
  | [], x, p, h => by simp at h
  | q :: o, x, p, h => by
    unfold spotS at h
    rw [List.takeWhile_cons] at h
    split at h
    · rename_i hq
      simp only [List.length_cons, List.take_succ_cons] at h
      rcases List.mem_cons.1 h with rfl | h
      · simpa using hq
      · exact spotS_take o x p h
    · simp at h
theorem spotS_drop : ∀ (o : List Pf) (x : Pf), o.Pairwise plt → ∀ p ∈ o.drop (spotS o x), ¬ plt p x
  | [], x, _, p, h => by simp at h
  | q :: o, x, hp, p, h => by
    obtain ⟨h1, h2⟩ := List.pairwise_cons.1 hp
    unfold spotS at h
    rw [List.takeWhile_cons] at h
    split at h
    · simp only [List.length_cons, List.drop_succ_cons] at h
      exact spotS_drop o x h2 p h
    · rename_i hq
      simp only [List.length_nil, List.drop_zero] at h
      have hq : ¬ plt q x := by simpa using hq
      rcases List.mem_cons.1 h with rfl | h
      · exact hq
      · exact fun hc => hq (plt_trans (h1 p h) hc)
theorem insS_ok {l o : List Pf} (h : IsSort gdP l o) (x : Pf) : IsSort gdP (l ++ [x]) (insS o x) := by
  unfold insS
  by_cases hg : gdP x = true
  · by_cases hx : o[spotS o x]? = some x
    · rw [if_neg (fun hc => hc.2 hx)]
      refine ⟨h.strict, fun y => ?_⟩
      rw [h.mem y, List.mem_append, List.mem_singleton]
      constructor
      · rintro ⟨h1, h2⟩; exact ⟨.inl h1, h2⟩
      · rintro ⟨h1 | rfl, h2⟩
        · exact ⟨h1, h2⟩
        · exact (h.mem _).1 (List.mem_of_getElem? hx)
    · rw [if_pos ⟨hg, hx⟩]
      have hto : o = o.take (spotS o x) ++ o.drop (spotS o x) := (List.take_append_drop _ o).symm
      have h1 := spotS_take o x
      have h2 := spotS_drop o x h.strict
      have hst := h.strict
      rw [hto] at hst
      have hap := List.pairwise_append.1 hst
      have h3 : ∀ p ∈ o.drop (spotS o x), plt x p := by
        intro p hp
        rcases plt_total x p with h4 | h4 | h4
        · exact h4
        · exfalso
          obtain ⟨j, hj, hj2⟩ := List.mem_iff_getElem.1 hp
          subst h4
          rcases j with _ | j
          · rw [List.getElem_drop] at hj2
            exact hx ((List.getElem?_eq_getElem (by rw [List.length_drop] at hj; omega)).trans (congrArg some hj2))
          · have hlt : spotS o x < o.length := by rw [List.length_drop] at hj; omega
            have h5 := List.pairwise_iff_getElem.1 hap.2.1 0 (j + 1) (by rw [List.length_drop]; omega) hj (by omega)
            rw [hj2] at h5
            exact h2 _ (List.getElem_mem _) h5
        · exact absurd h4 (h2 p hp)
      refine ⟨List.pairwise_append.2 ⟨List.pairwise_append.2 ⟨hap.1, by simp, fun p hp q hq => ?_⟩, hap.2.1, fun p hp q hq => ?_⟩, fun y => ?_⟩
      · rw [List.mem_singleton.1 hq]; exact h1 p hp
      · rcases List.mem_append.1 hp with hp | hp
        · exact hap.2.2 p hp q hq
        · rw [List.mem_singleton.1 hp]; exact h3 q hq
      · have hm := h.mem y
        rw [hto] at hm
        simp only [List.mem_append, List.mem_singleton] at hm ⊢
        constructor
        · rintro ((h4 | h4) | h4)
          · have := hm.1 (.inl h4); exact ⟨.inl this.1, this.2⟩
          · exact ⟨.inr h4, by rw [h4]; exact hg⟩
          · have := hm.1 (.inr h4); exact ⟨.inl this.1, this.2⟩
        · rintro ⟨h4 | h4, h5⟩
          · rcases hm.2 ⟨h4, h5⟩ with h6 | h6
            · exact .inl (.inl h6)
            · exact .inr h6
          · exact .inl (.inr h4)
  · rw [if_neg (fun hc => hg hc.1)]
    refine ⟨h.strict, fun y => ?_⟩
    rw [h.mem y, List.mem_append, List.mem_singleton]
    constructor
    · rintro ⟨h1, h2⟩; exact ⟨.inl h1, h2⟩
    · rintro ⟨h1 | rfl, h2⟩
      · exact ⟨h1, h2⟩
      · exact absurd h2 hg
theorem insS_len (o : List Pf) (x : Pf) : (insS o x).length ≤ o.length + 1 := by
  unfold insS
  split
  · have := spotS_le o x
    simp only [List.length_append, List.length_take, List.length_drop, List.length_singleton]
    omega
  · omega
theorem scut_lo (A : Option Addr) (c l n : Nat) (hA : A = none → c = 0) (hc : l ≤ c) (hm : c ≤ maxLen) (hn : n ≤ l) (w : World) :
    (Instr.slice 62 (.slice A l c) none (some (.int .i64 n)) none).run Try.prog w = .ok (.slice A n c) w := by
  unfold maxLen at hm
  rcases A with _ | ad
  · have := hA rfl
    subst this
    obtain rfl : l = 0 := by omega
    obtain rfl : n = 0 := by omega
    have h : ∀ w, (Instr.slice 62 (.slice none 0 0) none (some (.int .i64 0)) none).run Try.prog w = .ok (.slice none 0 0) w := fun w => by kernel_rfl
    exact h w
  · have h1 : (n : Int) ≤ (c : Int) := by omega
    go_simp
theorem scut_hi (A : Option Addr) (c l n : Nat) (hA : A = none → c = 0) (hc : l ≤ c) (hm : c ≤ maxLen) (hn : n ≤ l) :
    ∃ A' c', (A' = none → c' = 0) ∧ l - n ≤ c' ∧ c' ≤ maxLen ∧ (∀ w, (Instr.slice 62 (.slice A l c) (some (.int .i64 n)) none none).run Try.prog w = .ok (.slice A' (l - n) c') w) ∧ (∀ w G (x : List Value), Rg w G 2 A l x → Rg w G 2 A' (l - n) (x.drop (n * 2))) := by
  have hm' := hm
  unfold maxLen at hm
  rcases A with _ | ad
  · have := hA rfl
    subst this
    obtain rfl : l = 0 := by omega
    obtain rfl : n = 0 := by omega
    exact ⟨none, 0, fun _ => rfl, Nat.le_refl _, Nat.zero_le _, fun w => by kernel_rfl, fun w G x h => by simpa using h⟩
  · by_cases hz : n = c
    · subst hz
      obtain rfl : l = n := by omega
      refine ⟨some ad, 0, (fun h => by cases h), by omega, Nat.zero_le _, fun w => ?_, fun w G x h => ?_⟩
      · go_simp
      · rw [List.drop_of_length_le (by rw [h.1]; exact Nat.le_refl _), Nat.sub_self]; exact Rg.nil _ _ _ _
    · refine ⟨some (ad.add (n * 2)), c - n, (fun h => by cases h), by omega, by unfold maxLen; omega, fun w => ?_, fun w G x h => h.skip hn⟩
      have h1 : (n : Int) ≤ (l : Int) := by omega
      go_simp
      intro h; exact absurd h.symm hz
theorem sown_lo {w : World} {A : Option Addr} {m c n : Nat} {xs : List Value} (h : Own w 69 2 A m c xs) (hn : n ≤ m) (w' : World) :
    (Instr.slice 62 (.slice A m c) none (some (.int .i64 n)) none).run Try.prog w' = .ok (.slice A n c) w' := scut_lo A c m n h.nil h.cap h.max hn w'
theorem sown_hi {w : World} {A : Option Addr} {m c n : Nat} {xs : List Value} (h : Own w 69 2 A m c xs) (hn : n ≤ m) :
    ∃ A' c', (A' = none → c' = 0) ∧ m - n ≤ c' ∧ c' ≤ maxLen ∧ (∀ w, (Instr.slice 62 (.slice A m c) (some (.int .i64 n)) none none).run Try.prog w = .ok (.slice A' (m - n) c') w) ∧ (∀ w G (x : List Value), Rg w G 2 A m x → Rg w G 2 A' (m - n) (x.drop (n * 2))) := scut_hi A c m n h.nil h.cap h.max hn
theorem rg_boxS {w : World} {g : Nat} {t : TypeId} {a b : Value} (h : Bk w g t #[a, b]) : Rg w (fun k => k = g) 2 (some ⟨g, 0, none⟩) 1 [a, b] :=
  ⟨rfl, fun _ => ⟨g, 0, rfl, rfl, h.lt, fun j u hu => by rw [h.cell, Nat.zero_add]; simpa using hu⟩⟩
theorem acc_apS {w w0 w1 w2 : World} {e : TypeId} {size n m c c' : Nat} {A A' : Option Addr} {xs news : List Value} (hc : Chg (sf A) w0 w2) (hf : Fresh w0 (sf A) (sf A')) (ho : Own w2 e size A' m c' news) (h : Acc w e size w1 A n c xs) (h1 : w0.heap = w1.heap) (h2 : w0.os = w1.os) (h3 : w0.tape = w1.tape) (h4 : w0.output = w1.output) : Acc w e size w2 A' m c' news :=
  (h.go (w2 := w0) ⟨h2, h3, h4, by rw [h1]; exact Nat.le_refl _, fun k _ => by rw [h1]⟩).app ho hc hf
theorem bk_apS {w0 w1 w2 : World} {g0 g : Nat} {t : TypeId} {cs : Array Value} (hc : Chg (sf (some ⟨g0, 0, none⟩)) w0 w2) (h : Bk w1 g t cs) (h1 : w0.heap = w1.heap) (hn : g0 ≠ g) : Bk w2 g t cs :=
  Bk.chg (w := w0) (by unfold Bk; rw [h1]; exact h) hc (by rw [sf_some]; exact hn)

set_option maxRecDepth 100000 in
set_option maxHeartbeats 4000000 in
theorem refSort_any {G : Foot} (A : Option Addr) (c : Nat) (l : List Pf) (w : World) (hn : l.length ≤ 100000) (hw : ∀ x ∈ l, x.1 < 4294967296) (h : Rg w G 2 A l.length (fv l)) :
    Calls Try.prog 58 #[.slice A l.length c] w fun e w' => ∃ s, IsSort gdP l s ∧ RetF s w e w' := by
  obtain ⟨i0, hi0, hz0, hz1, hz2⟩ := info_parts info_pf
  have Hi := Lib.hid hi0
  have Hz0 := Lib.hid hz0
  have Hz1 := Lib.hid hz1
  have Hz2 := Lib.hid hz2
  have HR := Lib.hid h
  have HW := Lib.hid hw
  have HJ0 : Hid (Acc w 69 2 (w.alloc (.cells #[] 69)) (some ⟨w.heap.size, 0, none⟩) 0 0 []) := Acc.start ((Below.refl _ _).alloc (Nat.le_refl _) _) (Bk.new w _ _) (Nat.le_refl _)
  clear h hw hi0 hz0 hz1 hz2
  go_enter Try.func58, Try.ntmps58
  go_wp2_with fail
  go_loopw [3, 4, 5, 6] (fun v3 v4 _ _ wr => ∃ (i : Nat) (A' : Option Addr) (c' m : Nat) (o : List Pf), i ≤ l.length ∧ v4 = .int .i64 (i : Int) ∧ v3 = .slice A' m c' ∧ m = o.length ∧ m ≤ i ∧ IsSort gdP (l.take i) o ∧ Acc w 69 2 wr A' m c' (fv o)) (fun _ v4 _ _ _ => l.length - (intOf v4).toNat)
  case atStart => exact ⟨0, _, _, 0, [], Nat.zero_le _, rfl, rfl, rfl, Nat.le_refl _, ⟨List.Pairwise.nil, fun x => by simp⟩, HJ0.out⟩
  case round =>
    obtain ⟨i, A1, c1, m, o, hi, rfl, rfl, hm, hmi, hs, hacc⟩ := hrel
    have HAcc := Lib.hid hacc
    have HM := Lib.hid hm
    have HSo := Lib.hid hs
    clear hacc hm hs HJ0
    by_cases hlt : i < l.length
    · obtain ⟨x, hx⟩ : ∃ x, l[i]? = some x := ⟨l[i], List.getElem?_eq_getElem hlt⟩
      obtain ⟨b, off, rfl⟩ : ∃ b off, A = some ⟨b, off, none⟩ := by
        obtain ⟨b, off, e, _⟩ := HR.out.2 (by omega)
        exact ⟨b, off, e⟩
      have hxw := HW.out x (List.mem_of_getElem? hx)
      have HG := Lib.hid (fun w => ref_Good x.1 x.2 hxw w)
      have x0 := fv_two (HAcc.out.rg HR.out) hx (by omega)
      have k0 := x0.1
      have k1 := x0.2.1
      have hli : (i : Int) < (l.length : Int) := by omega
      have HGd : Hid (gdP x = goodB x.1 x.2) := by rw [Hid]; simp [gdP, hxw]
      have HX := Lib.hid hx
      have HSn : Hid (IsSort gdP (l.take (i + 1)) (insS o x)) := by
        rw [Hid, List.take_add_one, hx]
        exact insS_ok HSo.out x
      clear x0 hx hxw
      go_wp2_with fail
      refine (HG.out _).mono ?_; rintro e w1 ⟨rfl, hb1⟩
      have HAcc1 := Lib.hid (HAcc.out.go hb1)
      clear hb1 HG k0 k1 HAcc
      rw [← HGd.out]
      obtain ⟨g, hg⟩ : ∃ g, g = gdP x := ⟨_, rfl⟩
      rw [← hg]
      obtain ⟨t, ht⟩ : ∃ t, t = spotS o x := ⟨_, rfl⟩
      have HSP : Hid (∀ j, j ≤ t → (j = t ↔ ¬ ∃ p, o[j]? = some p ∧ plt p x)) := by
        rw [Hid, ht]
        exact spotS_spec o x
      have htl : t ≤ m := by rw [ht, HM.out]; exact spotS_le o x
      have HIn : Hid (insS o x = if g = true ∧ o[t]? ≠ some x then o.take t ++ [x] ++ o.drop t else o) := by
        rw [Hid, hg, ht]
        rfl
      have HCm := Lib.hid (fun (p : Pf) (w : World) => refCmp_any p x w)
      clear ht hg HGd
      go_wp2_with fail
      go_loopw [5] (fun v5 wz => ∃ j : Nat, j ≤ t ∧ v5 = .int .i64 (j : Int) ∧ Acc w 69 2 wz A1 m c1 (fv o)) (fun v5 _ => t - (intOf v5).toNat)
      case atStart => exact ⟨0, Nat.zero_le _, rfl, HAcc1.out⟩
      case round =>
        obtain ⟨j, hj, rfl, hacc⟩ := hrel
        have HA2 := Lib.hid hacc
        clear hacc HAcc1
        have x0 := fv_two (HA2.out.rg HR.out) HX.out (by omega)
        have k0 := x0.1
        have k1 := x0.2.1
        have hgl := x0.2.2
        clear x0
        by_cases hjt0 : j < t
        · have hjm : j < m := by omega
          obtain ⟨p, hp⟩ : ∃ p, o[j]? = some p := ⟨o[j]'(by rw [← HM.out]; exact hjm), List.getElem?_eq_getElem _⟩
          have HP := Lib.hid hp
          have hq := fv_at o j p hp
          obtain ⟨b2, off2, rfl⟩ := HA2.out.own.form (by omega)
          have y0 := HA2.out.own.at_ _ hq.1
          have p0 := y0.1
          have pl := y0.2.2
          have p1 := (HA2.out.own.at_ _ hq.2).1
          rw [← Nat.add_assoc] at p1
          have hjm2 : (j : Int) < (m : Int) := by omega
          have HC2 := Lib.hid (HCm.out p)
          have HCl : Hid (cmpR p x < 0 ↔ plt p x) := cmpR_lt p x
          obtain ⟨z, hz⟩ : ∃ z, z = cmpR p x := ⟨_, rfl⟩
          rw [← hz] at HC2 HCl
          clear hp hq y0 hz
          have hzz : z < 0 := HCl.out.2 (by
            rcases Classical.em (plt p x) with h | h
            · exact h
            · exact absurd ((HSP.out j hj).2 (by rintro ⟨q, hq, hlt2⟩; rw [HP.out] at hq; cases hq; exact h hlt2)) (by omega))
          have d1 : decide (z < 0) = true := by simp; omega
          go_wp2_with fail
          go_region_held3 (fun w' => w'.cell? ⟨b2, off2 + j * 2, none⟩ = some (.int .u32 (p.1 : Int)) ∧ w'.cell? ⟨b2, off2 + j * 2 + 1, none⟩ = some (.int .i64 p.2) ∧ w'.cell? ⟨b, off + i * 2, none⟩ = some (.int .u32 (x.1 : Int)) ∧ w'.cell? ⟨b, off + i * 2 + 1, none⟩ = some (.int .i64 x.2)) (first | exact HS5.out | exact ⟨by go_simp, by go_simp, by go_simp, by go_simp⟩) (first
            | (go_at_call 84; refine (HC2.out _).mono ?_; rintro e wq ⟨rfl, hb5⟩; go_must (have hbq : Below wr.heap.size wr wq := ((Below.refl _ _).drew).trans hb5); go_must (have HS5 : Hid (wq.cell? ⟨b2, off2 + j * 2, none⟩ = some (.int .u32 (p.1 : Int)) ∧ wq.cell? ⟨b2, off2 + j * 2 + 1, none⟩ = some (.int .i64 p.2) ∧ wq.cell? ⟨b, off + i * 2, none⟩ = some (.int .u32 (x.1 : Int)) ∧ wq.cell? ⟨b, off + i * 2 + 1, none⟩ = some (.int .i64 x.2)) := ⟨(hbq.cell (p := ⟨b2, off2 + j * 2, none⟩) pl).trans p0, (hbq.cell (p := ⟨b2, off2 + j * 2 + 1, none⟩) pl).trans p1, (hbq.cell (p := ⟨b, off + i * 2, none⟩) hgl).trans k0, (hbq.cell (p := ⟨b, off + i * 2 + 1, none⟩) hgl).trans k1⟩)))
          go_wp2_with fail
          go_roundw
          case rel => exact ⟨j + 1, by omega, by go_num, HA2.out.go hbq⟩
          case measure => simp [intOf]; omega
        · obtain rfl : j = t := by omega
          clear hjt0 hj
          by_cases hjm : j < m
          · obtain ⟨p, hp⟩ : ∃ p, o[j]? = some p := ⟨o[j]'(by rw [← HM.out]; exact hjm), List.getElem?_eq_getElem _⟩
            have HP := Lib.hid hp
            have hq := fv_at o j p hp
            obtain ⟨b2, off2, rfl⟩ := HA2.out.own.form (by omega)
            have y0 := HA2.out.own.at_ _ hq.1
            have p0 := y0.1
            have pl := y0.2.2
            have p1 := (HA2.out.own.at_ _ hq.2).1
            rw [← Nat.add_assoc] at p1
            have hjm2 : (j : Int) < (m : Int) := by omega
            have HC2 := Lib.hid (HCm.out p)
            have HCl : Hid (cmpR p x < 0 ↔ plt p x) := cmpR_lt p x
            obtain ⟨z, hz⟩ : ∃ z, z = cmpR p x := ⟨_, rfl⟩
            rw [← hz] at HC2 HCl
            clear hp hq y0 hz
            have hzz : ¬ z < 0 := fun hz => absurd ⟨p, HP.out, HCl.out.1 hz⟩ ((HSP.out j (Nat.le_refl _)).1 rfl)
            have d1 : decide (z < 0) = false := by simp; omega
            go_wp2_with fail
            go_region_held3 (fun w' => w'.cell? ⟨b2, off2 + j * 2, none⟩ = some (.int .u32 (p.1 : Int)) ∧ w'.cell? ⟨b2, off2 + j * 2 + 1, none⟩ = some (.int .i64 p.2) ∧ w'.cell? ⟨b, off + i * 2, none⟩ = some (.int .u32 (x.1 : Int)) ∧ w'.cell? ⟨b, off + i * 2 + 1, none⟩ = some (.int .i64 x.2)) (first | exact HS5.out | exact ⟨by go_simp, by go_simp, by go_simp, by go_simp⟩) (first
              | (go_at_call 84; refine (HC2.out _).mono ?_; rintro e wq ⟨rfl, hb5⟩; go_must (have hbq : Below wr.heap.size wr wq := ((Below.refl _ _).drew).trans hb5); go_must (have HS5 : Hid (wq.cell? ⟨b2, off2 + j * 2, none⟩ = some (.int .u32 (p.1 : Int)) ∧ wq.cell? ⟨b2, off2 + j * 2 + 1, none⟩ = some (.int .i64 p.2) ∧ wq.cell? ⟨b, off + i * 2, none⟩ = some (.int .u32 (x.1 : Int)) ∧ wq.cell? ⟨b, off + i * 2 + 1, none⟩ = some (.int .i64 x.2)) := ⟨(hbq.cell (p := ⟨b2, off2 + j * 2, none⟩) pl).trans p0, (hbq.cell (p := ⟨b2, off2 + j * 2 + 1, none⟩) pl).trans p1, (hbq.cell (p := ⟨b, off + i * 2, none⟩) hgl).trans k0, (hbq.cell (p := ⟨b, off + i * 2 + 1, none⟩) hgl).trans k1⟩)))
            have HAy := Lib.hid (HA2.out.go hbq)
            have HS6 := Lib.hid HS5.out
            generalize wq = wy at *
            clear p0 p1 k0 k1 pl hgl HS5 HA2 hbq d1 hzz HC2 HCl
            have p0 := HS6.out.1
            have p1 := HS6.out.2.1
            have k0 := HS6.out.2.2.1
            have k1 := HS6.out.2.2.2
            by_cases hgg : g = true
            · subst hgg
              have hjm3 : ((j : Int) == (m : Int)) = false := by rw [beq_eq_false_iff_ne]; omega
              by_cases hpx : p = x
              · subst hpx
                have e1 : ((p.1 : Int) == (p.1 : Int)) = true := by rw [beq_iff_eq]
                have e2 : (p.2 == p.2) = true := by rw [beq_iff_eq]
                have HIns : Hid (insS o p = o) := by rw [Hid, HIn.out, if_neg (fun hc => hc.2 HP.out)]
                clear HIn
                have HAz := HAy
                generalize wy = wz at *
                go_wp2_with fail
                go_quiet (fail)
                go_wp2_with fail
                go_roundw
                case rel => exact ⟨i + 1, _, c1, m, o, by omega, by go_num, rfl, HM.out, by omega, by rw [← HIns.out]; exact HSn.out, HAz.out.go (below_drewN (Below.refl _ _) _)⟩
                case measure => simp [intOf]; omega
              · have HIns : Hid (insS o x = o.take j ++ [x] ++ o.drop j) := by rw [Hid, HIn.out, if_pos ⟨rfl, fun hc => hpx (by rw [HP.out] at hc; cases hc; rfl)⟩]
                clear HIn
                by_cases hp1 : p.1 = x.1
                case' pos =>
                  have e1 : ((p.1 : Int) == (x.1 : Int)) = true := by rw [beq_iff_eq]; omega
                  have e2 : (p.2 == x.2) = false := by
                    rw [beq_eq_false_iff_ne]
                    exact fun h => hpx (Prod.ext hp1 h)
                  clear hp1 hpx
                case' neg =>
                  have e1 : ((p.1 : Int) == (x.1 : Int)) = false := by rw [beq_eq_false_iff_ne]; omega
                  clear hp1 hpx
                all_goals
                  go_wp2_with fail
                  go_quiet (fail)
                  have HAz := Lib.hid (HAy.out.go (below_drewN (Below.refl wy.heap.size wy) nq))
                  generalize wy.drewN nq = wz at *
                  clear p0 p1 k0 k1
                  have x0 := fv_two (HAz.out.rg HR.out) HX.out (by omega)
                  have q0 := x0.1
                  have q1 := x0.2.1
                  have hgl := x0.2.2
                  clear x0
                  have HGL := Lib.hid hgl
                  have HU : Hid (∀ w', Below wz.heap.size wz w' → w'.cell? ⟨b, off + i * 2, none⟩ = some (.int .u32 (x.1 : Int)) ∧ w'.cell? ⟨b, off + i * 2 + 1, none⟩ = some (.int .i64 x.2)) := fun w' hb => ⟨(hb.cell (p := ⟨b, off + i * 2, none⟩) HGL.out).trans q0, (hb.cell (p := ⟨b, off + i * 2 + 1, none⟩) HGL.out).trans q1⟩
                  have klo := fun w => sown_lo HAz.out.own htl w
                  obtain ⟨A5, c5, h5a, h5b, h5c, khi, h5r⟩ := sown_hi HAz.out.own htl
                  have H5 := Lib.hid h5a
                  have H5r := Lib.hid h5r
                  have HRo := Lib.hid HAz.out.own.rg
                  have HRt := Lib.hid (HRo.out.take htl)
                  have HA1n := Lib.hid HAz.out.own.nil
                  have HEnd : Hid (∀ w' A' c', Acc wz 69 2 w' A' (j + 1 + (m - j)) c' ([] ++ (fv o).take (j * 2) ++ [.int .u32 (x.1 : Int), .int .i64 x.2] ++ (fv o).drop (j * 2)) → ∃ m2, j + 1 + (m - j) = m2 ∧ m2 = (insS o x).length ∧ Acc w 69 2 w' A' m2 c' (fv (insS o x))) := fun w' A' c' h => by
                    have hn : j + 1 + (m - j) = (insS o x).length := by rw [HIns.out, HM.out]; have := HM.out; simp; omega
                    have hx : [] ++ (fv o).take (j * 2) ++ [.int .u32 (x.1 : Int), .int .i64 x.2] ++ (fv o).drop (j * 2) = fv (insS o x) := by rw [HIns.out, fv_app, fv_app, fv_take2, fv_drop2]; simp [fv]
                    rw [hn, hx] at h
                    exact ⟨_, hn, rfl, h.own, HAz.out.bel.trans (h.bel.mono HAz.out.bel.size), fun k hk => Nat.le_trans HAz.out.bel.size (h.low k hk)⟩
                  clear h5a h5b h5c h5r
                  go_upto_region 9 with fail
                  have HA0a : Hid (Acc wz 69 2 (wz.alloc (.cells #[] 69)) (some ⟨wz.heap.size, 0, none⟩) 0 0 []) := Acc.start ((Below.refl _ _).alloc (Nat.le_refl _) _) (Bk.new wz _ _) (Nat.le_refl _)
                  have HA0b : Hid (Acc wz 69 2 ((wz.alloc (.cells #[] 69)).alloc (.cells #[.int .u32 (x.1 : Int), .int .i64 x.2] 69)) (some ⟨wz.heap.size, 0, none⟩) 0 0 []) := HA0a.out.go ((Below.refl _ _).alloc (Nat.le_refl _) _)
                  have HR0b : Hid (Bk ((wz.alloc (.cells #[] 69)).alloc (.cells #[.int .u32 (x.1 : Int), .int .i64 x.2] 69)) (wz.heap.size + 1) 69 #[.int .u32 (x.1 : Int), .int .i64 x.2]) := by have := Bk.new (wz.alloc (.cells #[] 69)) 69 #[.int .u32 (x.1 : Int), .int .i64 x.2]; rwa [World.size_alloc] at this
                  have HA0c : Hid (Acc wz 69 2 ((wz.alloc (.cells #[.int .u32 (x.1 : Int), .int .i64 x.2] 69)).alloc (.cells #[] 69)) (some ⟨wz.heap.size + 1, 0, none⟩) 0 0 []) := by
                    have hb : Below wz.heap.size wz (wz.alloc (.cells #[.int .u32 (x.1 : Int), .int .i64 x.2] 69)) := (Below.refl _ _).alloc (Nat.le_refl _) _
                    have := Acc.start (e := 69) (size := 2) (hb.alloc hb.size (.cells #[] 69)) (Bk.new _ _ _) hb.size
                    rwa [World.size_alloc] at this
                  have HR0c : Hid (Bk ((wz.alloc (.cells #[.int .u32 (x.1 : Int), .int .i64 x.2] 69)).alloc (.cells #[] 69)) wz.heap.size 69 #[.int .u32 (x.1 : Int), .int .i64 x.2]) := (Bk.new wz _ _).alloc _
                  go_region_held3 (fun w' => w'.cell? ⟨b, off + i * 2, none⟩ = some (.int .u32 (x.1 : Int)) ∧ w'.cell? ⟨b, off + i * 2 + 1, none⟩ = some (.int .i64 x.2)) (first | exact ⟨by go_simp, by go_simp⟩) (first
                  | (refine step_app _ (by rfl) (.tmp 55) (.tmp 58) _ (by rfl) 69 i0 _ 2 16 Try.underlying62 Hi.out Hz0.out Hz1.out Hz2.out rfl (by omega) (some ⟨wz.heap.size, 0, none⟩) 0 0 [] (by rfl) HA0a.out.own _ _ j _ HA1n.out ((fv o).take (j * 2)) (by rfl) (HA0a.out.rg HRt.out) (fun u hu => fv_one o u (List.mem_of_mem_take hu)) (by unfold maxLen; omega) (by omega) ?_; intro A3 c3 w4 ho3 hc3 hf3; go_must (rw [Nat.zero_add j] at ho3 ⊢); go_must (have HA3 := Lib.hid (acc_apS hc3 hf3 ho3 HA0a.out rfl rfl rfl rfl)); go_must (have q0 := (HU.out _ HA3.out.bel).1); go_must (have q1 := (HU.out _ HA3.out.bel).2); go_must (have hgl := Nat.lt_of_lt_of_le HGL.out HA3.out.bel.size); clear ho3 hc3 hf3)
                  | (refine step_app _ (by rfl) (.tmp 55) (.tmp 58) _ (by rfl) 69 i0 _ 2 16 Try.underlying62 Hi.out Hz0.out Hz1.out Hz2.out rfl (by omega) (some ⟨wz.heap.size, 0, none⟩) 0 0 [] (by rfl) HA0b.out.own _ _ j _ HA1n.out ((fv o).take (j * 2)) (by rfl) (HA0b.out.rg HRt.out) (fun u hu => fv_one o u (List.mem_of_mem_take hu)) (by unfold maxLen; omega) (by omega) ?_; intro A3 c3 w4 ho3 hc3 hf3; go_must (rw [Nat.zero_add j] at ho3 ⊢); go_must (have HA3 := Lib.hid (acc_apS hc3 hf3 ho3 HA0b.out rfl rfl rfl rfl)); go_must (have HR3 := Lib.hid (bk_apS hc3 HR0b.out rfl (by omega))); go_must (have q0 := (HU.out _ HA3.out.bel).1); go_must (have q1 := (HU.out _ HA3.out.bel).2); go_must (have hgl := Nat.lt_of_lt_of_le HGL.out HA3.out.bel.size); clear ho3 hc3 hf3)
                  | (refine step_app _ (by rfl) (.tmp 55) (.tmp 58) _ (by rfl) 69 i0 _ 2 16 Try.underlying62 Hi.out Hz0.out Hz1.out Hz2.out rfl (by omega) (some ⟨(wz.heap.size + 1), 0, none⟩) 0 0 [] (by rfl) HA0c.out.own _ _ j _ HA1n.out ((fv o).take (j * 2)) (by rfl) (HA0c.out.rg HRt.out) (fun u hu => fv_one o u (List.mem_of_mem_take hu)) (by unfold maxLen; omega) (by omega) ?_; intro A3 c3 w4 ho3 hc3 hf3; go_must (rw [Nat.zero_add j] at ho3 ⊢); go_must (have HA3 := Lib.hid (acc_apS hc3 hf3 ho3 HA0c.out rfl rfl rfl rfl)); go_must (have HR3 := Lib.hid (bk_apS hc3 HR0c.out rfl (by omega))); go_must (have q0 := (HU.out _ HA3.out.bel).1); go_must (have q1 := (HU.out _ HA3.out.bel).2); go_must (have hgl := Nat.lt_of_lt_of_le HGL.out HA3.out.bel.size); clear ho3 hc3 hf3)
                  | (((have HA3x : Hid (Acc wz 69 2 (w4.alloc (.cells #[.int .u32 (x.1 : Int), .int .i64 x.2] 69)) A3 j c3 ([] ++ ((fv o).take (j * 2)))) := HA3.out.go ((Below.refl _ _).alloc (Nat.le_refl _) _)); refine step_app _ (by rfl) (.tmp 59) (.tmp 64) _ (by rfl) 69 i0 _ 2 16 Try.underlying62 Hi.out Hz0.out Hz1.out Hz2.out rfl (by omega) A3 j c3 ([] ++ ((fv o).take (j * 2))) (by rfl) HA3x.out.own _ (some ⟨w4.heap.size, 0, none⟩) 1 1 (by intro h; cases h) [.int .u32 (x.1 : Int), .int .i64 x.2] (by rfl) (rg_boxS (Bk.new w4 _ _)) (by intro u hu; simp at hu; rcases hu with rfl | rfl <;> rfl) (by unfold maxLen; omega) (by omega) ?_; intro A4 c4 w5 ho4 hc4 hf4; go_must (have HA4 : Hid (Acc wz 69 2 w5 A4 (j + 1) c4 ([] ++ ((fv o).take (j * 2)) ++ [.int .u32 (x.1 : Int), .int .i64 x.2])) := acc_apS hc4 hf4 ho4 HA3x.out rfl rfl rfl rfl); go_must (have q0 := (HU.out _ HA4.out.bel).1); go_must (have q1 := (HU.out _ HA4.out.bel).2); go_must (have hgl := Nat.lt_of_lt_of_le HGL.out HA4.out.bel.size); clear ho4 hc4 hf4))
                  | (refine step_app _ (by rfl) (.tmp 59) (.tmp 64) _ (by rfl) 69 i0 _ 2 16 Try.underlying62 Hi.out Hz0.out Hz1.out Hz2.out rfl (by omega) A3 j c3 ([] ++ ((fv o).take (j * 2))) (by rfl) HA3.out.own _ (some ⟨wz.heap.size + 1, 0, none⟩) 1 1 (by intro h; cases h) [.int .u32 (x.1 : Int), .int .i64 x.2] (by rfl) (rg_boxS HR3.out) (by intro u hu; simp at hu; rcases hu with rfl | rfl <;> rfl) (by unfold maxLen; omega) (by omega) ?_; intro A4 c4 w5 ho4 hc4 hf4; go_must (have HA4 : Hid (Acc wz 69 2 w5 A4 (j + 1) c4 ([] ++ ((fv o).take (j * 2)) ++ [.int .u32 (x.1 : Int), .int .i64 x.2])) := acc_apS hc4 hf4 ho4 HA3.out rfl rfl rfl rfl); go_must (have q0 := (HU.out _ HA4.out.bel).1); go_must (have q1 := (HU.out _ HA4.out.bel).2); go_must (have hgl := Nat.lt_of_lt_of_le HGL.out HA4.out.bel.size); clear ho4 hc4 hf4)
                  | (refine step_app _ (by rfl) (.tmp 59) (.tmp 64) _ (by rfl) 69 i0 _ 2 16 Try.underlying62 Hi.out Hz0.out Hz1.out Hz2.out rfl (by omega) A3 j c3 ([] ++ ((fv o).take (j * 2))) (by rfl) HA3.out.own _ (some ⟨wz.heap.size, 0, none⟩) 1 1 (by intro h; cases h) [.int .u32 (x.1 : Int), .int .i64 x.2] (by rfl) (rg_boxS HR3.out) (by intro u hu; simp at hu; rcases hu with rfl | rfl <;> rfl) (by unfold maxLen; omega) (by omega) ?_; intro A4 c4 w5 ho4 hc4 hf4; go_must (have HA4 : Hid (Acc wz 69 2 w5 A4 (j + 1) c4 ([] ++ ((fv o).take (j * 2)) ++ [.int .u32 (x.1 : Int), .int .i64 x.2])) := acc_apS hc4 hf4 ho4 HA3.out rfl rfl rfl rfl); go_must (have q0 := (HU.out _ HA4.out.bel).1); go_must (have q1 := (HU.out _ HA4.out.bel).2); go_must (have hgl := Nat.lt_of_lt_of_le HGL.out HA4.out.bel.size); clear ho4 hc4 hf4)
                  | (refine step_app _ (by rfl) (.tmp 65) (.tmp 68) _ (by rfl) 69 i0 _ 2 16 Try.underlying62 Hi.out Hz0.out Hz1.out Hz2.out rfl (by omega) A4 (j + 1) c4 ([] ++ ((fv o).take (j * 2)) ++ [.int .u32 (x.1 : Int), .int .i64 x.2]) (by rfl) HA4.out.own _ A5 (m - j) c5 H5.out ((fv o).drop (j * 2)) (by rfl) (H5r.out _ _ _ (HA4.out.rg HRo.out)) (fun u hu => fv_one o u (List.mem_of_mem_drop hu)) (by unfold maxLen; omega) (by omega) ?_; intro A6 c6 w6 ho5 hc5 hf5; go_must (have HA5 := Lib.hid (acc_apS hc5 hf5 ho5 HA4.out rfl rfl rfl rfl)); go_must (have q0 := (HU.out _ HA5.out.bel).1); go_must (have q1 := (HU.out _ HA5.out.bel).2); go_must (have hgl := Nat.lt_of_lt_of_le HGL.out HA5.out.bel.size); clear ho5 hc5 hf5))
                  all_goals
                    go_wp2_with fail
                    go_roundw
                    case rel =>
                      obtain ⟨m2, h1, h2, h3⟩ := HEnd.out _ _ _ HA5.out
                      rw [h1]
                      exact ⟨i + 1, _, _, m2, insS o x, by omega, by go_num, rfl, h2, by have := insS_len o x; have := HM.out; omega, HSn.out, h3⟩
                    case measure => simp [intOf]; omega
            · obtain rfl : g = false := by simpa using hgg
              have HIns : Hid (insS o x = o) := by rw [Hid, HIn.out, if_neg (fun hc => by cases hc.1)]
              clear HIn
              have HAz := HAy
              generalize wy = wz at *
              go_wp2_with fail
              go_quiet (fail)
              go_wp2_with fail
              go_roundw
              case rel => exact ⟨i + 1, _, c1, m, o, by omega, by go_num, rfl, HM.out, by omega, by rw [← HIns.out]; exact HSn.out, HAz.out.go (below_drewN (Below.refl _ _) _)⟩
              case measure => simp [intOf]; omega
          · have d1 : decide ((j : Int) < (m : Int)) = false := by simp; omega
            have e3 : ((j : Int) == (m : Int)) = true := by rw [beq_iff_eq]; omega
            go_wp2_with fail
            go_quiet (fail)
            have HAy := Lib.hid (HA2.out.go (below_drewN (Below.refl wr.heap.size wr) nq))
            generalize wr.drewN nq = wy at *
            clear HA2 k0 k1 hgl
            by_cases hgg : g = true
            · subst hgg
              have HIns : Hid (insS o x = o.take j ++ [x] ++ o.drop j) := by rw [Hid, HIn.out, if_pos ⟨rfl, fun hc => by rw [List.getElem?_eq_none (by have := HM.out; omega)] at hc; cases hc⟩]
              clear HIn
              go_wp2_with fail
              go_quiet (fail)
              have HAz := Lib.hid (HAy.out.go (below_drewN (Below.refl wy.heap.size wy) nq))
              generalize wy.drewN nq = wz at *
              have x0 := fv_two (HAz.out.rg HR.out) HX.out (by omega)
              have q0 := x0.1
              have q1 := x0.2.1
              have hgl := x0.2.2
              clear x0
              have HGL := Lib.hid hgl
              have HU : Hid (∀ w', Below wz.heap.size wz w' → w'.cell? ⟨b, off + i * 2, none⟩ = some (.int .u32 (x.1 : Int)) ∧ w'.cell? ⟨b, off + i * 2 + 1, none⟩ = some (.int .i64 x.2)) := fun w' hb => ⟨(hb.cell (p := ⟨b, off + i * 2, none⟩) HGL.out).trans q0, (hb.cell (p := ⟨b, off + i * 2 + 1, none⟩) HGL.out).trans q1⟩
              have klo := fun w => sown_lo HAz.out.own htl w
              obtain ⟨A5, c5, h5a, h5b, h5c, khi, h5r⟩ := sown_hi HAz.out.own htl
              have H5 := Lib.hid h5a
              have H5r := Lib.hid h5r
              have HRo := Lib.hid HAz.out.own.rg
              have HRt := Lib.hid (HRo.out.take htl)
              have HA1n := Lib.hid HAz.out.own.nil
              have HEnd : Hid (∀ w' A' c', Acc wz 69 2 w' A' (j + 1 + (m - j)) c' ([] ++ (fv o).take (j * 2) ++ [.int .u32 (x.1 : Int), .int .i64 x.2] ++ (fv o).drop (j * 2)) → ∃ m2, j + 1 + (m - j) = m2 ∧ m2 = (insS o x).length ∧ Acc w 69 2 w' A' m2 c' (fv (insS o x))) := fun w' A' c' h => by
                have hn : j + 1 + (m - j) = (insS o x).length := by rw [HIns.out, HM.out]; have := HM.out; simp; omega
                have hx : [] ++ (fv o).take (j * 2) ++ [.int .u32 (x.1 : Int), .int .i64 x.2] ++ (fv o).drop (j * 2) = fv (insS o x) := by rw [HIns.out, fv_app, fv_app, fv_take2, fv_drop2]; simp [fv]
                rw [hn, hx] at h
                exact ⟨_, hn, rfl, h.own, HAz.out.bel.trans (h.bel.mono HAz.out.bel.size), fun k hk => Nat.le_trans HAz.out.bel.size (h.low k hk)⟩
              clear h5a h5b h5c h5r
              go_upto_region 9 with fail
              have HA0a : Hid (Acc wz 69 2 (wz.alloc (.cells #[] 69)) (some ⟨wz.heap.size, 0, none⟩) 0 0 []) := Acc.start ((Below.refl _ _).alloc (Nat.le_refl _) _) (Bk.new wz _ _) (Nat.le_refl _)
              have HA0b : Hid (Acc wz 69 2 ((wz.alloc (.cells #[] 69)).alloc (.cells #[.int .u32 (x.1 : Int), .int .i64 x.2] 69)) (some ⟨wz.heap.size, 0, none⟩) 0 0 []) := HA0a.out.go ((Below.refl _ _).alloc (Nat.le_refl _) _)
              have HR0b : Hid (Bk ((wz.alloc (.cells #[] 69)).alloc (.cells #[.int .u32 (x.1 : Int), .int .i64 x.2] 69)) (wz.heap.size + 1) 69 #[.int .u32 (x.1 : Int), .int .i64 x.2]) := by have := Bk.new (wz.alloc (.cells #[] 69)) 69 #[.int .u32 (x.1 : Int), .int .i64 x.2]; rwa [World.size_alloc] at this
              have HA0c : Hid (Acc wz 69 2 ((wz.alloc (.cells #[.int .u32 (x.1 : Int), .int .i64 x.2] 69)).alloc (.cells #[] 69)) (some ⟨wz.heap.size + 1, 0, none⟩) 0 0 []) := by
                have hb : Below wz.heap.size wz (wz.alloc (.cells #[.int .u32 (x.1 : Int), .int .i64 x.2] 69)) := (Below.refl _ _).alloc (Nat.le_refl _) _
                have := Acc.start (e := 69) (size := 2) (hb.alloc hb.size (.cells #[] 69)) (Bk.new _ _ _) hb.size
                rwa [World.size_alloc] at this
              have HR0c : Hid (Bk ((wz.alloc (.cells #[.int .u32 (x.1 : Int), .int .i64 x.2] 69)).alloc (.cells #[] 69)) wz.heap.size 69 #[.int .u32 (x.1 : Int), .int .i64 x.2]) := (Bk.new wz _ _).alloc _
              go_region_held3 (fun w' => w'.cell? ⟨b, off + i * 2, none⟩ = some (.int .u32 (x.1 : Int)) ∧ w'.cell? ⟨b, off + i * 2 + 1, none⟩ = some (.int .i64 x.2)) (first | exact ⟨by go_simp, by go_simp⟩) (first
              | (refine step_app _ (by rfl) (.tmp 55) (.tmp 58) _ (by rfl) 69 i0 _ 2 16 Try.underlying62 Hi.out Hz0.out Hz1.out Hz2.out rfl (by omega) (some ⟨wz.heap.size, 0, none⟩) 0 0 [] (by rfl) HA0a.out.own _ _ j _ HA1n.out ((fv o).take (j * 2)) (by rfl) (HA0a.out.rg HRt.out) (fun u hu => fv_one o u (List.mem_of_mem_take hu)) (by unfold maxLen; omega) (by omega) ?_; intro A3 c3 w4 ho3 hc3 hf3; go_must (rw [Nat.zero_add j] at ho3 ⊢); go_must (have HA3 := Lib.hid (acc_apS hc3 hf3 ho3 HA0a.out rfl rfl rfl rfl)); go_must (have q0 := (HU.out _ HA3.out.bel).1); go_must (have q1 := (HU.out _ HA3.out.bel).2); go_must (have hgl := Nat.lt_of_lt_of_le HGL.out HA3.out.bel.size); clear ho3 hc3 hf3)
              | (refine step_app _ (by rfl) (.tmp 55) (.tmp 58) _ (by rfl) 69 i0 _ 2 16 Try.underlying62 Hi.out Hz0.out Hz1.out Hz2.out rfl (by omega) (some ⟨wz.heap.size, 0, none⟩) 0 0 [] (by rfl) HA0b.out.own _ _ j _ HA1n.out ((fv o).take (j * 2)) (by rfl) (HA0b.out.rg HRt.out) (fun u hu => fv_one o u (List.mem_of_mem_take hu)) (by unfold maxLen; omega) (by omega) ?_; intro A3 c3 w4 ho3 hc3 hf3; go_must (rw [Nat.zero_add j] at ho3 ⊢); go_must (have HA3 := Lib.hid (acc_apS hc3 hf3 ho3 HA0b.out rfl rfl rfl rfl)); go_must (have HR3 := Lib.hid (bk_apS hc3 HR0b.out rfl (by omega))); go_must (have q0 := (HU.out _ HA3.out.bel).1); go_must (have q1 := (HU.out _ HA3.out.bel).2); go_must (have hgl := Nat.lt_of_lt_of_le HGL.out HA3.out.bel.size); clear ho3 hc3 hf3)
              | (refine step_app _ (by rfl) (.tmp 55) (.tmp 58) _ (by rfl) 69 i0 _ 2 16 Try.underlying62 Hi.out Hz0.out Hz1.out Hz2.out rfl (by omega) (some ⟨(wz.heap.size + 1), 0, none⟩) 0 0 [] (by rfl) HA0c.out.own _ _ j _ HA1n.out ((fv o).take (j * 2)) (by rfl) (HA0c.out.rg HRt.out) (fun u hu => fv_one o u (List.mem_of_mem_take hu)) (by unfold maxLen; omega) (by omega) ?_; intro A3 c3 w4 ho3 hc3 hf3; go_must (rw [Nat.zero_add j] at ho3 ⊢); go_must (have HA3 := Lib.hid (acc_apS hc3 hf3 ho3 HA0c.out rfl rfl rfl rfl)); go_must (have HR3 := Lib.hid (bk_apS hc3 HR0c.out rfl (by omega))); go_must (have q0 := (HU.out _ HA3.out.bel).1); go_must (have q1 := (HU.out _ HA3.out.bel).2); go_must (have hgl := Nat.lt_of_lt_of_le HGL.out HA3.out.bel.size); clear ho3 hc3 hf3)
              | (((have HA3x : Hid (Acc wz 69 2 (w4.alloc (.cells #[.int .u32 (x.1 : Int), .int .i64 x.2] 69)) A3 j c3 ([] ++ ((fv o).take (j * 2)))) := HA3.out.go ((Below.refl _ _).alloc (Nat.le_refl _) _)); refine step_app _ (by rfl) (.tmp 59) (.tmp 64) _ (by rfl) 69 i0 _ 2 16 Try.underlying62 Hi.out Hz0.out Hz1.out Hz2.out rfl (by omega) A3 j c3 ([] ++ ((fv o).take (j * 2))) (by rfl) HA3x.out.own _ (some ⟨w4.heap.size, 0, none⟩) 1 1 (by intro h; cases h) [.int .u32 (x.1 : Int), .int .i64 x.2] (by rfl) (rg_boxS (Bk.new w4 _ _)) (by intro u hu; simp at hu; rcases hu with rfl | rfl <;> rfl) (by unfold maxLen; omega) (by omega) ?_; intro A4 c4 w5 ho4 hc4 hf4; go_must (have HA4 : Hid (Acc wz 69 2 w5 A4 (j + 1) c4 ([] ++ ((fv o).take (j * 2)) ++ [.int .u32 (x.1 : Int), .int .i64 x.2])) := acc_apS hc4 hf4 ho4 HA3x.out rfl rfl rfl rfl); go_must (have q0 := (HU.out _ HA4.out.bel).1); go_must (have q1 := (HU.out _ HA4.out.bel).2); go_must (have hgl := Nat.lt_of_lt_of_le HGL.out HA4.out.bel.size); clear ho4 hc4 hf4))
              | (refine step_app _ (by rfl) (.tmp 59) (.tmp 64) _ (by rfl) 69 i0 _ 2 16 Try.underlying62 Hi.out Hz0.out Hz1.out Hz2.out rfl (by omega) A3 j c3 ([] ++ ((fv o).take (j * 2))) (by rfl) HA3.out.own _ (some ⟨wz.heap.size + 1, 0, none⟩) 1 1 (by intro h; cases h) [.int .u32 (x.1 : Int), .int .i64 x.2] (by rfl) (rg_boxS HR3.out) (by intro u hu; simp at hu; rcases hu with rfl | rfl <;> rfl) (by unfold maxLen; omega) (by omega) ?_; intro A4 c4 w5 ho4 hc4 hf4; go_must (have HA4 : Hid (Acc wz 69 2 w5 A4 (j + 1) c4 ([] ++ ((fv o).take (j * 2)) ++ [.int .u32 (x.1 : Int), .int .i64 x.2])) := acc_apS hc4 hf4 ho4 HA3.out rfl rfl rfl rfl); go_must (have q0 := (HU.out _ HA4.out.bel).1); go_must (have q1 := (HU.out _ HA4.out.bel).2); go_must (have hgl := Nat.lt_of_lt_of_le HGL.out HA4.out.bel.size); clear ho4 hc4 hf4)
              | (refine step_app _ (by rfl) (.tmp 59) (.tmp 64) _ (by rfl) 69 i0 _ 2 16 Try.underlying62 Hi.out Hz0.out Hz1.out Hz2.out rfl (by omega) A3 j c3 ([] ++ ((fv o).take (j * 2))) (by rfl) HA3.out.own _ (some ⟨wz.heap.size, 0, none⟩) 1 1 (by intro h; cases h) [.int .u32 (x.1 : Int), .int .i64 x.2] (by rfl) (rg_boxS HR3.out) (by intro u hu; simp at hu; rcases hu with rfl | rfl <;> rfl) (by unfold maxLen; omega) (by omega) ?_; intro A4 c4 w5 ho4 hc4 hf4; go_must (have HA4 : Hid (Acc wz 69 2 w5 A4 (j + 1) c4 ([] ++ ((fv o).take (j * 2)) ++ [.int .u32 (x.1 : Int), .int .i64 x.2])) := acc_apS hc4 hf4 ho4 HA3.out rfl rfl rfl rfl); go_must (have q0 := (HU.out _ HA4.out.bel).1); go_must (have q1 := (HU.out _ HA4.out.bel).2); go_must (have hgl := Nat.lt_of_lt_of_le HGL.out HA4.out.bel.size); clear ho4 hc4 hf4)
              | (refine step_app _ (by rfl) (.tmp 65) (.tmp 68) _ (by rfl) 69 i0 _ 2 16 Try.underlying62 Hi.out Hz0.out Hz1.out Hz2.out rfl (by omega) A4 (j + 1) c4 ([] ++ ((fv o).take (j * 2)) ++ [.int .u32 (x.1 : Int), .int .i64 x.2]) (by rfl) HA4.out.own _ A5 (m - j) c5 H5.out ((fv o).drop (j * 2)) (by rfl) (H5r.out _ _ _ (HA4.out.rg HRo.out)) (fun u hu => fv_one o u (List.mem_of_mem_drop hu)) (by unfold maxLen; omega) (by omega) ?_; intro A6 c6 w6 ho5 hc5 hf5; go_must (have HA5 := Lib.hid (acc_apS hc5 hf5 ho5 HA4.out rfl rfl rfl rfl)); go_must (have q0 := (HU.out _ HA5.out.bel).1); go_must (have q1 := (HU.out _ HA5.out.bel).2); go_must (have hgl := Nat.lt_of_lt_of_le HGL.out HA5.out.bel.size); clear ho5 hc5 hf5))
              all_goals
                go_wp2_with fail
                go_roundw
                case rel =>
                  obtain ⟨m2, h1, h2, h3⟩ := HEnd.out _ _ _ HA5.out
                  rw [h1]
                  exact ⟨i + 1, _, _, m2, insS o x, by omega, by go_num, rfl, h2, by have := insS_len o x; have := HM.out; omega, HSn.out, h3⟩
                case measure => simp [intOf]; omega
            · obtain rfl : g = false := by simpa using hgg
              have HIns : Hid (insS o x = o) := by rw [Hid, HIn.out, if_neg (fun hc => by cases hc.1)]
              clear HIn
              have HAz := HAy
              generalize wy = wz at *
              go_wp2_with fail
              go_quiet (fail)
              go_wp2_with fail
              go_roundw
              case rel => exact ⟨i + 1, _, c1, m, o, by omega, by go_num, rfl, HM.out, by omega, by rw [← HIns.out]; exact HSn.out, HAz.out.go (below_drewN (Below.refl _ _) _)⟩
              case measure => simp [intOf]; omega
    · obtain rfl : i = l.length := by omega
      have hs := HSo.out
      rw [List.take_length] at hs
      have HS2 := Lib.hid hs
      clear hs HSo
      go_wp2_with fail
      go_ret
      have hm := HM.out
      subst hm
      exact ⟨o, HS2.out, A1, c1, rfl, HAcc.out.own, HAcc.out.low, HAcc.out.bel⟩
end Go.Proofs.Ytajilbapjpfloaa.srt
