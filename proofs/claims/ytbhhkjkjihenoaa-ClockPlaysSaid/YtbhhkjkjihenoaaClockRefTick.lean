/- What confluenceref23.Tick and confluencelaw23.same return. Condition: at most 10000 rows. -/
import Derived.Test.YtbhhkjkjihenoaaClockRefSet
import Derived.BigQuiet
namespace Go.Proofs.Ytbhhkjkjihenoaa.clk
open Go.RowKit Go.Proofs.Ytbhhkjkjihenoaa.kit Go.Proofs.Ytbhhkjkjihenoaa.mem Go.Proofs.Ytbhhkjkjihenoaa.foot Go.Proofs.Ytbhhkjkjihenoaa.maps
set_option linter.unusedVariables false
set_option linter.unusedSimpArgs false

/-- rows that stay and keys that went, gathered -/
structure TK (w : World) (o : KV) (g : List Int) (Ao : Option Addr) (co : Nat) (Ag : Option Addr) (cg : Nat) (wr : World) : Prop where
  ro : Own wr 117 2 Ao o.length co (pv2 o)
  rg : Own wr 3 1 Ag g.length cg (iv g)
  lo : ∀ k, sf Ao k → w.heap.size ≤ k
  lg : ∀ k, sf Ag k → w.heap.size ≤ k
  ap : ∀ k, sf Ao k → ¬ sf Ag k
  bel : Below w.heap.size w wr
section
variable {w wr w2 w3 : World} {o : KV} {g : List Int} {Ao Ag A' : Option Addr} {co cg c' : Nat}
theorem TK.appO (h : TK w o g Ao co Ag cg wr) (hb : Below wr.heap.size wr w2) {p : Int × Int} (ho : Own w3 117 2 A' (o.length + 1) c' (pv2 o ++ [.int .i64 p.1, .int .i64 p.2])) (hc : Chg (sf Ao) w2 w3) (hf : Fresh w2 (sf Ao) (sf A')) : TK w (o ++ [p]) g A' c' Ag cg w3 := by
  have hlo := h.lo
  have hs := hb.size
  have hs0 := h.bel.size
  refine ⟨by rw [List.length_append, pv2_app]; exact ho, (h.rg.bel hb).chg hc fun j _ h2 h1 => h.ap j h1 h2, fun j hj => ?_, h.lg, fun j hj h2 => ?_, h.bel.trans ((hb.mono hs0).trans (hc.below hlo (Nat.le_trans hs0 hs)))⟩
  · rcases hf j hj with h1 | h1
    · exact hlo j h1
    · omega
  · rcases hf j hj with h1 | h1
    · exact h.ap j h1 h2
    · have := h.rg.lt j h2; omega
theorem TK.appG (h : TK w o g Ao co Ag cg wr) (hb : Below wr.heap.size wr w2) {x : Int} (ho : Own w3 3 1 A' (g.length + 1) c' (iv g ++ [.int .i64 x])) (hc : Chg (sf Ag) w2 w3) (hf : Fresh w2 (sf Ag) (sf A')) : TK w o (g ++ [x]) Ao co A' c' w3 := by
  have hlg := h.lg
  have hs := hb.size
  have hs0 := h.bel.size
  refine ⟨(h.ro.bel hb).chg hc fun j _ h2 h1 => h.ap j h2 h1, by rw [List.length_append]; simpa [iv] using ho, h.lo, fun j hj => ?_, fun j hj h2 => ?_, h.bel.trans ((hb.mono hs0).trans (hc.below hlg (Nat.le_trans hs0 hs)))⟩
  · rcases hf j hj with h1 | h1
    · exact hlg j h1
    · omega
  · rcases hf j h2 with h1 | h1
    · exact h.ap j hj h1
    · have := h.ro.lt j hj; omega
theorem TK.apO {w0 w1 : World} {p : Int × Int} (hc : Chg (sf Ao) w0 w3) (hf : Fresh w0 (sf Ao) (sf A')) (ho : Own w3 117 2 A' (o.length + 1) c' (pv2 o ++ [.int .i64 p.1, .int .i64 p.2])) (h : TK w o g Ao co Ag cg w1) (h1 : w0.heap = w1.heap) (h2 : w0.os = w1.os) (h3 : w0.tape = w1.tape) (h4 : w0.output = w1.output) : TK w (o ++ [p]) g A' c' Ag cg w3 :=
  h.appO (w2 := w0) ⟨h2, h3, h4, by rw [h1]; exact Nat.le_refl _, fun k _ => by rw [h1]⟩ ho hc hf
theorem TK.go (h : TK w o g Ao co Ag cg wr) (hb : Below wr.heap.size wr w2) : TK w o g Ao co Ag cg w2 := ⟨h.ro.bel hb, h.rg.bel hb, h.lo, h.lg, h.ap, h.bel.trans (hb.mono h.bel.size)⟩
end
theorem rTick_snoc {R : KV} {i : Nat} (h : i < R.length) : (R[i].2 = 1 → rTick (R.take (i + 1)) = rTick (R.take i) ∧ rGone (R.take (i + 1)) = rGone (R.take i) ++ [R[i].1]) ∧ (R[i].2 ≠ 1 → rTick (R.take (i + 1)) = rTick (R.take i) ++ [(R[i].1, R[i].2 - 1)] ∧ rGone (R.take (i + 1)) = rGone (R.take i)) := by
  rw [List.take_succ_eq_append_getElem h]
  generalize R[i] = r
  unfold rTick rGone
  constructor
  · intro e
    have e1 : (r.2 != 1) = false := by simp [e]
    have e2 : (r.2 == 1) = true := by simp [e]
    simp [List.filter_append, e1, e2]
  · intro e
    have e1 : (r.2 != 1) = true := by simpa using e
    have e2 : (r.2 == 1) = false := by simpa using e
    simp [List.filter_append, e1, e2]

set_option maxRecDepth 100000 in
set_option maxHeartbeats 2000000 in
theorem refTick_any (B : Nat) (R : KV) (A : Option Addr) (c : Nat) (w : World) (hl : R.length ≤ 10000) (hL : Lefts R) (hr : Row3 B w 2 A R.length c (pv2 R)) (hB : B ≤ w.heap.size) :
    Calls Try.prog 53 #[.slice A R.length c] w fun e w' => ∃ o g Ao co Ag cg, o = rTick R ∧ g = rGone R ∧ e = .returned (.tuple #[.slice Ao o.length co, .slice Ag g.length cg]) ∧ Row3 B w' 2 Ao o.length co (pv2 o) ∧ Own w' 3 1 Ag g.length cg (iv g) ∧ (∀ k, sf Ag k → w.heap.size ≤ k) ∧ Below w.heap.size w w' := by
  have HR := Lib.hid hr
  have HL := Lib.hid hL
  obtain ⟨i0, hi, hz0, hz1, hz2⟩ := info_parts info_row
  have Hi := Lib.hid hi
  have Hz0 := Lib.hid hz0
  have Hz1 := Lib.hid hz1
  have Hz2 := Lib.hid hz2
  obtain ⟨j0, hj, hy0, hy1, hy2⟩ := info_parts info_i64
  have Hj := Lib.hid hj
  have Hy0 := Lib.hid hy0
  have Hy1 := Lib.hid hy1
  have Hy2 := Lib.hid hy2
  have hlR := hl
  have HT0 : Hid (TK w [] [] (some ⟨w.heap.size, 0, none⟩) 0 (some ⟨w.heap.size + 1, 0, none⟩) 0 ((w.alloc (.cells #[] 117)).alloc (.cells #[] 3))) := by
    have b1 : Below w.heap.size w (w.alloc (.cells #[] 117)) := (Below.refl _ _).alloc (Nat.le_refl _) _
    have k1 := Bk.new (w.alloc (.cells #[] 117)) 3 #[]
    rw [World.size_alloc] at k1
    exact ⟨Own.empty ((Bk.new w _ _).alloc _), Own.empty k1, fun k hk => by rw [sf_some] at hk; have : w.heap.size = k := hk; omega, fun k hk => by rw [sf_some] at hk; have : w.heap.size + 1 = k := hk; omega, fun k hk h2 => by rw [sf_some] at hk h2; have : w.heap.size = k := hk; have : w.heap.size + 1 = k := h2; omega, b1.alloc b1.size _⟩
  have HBB := Lib.hid hB
  clear hi hz0 hz1 hz2 hj hy0 hy1 hy2 hr hL hB
  go_enter Try.func53, Try.ntmps53
  go_wp2_with fail
  go_loopw [4, 5, 6] (fun v4 v5 v6 wr => ∃ (i : Nat) (o : KV) (g : List Int) (Ao : Option Addr) (co : Nat) (Ag : Option Addr) (cg : Nat), i ≤ R.length ∧ v6 = .int .i64 i ∧ v4 = .slice Ao o.length co ∧ v5 = .slice Ag g.length cg ∧ o = rTick (R.take i) ∧ g = rGone (R.take i) ∧ o.length ≤ i ∧ g.length ≤ i ∧ TK w o g Ao co Ag cg wr) (fun _ _ v6 _ => R.length - (intOf v6).toNat)
  case atStart => exact ⟨0, [], [], _, 0, _, 0, by omega, rfl, rfl, rfl, by simp [rTick], by simp [rGone], by simp, by simp, HT0.out⟩
  case round =>
    obtain ⟨i, o, g, Ao, co, Ag, cg, hi, rfl, rfl, rfl, ho, hg, hol, hgl, hT⟩ := hrel
    have HO := Lib.hid (And.intro ho hg)
    have HT := Lib.hid hT
    clear ho hg hT HT0
    by_cases hlt : i < R.length
    · obtain ⟨b, off, rfl, hb, c0, c1⟩ := row_cell HR.out hlt
      have q0 := (HT.out.bel.cell (p := ⟨b, off + i * 2, none⟩) hb).trans c0
      have q1 := (HT.out.bel.cell (p := ⟨b, off + i * 2 + 1, none⟩) hb).trans c1
      have hlt' : (i : Int) < (R.length : Int) := by omega
      obtain ⟨s1, s2⟩ := rTick_snoc hlt
      obtain ⟨lf0, lf1⟩ := HL.out R[i] (by simp)
      clear c0 c1
      by_cases h1 : R[i].2 = 1
      · have HE : Hid (o = rTick (R.take (i + 1)) ∧ g ++ [R[i].1] = rGone (R.take (i + 1))) := by
          obtain ⟨h2, h3⟩ := s1 h1
          exact ⟨by rw [h2]; exact HO.out.1, by rw [h3, HO.out.2]⟩
        rw [h1] at q1
        clear s1 s2 h1 lf0 lf1
        generalize R[i].1 = x at *
        have hbl : Below wr.heap.size wr (wr.alloc (.cells #[.int .i64 x] 3)) := (Below.refl _ _).alloc (Nat.le_refl _) _
        have HO3 := Lib.hid (HT.out.rg.bel hbl)
        have HRg : Hid (Rg (wr.alloc (.cells #[.int .i64 x] 3)) (fun k => k = wr.heap.size) 1 (some ⟨wr.heap.size, 0, none⟩) 1 [.int .i64 x]) := Rg.new wr 3 1 1 #[.int .i64 x] rfl
        have HA : Hid (∀ A3 c3 w5, Own w5 3 1 A3 (g.length + 1) c3 (iv g ++ [.int .i64 x]) → Chg (sf Ag) (wr.alloc (.cells #[.int .i64 x] 3)) w5 → Fresh (wr.alloc (.cells #[.int .i64 x] 3)) (sf Ag) (sf A3) → TK w o (g ++ [x]) Ao co A3 c3 w5) := fun A3 c3 w5 g1 g2 g3 => HT.out.appG hbl g1 g2 g3
        clear hbl HT
        go_wp2_with (at_builtin; refine wpList_app _ rfl (.tmp 21) (.tmp 27) _ rfl 3 j0 _ 1 8 Try.underlying100 Hj.out Hy0.out Hy1.out Hy2.out rfl (by omega) Ag g.length cg (iv g) rfl HO3.out _ (some ⟨wr.heap.size, 0, none⟩) 1 1 (by intro h; cases h) [.int .i64 x] rfl HRg.out (by intro u hu; simp at hu; subst hu; rfl) (by unfold maxLen; omega) (by omega) ?_; intro A4 c4 w5 ho5 hc5 hf5; have HJ5 := Lib.hid (HA.out A4 c4 w5 ho5 hc5 hf5); clear ho5 hc5 hf5)
        go_roundw
        case rel => exact ⟨i + 1, o, g ++ [x], Ao, co, A4, c4, by omega, by go_num, rfl, by rw [List.length_append]; rfl, HE.out.1, HE.out.2, by omega, by rw [List.length_append]; simp; omega, HJ5.out⟩
        case measure => simp [intOf]; omega
      · have HE : Hid (o ++ [(R[i].1, R[i].2 - 1)] = rTick (R.take (i + 1)) ∧ g = rGone (R.take (i + 1))) := by
          obtain ⟨h2, h3⟩ := s2 h1
          exact ⟨by rw [h2, HO.out.1], by rw [h3]; exact HO.out.2⟩
        have e1 : (R[i].2 == 1) = false := by rw [beq_eq_false_iff_ne]; exact h1
        clear s1 s2 h1
        generalize R[i].1 = x at *
        generalize R[i].2 = y at *
        have hw : IntKind.i64.wrap (y - 1) = y - 1 := IntWalk.i64_in _ (by omega)
        generalize hz : y - 1 = z at *
        have hbl : Below wr.heap.size wr (wr.alloc (.cells #[.int .i64 x, .int .i64 z] 117)) := (Below.refl _ _).alloc (Nat.le_refl _) _
        have HT2 := Lib.hid (HT.out.go hbl)
        have hbw : b < wr.heap.size := Nat.lt_of_lt_of_le hb HT.out.bel.size
        have HCe : Hid (∀ w', Below w.heap.size w w' → w'.cell? ⟨b, off + i * 2, none⟩ = some (.int .i64 x) ∧ w'.cell? ⟨b, off + i * 2 + 1, none⟩ = some (.int .i64 y)) := fun w' h => ⟨(h.cell (p := ⟨b, off + i * 2, none⟩) hb).trans ((HT.out.bel.cell (p := ⟨b, off + i * 2, none⟩) hb).symm.trans q0), (h.cell (p := ⟨b, off + i * 2 + 1, none⟩) hb).trans ((HT.out.bel.cell (p := ⟨b, off + i * 2 + 1, none⟩) hb).symm.trans q1)⟩
        clear hbl HT
        go_upto_region 7 with fail
        go_region_held3 (fun w' => w'.cell? ⟨b, off + i * 2, none⟩ = some (.int .i64 x) ∧ w'.cell? ⟨b, off + i * 2 + 1, none⟩ = some (.int .i64 y)) (exact ⟨by go_simp, by go_simp⟩) (first
          | (refine step_app _ (by rfl) (.tmp 29) (.tmp 42) _ (by rfl) 117 i0 _ 2 16 Try.underlying104 Hi.out Hz0.out Hz1.out Hz2.out rfl (by omega) Ao o.length co (pv2 o) (by rfl) HT2.out.ro _ (some ⟨wr.heap.size, 0, none⟩) 1 1 (by intro h; cases h) [.int .i64 x, .int .i64 z] (by rfl) (rg_two (Bk.new wr _ _)) (by intro u hu; simp at hu; rcases hu with rfl | rfl <;> rfl) (by unfold maxLen; omega) (by omega) ?_; intro A4 c4 w5 ho5 hc5 hf5; go_must (have HJ5 := Lib.hid (TK.apO (p := (x, z)) hc5 hf5 ho5 HT2.out rfl rfl rfl rfl)); go_must (have q0 := (HCe.out _ HJ5.out.bel).1); go_must (have q1 := (HCe.out _ HJ5.out.bel).2); clear ho5 hc5 hf5))
        all_goals
          go_wp2_with fail
          go_roundw
          case rel => exact ⟨i + 1, o ++ [(x, z)], g, A4, c4, Ag, cg, by omega, by go_num, by rw [List.length_append]; rfl, rfl, HE.out.1, HE.out.2, by rw [List.length_append]; simp; omega, by omega, HJ5.out⟩
          case measure => simp [intOf]; omega
    · obtain rfl : i = R.length := by omega
      have HE : Hid (o = rTick R ∧ g = rGone R ∧ Row3 B wr 2 Ao o.length co (pv2 o)) := ⟨by rw [HO.out.1, List.take_length], by rw [HO.out.2, List.take_length], HT.out.ro.nil, HT.out.ro.cap, HT.out.ro.max, HT.out.ro.rg, fun x hx => Nat.le_trans HBB.out (HT.out.lo x hx), HT.out.ro.lt⟩
      go_wp2_with fail
      go_ret2
      exact ⟨o, g, Ao, co, Ag, cg, HE.out.1, HE.out.2.1, rfl, HE.out.2.2, HT.out.rg, HT.out.lg, HT.out.bel⟩

/-- two slices of the same numbers are the same -/
theorem same_any {G H : Foot} {A A' : Option Addr} {c c' : Nat} (L : List Int) (w : World) (hl : L.length ≤ 10000) (h : Rg w G 1 A L.length (iv L)) (h' : Rg w H 1 A' L.length (iv L)) :
    Calls Try.prog 54 #[.slice A L.length c, .slice A' L.length c'] w fun e w' => e = .returned (.bool true) ∧ Below w.heap.size w w' := by
  have HA := Lib.hid h
  have HB := Lib.hid h'
  clear h h'
  go_enter Try.func54, Try.ntmps54
  go_wp2_with fail
  go_loopw [5] (fun v5 wr => ∃ i : Nat, i ≤ L.length ∧ v5 = .int .i64 i ∧ Below w.heap.size w wr) (fun v5 _ => L.length - (intOf v5).toNat)
  case atStart => exact ⟨0, by omega, rfl, Below.refl _ _⟩
  case round =>
    obtain ⟨i, hi, rfl, hb⟩ := hrel
    have HBe := Lib.hid hb
    clear hb
    by_cases hlt : i < L.length
    · obtain ⟨b, off, rfl, _, hb, hc⟩ := HA.out.2 (by omega)
      obtain ⟨b', off', rfl, _, hb', hc'⟩ := HB.out.2 (by omega)
      have q0 := (HBe.out.cell (p := ⟨b, off + i, none⟩) hb).trans (hc i (.int .i64 L[i]) (by simp [iv, hlt]))
      have q1 := (HBe.out.cell (p := ⟨b', off' + i, none⟩) hb').trans (hc' i (.int .i64 L[i]) (by simp [iv, hlt]))
      have hlt' : (i : Int) < (L.length : Int) := by omega
      clear hc hc'
      generalize L[i] = x at *
      go_upto_region 6 with fail
      go_quiet (fail)
      go_wp2_with fail
      go_roundw
      case rel => exact ⟨i + 1, by omega, by go_num, below_drewN HBe.out _⟩
      case measure => simp [intOf]; omega
    · obtain rfl : i = L.length := by omega
      go_wp2_with fail
      go_ret
      exact ⟨rfl, HBe.out⟩
end Go.Proofs.Ytbhhkjkjihenoaa.clk
