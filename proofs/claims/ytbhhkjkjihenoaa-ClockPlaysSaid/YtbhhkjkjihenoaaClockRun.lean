/- What clock's Run returns and leaves. Conditions: at most 10000 keys, at most 300 ticks. -/
import Derived.Test.YtbhhkjkjihenoaaClockMath
import Derived.Test.YtbhhkjkjihenoaaClockNext
namespace Go.Proofs.Ytbhhkjkjihenoaa.clk
open Go.RowKit Go.Proofs.Ytbhhkjkjihenoaa.kit Go.Proofs.Ytbhhkjkjihenoaa.mem Go.Proofs.Ytbhhkjkjihenoaa.foot Go.Proofs.Ytbhhkjkjihenoaa.maps
set_option linter.unusedVariables false
set_option linter.unusedSimpArgs false

/-- pairs as cells -/
def pv2 (l : List (Int × Int)) : List Value := l.flatMap fun p => [.int .i64 p.1, .int .i64 p.2]
theorem pv2_len (l : List (Int × Int)) : (pv2 l).length = l.length * 2 := by
  induction l with
  | nil => rfl
  | cons p l ih => simp [pv2] at ih ⊢; omega
theorem pv2_app (l m : List (Int × Int)) : pv2 (l ++ m) = pv2 l ++ pv2 m := by simp [pv2]
theorem pv2_one (l : List (Int × Int)) : ∀ u ∈ pv2 l, u.oneCell' = true := by
  intro u hu
  simp only [pv2, List.mem_flatMap] at hu
  obtain ⟨p, _, hu⟩ := hu
  simp at hu
  rcases hu with rfl | rfl <;> rfl
theorem pv2_at : ∀ (l : List (Int × Int)) (k : Nat) (h : k < l.length), (pv2 l)[k * 2 + 0]? = some (.int .i64 l[k].1) ∧ (pv2 l)[k * 2 + 1]? = some (.int .i64 l[k].2)
  | p :: l, 0, _ => by simp [pv2]
  | p :: l, k + 1, h => by
    have ih := pv2_at l k (by simpa using h)
    have e : ∀ j, (pv2 (p :: l))[(k + 1) * 2 + j]? = (pv2 l)[k * 2 + j]? := fun j => by
      rw [show pv2 (p :: l) = [.int .i64 p.1, .int .i64 p.2] ++ pv2 l from rfl, List.getElem?_append_right (by simp; omega)]
      congr 1
      simp
      omega
    rw [e, e]
    exact ih

def gl (o : List (Int × Int)) (x : Int × KV × List (Int × Int)) : Int × KV × List (Int × Int) := (x.1, x.2.1, o ++ x.2.2)
theorem gl_step {m i : Nat} {nw : Int} {Ri : KV} {o : List (Int × Int)} (hi : i < m) (h0 : 0 < Ri.length) :
    gl o (rRun (m - i) nw Ri) = gl (o ++ (rGone Ri).map fun k => (nw + 1, k)) (rRun (m - (i + 1)) (nw + 1) (rTick Ri)) := by
  obtain ⟨j, hj⟩ : ∃ j, m - i = j + 1 := ⟨m - i - 1, by omega⟩
  rw [hj, show m - (i + 1) = j from by omega]
  unfold gl
  rw [rRun]
  rw [if_neg (by omega)]
  simp
theorem gl_end {m i : Nat} {nw : Int} {Ri : KV} {o : List (Int × Int)} (h : Ri.length = 0 ∨ m ≤ i) : gl o (rRun (m - i) nw Ri) = (nw, Ri, o) := by
  rcases hj : m - i with _ | j
  · simp [gl, rRun]
  · rcases h with h | h
    · simp [gl, rRun, h]
    · omega

/-- the rounds within a tick -/
structure RJ (w : World) (F : Foot) (t : Nat) (nw : Int) (es : KV) (L : List Int) (A2 : Option Addr) (c2 : Nat) (o : List (Int × Int)) (A : Option Addr) (c : Nat) (wk : World) : Prop where
  own : Own wk 113 2 A o.length c (pv2 o)
  gone : Own wk 3 1 A2 L.length c2 (iv L)
  ap : ∀ k, sf A k → ¬ sf A2 k
  low : ∀ k, sf A k → w.heap.size ≤ k
  low2 : ∀ k, sf A2 k → w.heap.size ≤ k
  fl : ∀ k, F k → k < w.heap.size
  ck : Ck wk F t nw es
  chg : Chg F w wk
theorem RJ.app {w wk w2 w3 : World} {F : Foot} {t : Nat} {nw x : Int} {es : KV} {L : List Int} {A A2 A' : Option Addr} {c c2 c' : Nat} {o : List (Int × Int)} (h : RJ w F t nw es L A2 c2 o A c wk) (hb : Below wk.heap.size wk w2) {k : Int}
    (ho : Own w3 113 2 A' (o.length + 1) c' (pv2 o ++ [.int .i64 x, .int .i64 k])) (hc : Chg (sf A) w2 w3) (hf : Fresh w2 (sf A) (sf A')) : RJ w F t nw es L A2 c2 (o ++ [(x, k)]) A' c' w3 := by
  have hlow := h.low
  have hfl := h.fl
  refine ⟨by rw [List.length_append, pv2_app]; exact ho, (h.gone.bel hb).chg hc fun j _ h2 h1 => h.ap j h1 h2, fun j hj h2 => ?_, fun j hj => ?_, h.low2, hfl, (h.ck.bel hb).chg hc fun j hj h1 => by have := hfl j hj; have := hlow j h1; omega, (h.chg.bel hb).trans hc fun j hj h1 => by have := hlow j h1; omega⟩
  · rcases hf j hj with h1 | h1
    · exact h.ap j h1 h2
    · have := h.gone.lt j h2; have := hb.size; omega
  · rcases hf j hj with h1 | h1
    · exact hlow j h1
    · have := h.chg.size; have := hb.size; omega

theorem info_pair : (Try.prog.info? 113).map (fun i => (i.zero, i.size, i.bytes)) = some (some (.agg #[.int .i64 0, .int .i64 0]), 2, 16) := by kernel_rfl

set_option maxRecDepth 100000 in
set_option maxHeartbeats 1000000 in
theorem Run_any {F : Foot} {t : Nat} {now n : Int} {R : KV} (w : World) (hn : n ≤ 300) (hn0 : -9223372036854775808 ≤ n) (hw : 0 ≤ now ∧ now ≤ 900000) (hl : R.length ≤ 10000) (hR : Rising R) (hL : Lefts R) (h : Ck w F t now (ab now R)) :
    Calls Try.prog 55 #[.pointer (some ⟨t, 0, none⟩), .int .i64 n] w fun e w' => ∃ nw' R' outs A c, rRun n.toNat now R = (nw', R', outs) ∧ e = .returned (.slice A outs.length c) ∧ Own w' 113 2 A outs.length c (pv2 outs) ∧ (∀ k, sf A k → w.heap.size ≤ k) ∧ Ck w' F t nw' (ab nw' R') ∧ Chg F w w' := by
  have HCk := Lib.hid h
  have hfl := h.lt
  have HF := Lib.hid hfl
  obtain ⟨i0, hi, hz0, hz1, hz2⟩ := info_parts info_pair
  have Hi := Lib.hid hi
  have Hz0 := Lib.hid hz0
  have Hz1 := Lib.hid hz1
  have Hz2 := Lib.hid hz2
  obtain ⟨m, hm⟩ : ∃ m, m = n.toNat := ⟨_, rfl⟩
  have hm3 : m ≤ 300 := by omega
  have HM := Lib.hid hm
  have HR := Lib.hid hR
  have HL := Lib.hid hL
  have HE0 : Hid (rRun m now R = gl [] (rRun (m - 0) now R)) := by simp [Hid, gl]
  rw [← hm]
  obtain ⟨w0, w1⟩ := hw
  clear hi hz0 hz1 hz2 h hfl hm hR hL
  go_enter Try.func55, Try.ntmps55
  go_wp2_with fail
  go_loopw [5, 6, 8] (fun v5 v6 _ wr => ∃ (i : Nat) (nw : Int) (Ri : KV) (A : Option Addr) (c : Nat) (o : List (Int × Int)), i ≤ m ∧ v6 = .int .i64 i ∧ v5 = .slice A o.length c ∧ nw = now + i ∧ rRun m now R = gl o (rRun (m - i) nw Ri) ∧ o.length + Ri.length ≤ R.length ∧ Rising Ri ∧ Lefts Ri ∧ Own wr 113 2 A o.length c (pv2 o) ∧ (∀ k, sf A k → w.heap.size ≤ k) ∧ Ck wr F t nw (ab nw Ri) ∧ Chg F w wr) (fun _ v6 _ _ => m - (intOf v6).toNat)
  case atStart => exact ⟨0, now, R, none, 0, [], by omega, rfl, rfl, by simp, HE0.out, by simp, HR.out, HL.out, Own.none_ _ _ _, fun k hk => absurd hk (sf_none k), HCk.out, Chg.refl _ _⟩
  case round =>
    obtain ⟨i, nw, Ri, A, c, o, him, rfl, rfl, hnw, he, hol, hRi, hLi, hown, hlow, hck, hch⟩ := hrel
    obtain ⟨b, hb, _, _, _, _, l2⟩ := hck.look (k := 0) (by decide)
    rw [ab_len] at l2
    have b0 := hb.cell 0
    have b1 := hb.cell 1
    simp at b0 b1
    have HT := Lib.hid (tick_any wr (by omega) (by rw [ab_len]; omega) hck)
    rw [ab_gone hRi, ab_stay] at HT
    have HE := Lib.hid he
    have HO := Lib.hid hown
    have HLo := Lib.hid hlow
    have HRi := Lib.hid (And.intro hRi hLi)
    have HC := Lib.hid (And.intro hck hch)
    clear hb he hRi hLi hown hlow hck hch HE0 HCk HR HL
    by_cases hc : i < m ∧ 0 < Ri.length
    · obtain ⟨hc1, hc2⟩ := hc
      have e1 : decide ((i : Int) < min n 65535) = true := by have := HM.out; simp; omega
      have e2 : decide ((0 : Int) < (Ri.length : Int)) = true := by simp; omega
      obtain ⟨L, hLe⟩ : ∃ L, L = rGone Ri := ⟨_, rfl⟩
      have hlen := rTick_len Ri
      rw [← hLe] at HT hlen
      have HLe := Lib.hid hLe
      clear hLe
      go_wp2_with fail
      refine HT.out.mono ?_; rintro e w3 ⟨⟨A2, c2, rfl, ho2, hlow2⟩, hck3, hc3⟩
      have HJ : Hid (RJ w F t (nw + 1) (ab (nw + 1) (rTick Ri)) L A2 c2 o A c w3) :=
        ⟨HO.out.chg hc3 fun k _ h1 h2 => by have := HF.out k h2; have := HLo.out k h1; omega, ho2, fun k h1 h2 => by have := HO.out.lt k h1; have := hlow2 k h2; omega, HLo.out, fun k h2 => by have := hlow2 k h2; have := HC.out.2.size; omega, HF.out, hck3, HC.out.2.trans hc3 fun _ _ e => e⟩
      have HEq := Lib.hid (HE.out.trans (gl_step hc1 hc2))
      rw [← HLe.out] at HEq
      have hnw' : nw + 1 = now + (i + 1 : Nat) := by omega
      have HRt : Hid (Rising (rTick Ri) ∧ Lefts (rTick Ri)) := ⟨HRi.out.1.tick, HRi.out.2.tick⟩
      clear ho2 hlow2 hck3 hc3 HT HO HLo HC HE HRi HLe b0 b1
      have hlL : o.length + L.length ≤ 10000 := by omega
      generalize rTick Ri = Rt at *
      generalize hx : nw + 1 = x at *
      have HNw := Lib.hid hnw'
      clear hnw' hx
      go_wp2_with fail
      go_loopw [5, 8, 28] (fun v5 _ v28 wk => ∃ (j : Nat) (o2 : List (Int × Int)) (A' : Option Addr) (c' : Nat), j ≤ L.length ∧ v28 = .int .i64 j ∧ v5 = .slice A' o2.length c' ∧ o2 = o ++ (L.take j).map (fun k => (x, k)) ∧ o2.length = o.length + j ∧ RJ w F t x (ab x Rt) L A2 c2 o2 A' c' wk) (fun _ _ v28 _ => L.length - (intOf v28).toNat)
      case atStart => exact ⟨0, o, A, c, by omega, rfl, rfl, by simp, by omega, HJ.out⟩
      case round =>
        obtain ⟨j, o2, A', c', hj, rfl, rfl, ho2, ho2l, hJ⟩ := hrel
        have HJ2 := Lib.hid hJ
        have HO2 := Lib.hid ho2
        have HO2l := Lib.hid ho2l
        have ho2b : o2.length ≤ 10000 := by omega
        clear hJ ho2 HJ ho2l
        by_cases hlt : j < L.length
        · obtain ⟨g, off, hA2, hcell⟩ := clk.Own.cell1 HJ2.out.gone rfl hlt
          subst hA2
          obtain ⟨b', hb', _⟩ := HJ2.out.ck.ex
          have b0 := hb'.cell 0
          simp at b0
          have HTk : Hid (o ++ (L.take (j + 1)).map (fun k => (x, k)) = o2 ++ [(x, L[j])]) := by
            rw [Hid, HO2.out, List.take_succ_eq_append_getElem hlt, List.map_append, List.append_assoc]
            rfl
          generalize L[j] = y at *
          have hbl : Below wr.heap.size wr (wr.alloc (.cells #[.int .i64 x, .int .i64 y] 113)) := (Below.refl _ _).alloc (Nat.le_refl _) _
          have HO3 := Lib.hid (HJ2.out.own.bel hbl)
          have HRg : Hid (Rg (wr.alloc (.cells #[.int .i64 x, .int .i64 y] 113)) (fun k => k = wr.heap.size) 2 (some ⟨wr.heap.size, 0, none⟩) 1 [.int .i64 x, .int .i64 y]) := Rg.new wr 113 2 1 #[.int .i64 x, .int .i64 y] rfl
          have HA : Hid (∀ A3 c3 w5, Own w5 113 2 A3 (o2.length + 1) c3 (pv2 o2 ++ [.int .i64 x, .int .i64 y]) → Chg (sf A') (wr.alloc (.cells #[.int .i64 x, .int .i64 y] 113)) w5 → Fresh (wr.alloc (.cells #[.int .i64 x, .int .i64 y] 113)) (sf A') (sf A3) → RJ w F t x (ab x Rt) L (some ⟨g, off, none⟩) c2 (o2 ++ [(x, y)]) A3 c3 w5) := fun A3 c3 w5 g1 g2 g3 => HJ2.out.app hbl g1 g2 g3
          clear hb' hbl HJ2
          go_wp2_with (at_builtin; refine wpList_app _ rfl (.tmp 32) (.tmp 39) _ rfl 113 i0 _ 2 16 Try.underlying111 Hi.out Hz0.out Hz1.out Hz2.out rfl (by omega) A' o2.length c' (pv2 o2) rfl HO3.out _ (some ⟨wr.heap.size, 0, none⟩) 1 1 (by intro h; cases h) [.int .i64 x, .int .i64 y] rfl HRg.out (by intro u hu; simp at hu; rcases hu with rfl | rfl <;> rfl) (by unfold maxLen; omega) (by omega) ?_; intro A4 c4 w5 ho5 hc5 hf5; have HJ5 := Lib.hid (HA.out A4 c4 w5 ho5 hc5 hf5); clear ho5 hc5 hf5)
          go_roundw
          case rel => exact ⟨j + 1, o2 ++ [(x, y)], A4, c4, by omega, by go_num, by rw [List.length_append]; rfl, HTk.out.symm, by rw [List.length_append, HO2l.out]; rfl, HJ5.out⟩
          case measure => simp [intOf]; omega
        · obtain rfl : j = L.length := by omega
          go_wp2_with fail
          go_roundw
          case rel =>
            refine ⟨i + 1, x, Rt, A', c', o2, by omega, by go_num, rfl, HNw.out, ?_, by have := HO2l.out; omega, HRt.out.1, HRt.out.2, HJ2.out.own, HJ2.out.low, HJ2.out.ck, HJ2.out.chg⟩
            rw [HEq.out, HO2.out, List.take_length]
          case measure => simp [intOf]; omega
    · have HEn : Hid (rRun m now R = (nw, Ri, o)) := by rw [Hid, HE.out]; exact gl_end (by omega)
      by_cases hc1 : i < m
      case' pos =>
        have hz : Ri.length = 0 := by omega
        have e1 : decide ((i : Int) < min n 65535) = true := by have := HM.out; simp; omega
        rw [hz] at l2
        clear hz
      case' neg =>
        have e1 : decide ((i : Int) < min n 65535) = false := by have := HM.out; simp; omega
      all_goals
        go_wp2_with fail
        go_ret
        exact ⟨nw, Ri, o, A, c, HEn.out, rfl, HO.out, HLo.out, HC.out.1, HC.out.2⟩
end Go.Proofs.Ytbhhkjkjihenoaa.clk
