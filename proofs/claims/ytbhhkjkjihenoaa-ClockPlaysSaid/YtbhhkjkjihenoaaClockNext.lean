/- What clock's Next returns. Condition: at most 10000 keys. -/
import Derived.Test.YtbhhkjkjihenoaaClockKeys
import Derived.Test.YtbhhkjkjihenoaaMapRangeIn
import Derived.Deep.RegionHeld3
namespace Go.Proofs.Ytbhhkjkjihenoaa.clk
open Go.RowKit Go.Proofs.Ytbhhkjkjihenoaa.kit Go.Proofs.Ytbhhkjkjihenoaa.mem Go.Proofs.Ytbhhkjkjihenoaa.foot Go.Proofs.Ytbhhkjkjihenoaa.maps
set_option linter.unusedVariables false
set_option linter.unusedSimpArgs false

set_option maxRecDepth 100000 in
set_option maxHeartbeats 1000000 in
/-- maps.Values over a map of the call's own: its values come, in some order -/
theorem values_gives {b n : Nat} {es : KV} (Bm : Nat) (w : World) (hBm : Bm < w.heap.size) (hm : w.cell? ⟨Bm, 0, none⟩ = some (.map (some b))) (h : Mp iE Try.prog 3 .i64 w b n es) :
    SeqGives Fence.wide 2 Try.prog 125 #[.pointer (some ⟨Bm, 0, none⟩)] encZ (fun vs => vs.Perm (es.map (·.2))) es.length w := fun l J W hW hJ hY h0 => by
  have hmp : Mp iE Try.prog 3 .i64 W b n es := h.bel hW
  have hmc : W.cell? ⟨Bm, 0, none⟩ = some (.map (some b)) := (hW.cell (p := ⟨Bm, 0, none⟩) hBm).trans hm
  refine callsIn_of_wp Try.func125 rfl trivial ?_ rfl
  simp only [Try.ntmps125, List.size_toArray, List.length_cons, List.length_nil, Nat.reduceAdd, Nat.reduceSub, Array.replicate_succ, Array.replicate_zero, List.push_toArray, List.append_toArray, List.nil_append, List.cons_append]
  gi_wp2_with (first
    | (gi_at_range; refine wpListIn_range_mp (E := iE) rfl _ 150 rfl 3 Try.underlying3 Try.underlying150 rfl hmp ?_; intro w0 hrg0 hg0)
    | gi_in)
  go_frame
  gi_loopw [4] (fun _ wr => ∃ (dn rm : KV), es.Perm (dn ++ rm) ∧ MpR iE Try.prog 3 .i64 wr b W.heap.size n es dn rm ∧ J (dn.map (·.2)) wr) (fun _ wr => wr.rangeLeft b W.heap.size)
  case atStart => exact ⟨[], es, by simp, hrg0, hJ [] W w0 none h0 hg0 (fun r e => by cases e)⟩
  case round =>
    obtain ⟨dn, rm, hp, hrg, hJs⟩ := hrel
    gi_wp2_with (first
      | (gi_at_next; refine wpListIn_next_mp (E := iE) rfl _ rfl Try.underlying3 rfl hrg ?_ ?_)
      | gi_in)
    · intro hr0
      subst hr0
      gi_wp2
      go_end0
      exact ⟨⟨_, rfl⟩, dn.map (·.2), by rw [List.append_nil] at hp; exact (hp.map _).symm, hJs⟩
    · intro k0 v0 r1 r2 w2 hr hm2 hlf hgr hen
      subst hr
      have hp2 : es.Perm ((dn ++ [(k0, v0)]) ++ (r1 ++ r2)) := by
        refine hp.trans ?_
        rw [List.append_assoc]
        refine List.Perm.append_left _ ?_
        rw [List.singleton_append]
        exact List.perm_middle
      have hlen : (dn.map (·.2)).length < es.length := by have := hp.length_eq; rw [List.length_append] at this; simp at this ⊢; omega
      have hJ2 : J (dn.map (·.2)) w2 := hJ _ wr w2 (some W.heap.size) hJs hgr (fun r e => by cases e; exact ⟨Nat.le_refl _, hrg.iter⟩)
      obtain ⟨fn, tmps, assign, body, hy, hR⟩ := hY (dn.map (·.2)) v0 w2 hJ2 hlen
      replace hen : (Instr.entry (.pointer (some ⟨W.heap.size, 0, none⟩))).run Try.prog w2 = .ok (.tuple #[.int .i64 k0, .int .i64 v0]) w2 := hen
      rw [show iE.mkv v0 = .int .i64 v0 from rfl]
      have HHp := Lib.hid hp2
      clear hp hp2 hlen hJ2 hgr hJs
      gi_wp2
      refine hR.mono ?_
      rintro e W3 ⟨rfl, hJ3, hk3⟩
      gi_wp2
      have hrg3 := hm2.of_walks hk3
      go_roundw
      case rel => exact ⟨dn ++ [(k0, v0)], r1 ++ r2, HHp.out, hrg3, by rw [List.map_append]; exact hJ3⟩
      case measure => rw [hm2.left_walks hk3]; exact hlf

theorem enters_values : ∀ args w, (callFunc 125 args).run Try.prog w = .ok (.enter 125 args) w := enters_of Try.func125 (by kernel_rfl) rfl
theorem mapsValues_any (mb : Option Nat) (w : World) : Calls Try.prog 96 #[.map mb] w fun e w' => e = .returned (.func (.func 125) #[] #[.pointer (some ⟨w.heap.size, 0, none⟩)]) ∧ w' = w.alloc (.cells #[.map mb] 150) := by
  have hmf : ∀ (fn : Fn) (first cap : Array Value) (w : World), (Instr.makeFunc fn first cap).run Try.prog w = .ok (.func fn first cap) w := fun _ _ _ _ => rfl
  go_enter Try.func96, Try.ntmps96
  go_wp2_with fail
  go_ret
  exact ⟨rfl, rfl⟩
/-- a new slice of a map's values, in some order -/
theorem collectValues_any {b n : Nat} {es : KV} (w : World) (hl : es.length ≤ 10000) (h : Mp iE Try.prog 3 .i64 w b n es) :
    Calls Try.prog 95 #[.func (.func 125) #[] #[.pointer (some ⟨w.heap.size, 0, none⟩)]] (w.alloc (.cells #[.map (some b)] 150)) fun e w' => ∃ L : List Int, L.Perm (es.map (·.2)) ∧ RetI L w.heap.size e w' ∧ Below w.heap.size w w' := by
  have hseq := values_gives w.heap.size (w.alloc (.cells #[.map (some b)] 150)) (by simp) (by simp) (h.bel ((Below.refl _ _).alloc (Nat.le_refl _) _))
  have cC := AnyZI.collect_in { Try.sortedZ with } Fence.wide 4 trivial trivial rfl (by omega) 125 #[.pointer (some ⟨w.heap.size, 0, none⟩)] trivial enters_values _ es.length (by unfold maxLen; omega) (by omega) _ hseq.bounded
  refine ((callsIn_wide (n := 4)).1 cC).mono ?_
  rintro e w' ⟨v, ss, rfl, ⟨hS, hlen⟩, hrow, hnil, hb⟩
  have hrow' : w'.ownsRow w.heap.size 3 1 v ss.length (iv ss) := ownsRow_base_a hrow (by simp)
  obtain ⟨A, c, rfl⟩ := row_slice hrow'
  obtain ⟨ho, hlow⟩ := Own.of_row hrow'
  exact ⟨ss, hS, ⟨A, c, rfl, ho, hlow⟩, ((Below.refl _ w).alloc (Nat.le_refl _) _).trans (hb.mono (by simp))⟩

theorem Next_empty {F : Foot} {t : Nat} {now : Int} (w : World) (h : Ck w F t now []) :
    Calls Try.prog 57 #[.pointer (some ⟨t, 0, none⟩)] w fun e w' => e = .returned (.tuple #[.int .i64 0, .bool false]) ∧ w = w' := by
  obtain ⟨b, hb, hmp, _, _, _, l2⟩ := h.look (k := 0) (by decide)
  have b1 := hb.cell 1
  simp at b1
  simp only [List.length_nil] at l2
  clear hb hmp h
  go_enter Try.func57, Try.ntmps57
  go_wp2_with fail
  go_ret2
  exact ⟨rfl, rfl⟩
theorem foldl_min : ∀ (zs : List Int) (a : Int), (zs.foldl min a = a ∨ zs.foldl min a ∈ zs) ∧ zs.foldl min a ≤ a ∧ ∀ x ∈ zs, zs.foldl min a ≤ x
  | [], a => by simp
  | z :: zs, a => by
    obtain ⟨h1, h2, h3⟩ := foldl_min zs (min a z)
    rw [List.foldl_cons]
    refine ⟨?_, by omega, fun x hx => ?_⟩
    · rcases h1 with h1 | h1
      · by_cases hz : a ≤ z
        · left; rw [h1]; omega
        · right; rw [h1]; have : min a z = z := by omega
          rw [this]; simp
      · right; exact List.mem_cons_of_mem _ h1
    · rcases List.mem_cons.1 hx with rfl | hx
      · omega
      · exact h3 x hx
theorem minOf_spec (zs : List Int) (h : 0 < zs.length) : Go.Lib.minOf zs ∈ zs ∧ ∀ x ∈ zs, Go.Lib.minOf zs ≤ x := by
  obtain ⟨h1, h2, h3⟩ := foldl_min zs (zs.headD 0)
  refine ⟨?_, h3⟩
  rcases h1 with h1 | h1
  · unfold Go.Lib.minOf
    rw [h1]
    cases zs with
    | nil => simp at h
    | cons z zs => simp
  · exact h1
theorem Min_own {A : Option Addr} {c : Nat} {L : List Int} (w : World) (h0 : 0 < L.length) (hl : L.length ≤ 10000) (h : Own w 3 1 A L.length c (iv L)) :
    Calls Try.prog 94 #[.slice A L.length c] w fun e w' => ∃ m, m ∈ L ∧ (∀ x ∈ L, m ≤ x) ∧ e = .returned (.int .i64 m) ∧ w = w' := by
  obtain ⟨g, off, e, _, _, hc⟩ := h.rg.2 h0
  subst e
  refine (Try.slices_Min_int g off L.length c L w h0 (Nat.le_refl _) (by omega) fun j hj => hc j _ (by simp [iv, hj])).mono ?_
  rintro e w' ⟨rfl, rfl⟩
  rw [List.take_length]
  obtain ⟨h1, h2⟩ := minOf_spec L h0
  exact ⟨_, h1, h2, rfl, rfl⟩

set_option maxRecDepth 100000 in
theorem Next_any {F : Foot} {t : Nat} {now : Int} {es : KV} (w : World) (hl : es.length ≤ 10000) (h0 : 0 < es.length) (hn : 0 ≤ now ∧ now ≤ 1000000) (hv : ∀ p ∈ es, now ≤ p.2 ∧ p.2 ≤ 2000000) (h : Ck w F t now es) :
    Calls Try.prog 57 #[.pointer (some ⟨t, 0, none⟩)] w fun e w' => ∃ m, (∃ p ∈ es, p.2 = m) ∧ (∀ p ∈ es, m ≤ p.2) ∧ e = .returned (.tuple #[.int .i64 (m - now), .bool true]) ∧ Below w.heap.size w w' := by
  obtain ⟨b, hb, hmp, _, _, _, l2⟩ := h.look (k := 0) (by decide)
  have HC := Lib.hid (collectValues_any w.drew hl (hmp.bel (Below.refl _ _).drew))
  have b0 := hb.cell 0
  have b1 := hb.cell 1
  have e0 : ((es.length : Int) == 0) = false := by rw [beq_eq_false_iff_ne]; omega
  simp at b0 b1
  have HV := Lib.hid hv
  have HB := Lib.hid (fun w' (hbl : Below w.heap.size w w') => (show w'.cell? ⟨t, 0, none⟩ = some (.int .i64 now) ∧ w'.cell? ⟨t, 1, none⟩ = some (.map (some b)) from ⟨(hbl.cell (p := ⟨t, 0, none⟩) hb.lt).trans b0, (hbl.cell (p := ⟨t, 1, none⟩) hb.lt).trans b1⟩))
  obtain ⟨n0, n1⟩ := hn
  obtain ⟨a0, a1⟩ := HB.out (w.alloc (.cells #[.map (some b)] 150)) ((Below.refl _ _).alloc (Nat.le_refl _) _)
  clear hb hmp h hv
  go_enter Try.func57, Try.ntmps57
  go_upto_region 3 with fail
  go_region_held3 (fun w' => w'.cell? ⟨t, 0, none⟩ = some (.int .i64 now) ∧ w'.cell? ⟨t, 1, none⟩ = some (.map (some b))) (exact ⟨by go_simp, by go_simp⟩) (first
    | (go_at_call 96; refine (mapsValues_any _ _).mono ?_; rintro e wa ⟨rfl, rfl⟩)
    | (go_at_call 95; refine HC.out.mono ?_; rintro e wb ⟨L, hL, ⟨A, c, rfl, ho, hlow⟩, hbl⟩; go_must (have HB2 := Lib.hid ((Below.refl w.heap.size w).drew.trans hbl)); go_must (have HL := Lib.hid hL); go_must (have HO := Lib.hid ho); go_must (have b0 := (HB.out _ HB2.out).1); go_must (have b1 := (HB.out _ HB2.out).2); clear ho hL hbl hlow)
    | (go_at_call 94; refine (Min_own _ (by rw [HL.out.length_eq, List.length_map]; exact h0) (by rw [HL.out.length_eq, List.length_map]; exact hl) HO.out).mono ?_; rintro e wc ⟨m, hm1, hm2, rfl, rfl⟩; go_must (have HM := Lib.hid (And.intro hm1 hm2)); clear hm1 hm2))
  all_goals
    have hm : m ∈ es.map (·.2) := HL.out.mem_iff.1 HM.out.1
    rw [List.mem_map] at hm
    obtain ⟨p, hp, rfl⟩ := hm
    have hb := HV.out p hp
    have hw : IntKind.i64.wrap (p.2 - now) = p.2 - now := IntWalk.i64_in _ (by omega)
    rw [hw]
    have HE : Hid ((∃ q ∈ es, q.2 = p.2) ∧ ∀ q ∈ es, p.2 ≤ q.2) := ⟨⟨p, hp, rfl⟩, fun q hq => HM.out.2 _ (HL.out.mem_iff.2 (List.mem_map.2 ⟨q, hq, rfl⟩))⟩
    clear hb hw hp HM
    generalize p.2 = m at *
    go_wp2_with fail
    go_ret2
    exact ⟨m, HE.out.1, HE.out.2, rfl, HB2.out⟩
end Go.Proofs.Ytbhhkjkjihenoaa.clk
