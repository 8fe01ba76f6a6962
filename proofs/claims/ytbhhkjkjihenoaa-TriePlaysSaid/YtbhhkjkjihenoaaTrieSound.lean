/- What a node's sound and a tree's Check return of a tree that is as it should be, and of no tree. Condition: fewer than a million keys. Printed by gen_triesound.py. -/
import Derived.Test.YtbhhkjkjihenoaaTrieLong
namespace Go.Proofs.Ytbhhkjkjihenoaa.tri
open Go.RowKit Go.Proofs.Ytbhhkjkjihenoaa.kit Go.Proofs.Ytbhhkjkjihenoaa.mem Go.Proofs.Ytbhhkjkjihenoaa.foot Go.Proofs.Ytbhhkjkjihenoaa.pfx
set_option linter.unusedVariables false
set_option linter.unusedSimpArgs false

/-- what sound leaves: all as it was -/
def SoundP (t : T) (F : Foot) (A : Option Addr) (w : World) (e : Ending) (w' : World) : Prop := e = .returned (.bool true) ∧ Tr w' F t A ∧ Chg F w w'
theorem sound_nil (F : Foot) (w : World) : Calls Try.prog 68 #[.pointer none] w (SoundP .nil F none w) := by
  go_enter Try.func68, Try.ntmps68
  go_wp2_with fail
  go_ret
  exact ⟨rfl, rfl, Chg.refl _ _⟩
/-- a kid, under key k on side d -/
def Kid (w : World) (k : Key) (d : Bool) (A : Option Addr) : Prop := A = none ∨ ∃ (h : Nat) (kk : Key) (x0 : Int) (x1 : Bool) (x2 : Nat) (x3 x4 : Option Addr), A = some ⟨h, 0, none⟩ ∧ Bk w h 138 (nodeV kk x0 x1 x2 x3 x4) ∧ kk.length ≤ 32 ∧ k ++ [d] <+: kk
theorem Kid.of {w : World} {F : Foot} {s : T} {A : Option Addr} {k : Key} {d : Bool} (h : Tr w F s A) (hw : s.Wf (k ++ [d])) : Kid w k d A := by
  cases s with
  | nil => exact .inl h
  | node kk u b l r =>
    obtain ⟨g, FL, FR, kl, kr, e, c1, c2, _⟩ := h
    exact .inr ⟨g, kk, u, b, _, kl, kr, e, c1, c2, hw.1⟩
set_option maxRecDepth 100000 in
set_option maxHeartbeats 2000000 in
theorem sound_node (k : Key) (u : Int) (b : Bool) (l r : T) (F : Foot) (A : Option Addr) (w : World) (c : Key) (h : Tr w F (.node k u b l r) A) (hw : (T.node k u b l r).Wf c) (hc : (T.node k u b l r).cnt < 999990)
    (ihl : ∀ (F : Foot) (A : Option Addr) (w : World), Tr w F l A → Calls Try.prog 68 #[.pointer A] w (SoundP l F A w))
    (ihr : ∀ (F : Foot) (A : Option Addr) (w : World), Tr w F r A → Calls Try.prog 68 #[.pointer A] w (SoundP r F A w)) :
    Calls Try.prog 68 #[.pointer A] w (SoundP (.node k u b l r) F A w) := by
  obtain ⟨g, FL, FR, kl, kr, rfl, c1, hkl, c3, c4, c5, c6, c7, c8, c9, c10, c11⟩ := h
  have HK0 := Lib.hid (Kid.of c3 hw.2.1)
  have HK1 := Lib.hid (Kid.of c4 hw.2.2.1)
  have hlean := hw.2.2.2
  have hcl : l.cnt + r.cnt < 999990 := by rw [T.cnt_node] at hc; omega
  have hnl : l.isNil = false → kl ≠ none := fun h1 h2 => by rw [c3.none_iff.1 h2] at h1; simp [T.isNil] at h1
  have hnr : r.isNil = false → kr ≠ none := fun h1 h2 => by rw [c4.none_iff.1 h2] at h1; simp [T.isNil] at h1
  have HLean : Hid (b = true ∨ (b = false ∧ ∃ al ar, kl = some al ∧ kr = some ar)) := by
    rcases hlean with h | ⟨h1, h2⟩
    · exact .inl h
    · cases b
      · refine .inr ⟨rfl, ?_⟩
        rcases kl with _ | al
        · exact absurd rfl (hnl h1)
        · rcases kr with _ | ar
          · exact absurd rfl (hnr h2)
          · exact ⟨al, ar, rfl, rfl⟩
      · exact .inl rfl
  have lg := c1.lt
  have q5 := c1.cell 5
  have q6 := c1.cell 6
  simp at q5 q6
  have i0 : ∀ w, (Instr.index 136 (.agg #[.pointer kl, .pointer kr]) (.int .i64 0)).run Try.prog w = .ok (.pointer kl) w := fun _ => by kernel_rfl
  have i1 : ∀ w, (Instr.index 136 (.agg #[.pointer kl, .pointer kr]) (.int .i64 1)).run Try.prog w = .ok (.pointer kr) w := fun _ => by kernel_rfl
  have HC1 := Lib.hid c1
  have HT3 := Lib.hid c3
  have HT4 := Lib.hid c4
  have HFt := Lib.hid (And.intro c5 (And.intro c6 (And.intro c7 (And.intro c8 (And.intro c9 (And.intro c10 c11))))))
  have HIl := Lib.hid ihl
  have HIr := Lib.hid ihr
  clear c1 c3 c4 c5 c6 c7 c8 c9 c10 c11 ihl ihr hw hc hlean hnl hnr
  go_enter Try.func68, Try.ntmps68
  go_wp2_with fail
  go_loopw [13] (fun i wr => ∃ j : Nat, j ≤ 2 ∧ i = .int .i64 j ∧ Below w.heap.size w wr) (fun i _ => 2 - (intOf i).toNat)
  case atStart => exact ⟨0, by omega, rfl, Below.refl _ _⟩
  case round =>
    obtain ⟨j, hj, rfl, hb⟩ := hrel
    have HB := Lib.hid hb
    have hg1 := HC1.out.below hb lg
    have q0 := hg1.cell 0
    have q1 := hg1.cell 1
    have q3 := hg1.cell 3
    have q4 := hg1.cell 4
    have q5 := hg1.cell 5
    have q6 := hg1.cell 6
    have lgr : g < wr.drew.heap.size := hg1.lt
    simp at q0 q1 q3 q4 q5 q6
    clear hg1 hb
    rcases (show j = 0 ∨ j = 1 ∨ j = 2 by omega) with hj0 | hj0 | hj0
    · subst hj0
      clear hj
      rcases HK0.out with e1 | ⟨h, kk, x0, x1, x2, x3, x4, e1, hh, hkk, hpre⟩
      · cases e1
        go_wp2_with fail
        go_quiet (fail)
        go_wp2_with fail
        go_roundw
        case rel => exact ⟨1, by omega, by first | rfl | go_num, below_drewN HB.out _⟩
        case measure => simp [intOf]
      · cases e1
        have hh2 := hh.below HB.out hh.lt
        have hlh : h < wr.drew.heap.size := hh2.lt
        have r0 := hh2.cell 0
        have r1 := hh2.cell 1
        simp at r0 r1
        have hpk := pre_of_half hpre
        have HWi := Lib.hid (within_any (adr kk) kk.length (adr k) k.length (adr_lt hkk) (adr_lt hkl))
        rw [within_key hkl hkk, decide_eq_true hpk] at HWi
        have hlt := pre_lt hpk.1 hpk.2
        have HS := Lib.hid (side_any (adr k) k.length (adr kk) k.length kk.length (adr_lt hkk) (by omega))
        rw [side_num hkk hlt, side_of hpre] at HS
        simp only [if_true, if_false, Bool.false_eq_true, Int.natCast_zero, Int.natCast_one] at HS
        clear hpk hlt hpre hh hh2
        go_wp2_with fail
        go_region_held3 (fun w' => w'.cell? ⟨g, 0, none⟩ = some (.int .u32 (adr k : Int)) ∧ w'.cell? ⟨g, 1, none⟩ = some (.int .i64 (k.length : Int)) ∧ w'.cell? ⟨h, 0, none⟩ = some (.int .u32 (adr kk : Int)) ∧ w'.cell? ⟨h, 1, none⟩ = some (.int .i64 (kk.length : Int))) (exact ⟨by go_simp, by go_simp, by go_simp, by go_simp⟩) (first
          | (go_at_call 80; refine (HWi.out _).mono ?_; rintro e w2 ⟨rfl, hb⟩; go_must (have HB2 : Hid (Below wr.heap.size wr w2) := ((Below.refl _ _).drew).trans hb); go_must (have q0 := (hb.cell (p := ⟨g, 0, none⟩) lgr).trans q0); go_must (have q1 := (hb.cell (p := ⟨g, 1, none⟩) lgr).trans q1); go_must (have r0 := (hb.cell (p := ⟨h, 0, none⟩) hlh).trans r0); go_must (have r1 := (hb.cell (p := ⟨h, 1, none⟩) hlh).trans r1); go_must (have lg2 : g < w2.heap.size := Nat.lt_of_lt_of_le lgr HB2.out.size); go_must (have lh2 : h < w2.heap.size := Nat.lt_of_lt_of_le hlh HB2.out.size); clear hb)
          | (go_at_call 81; refine (HS.out _).mono ?_; rintro e w3 ⟨rfl, hb⟩; go_must (have HB3 : Hid (Below wr.heap.size wr w3) := HB2.out.trans (hb.mono HB2.out.size)); go_must (have q0 := (hb.cell (p := ⟨g, 0, none⟩) lg2).trans q0); go_must (have q1 := (hb.cell (p := ⟨g, 1, none⟩) lg2).trans q1); go_must (have r0 := (hb.cell (p := ⟨h, 0, none⟩) lh2).trans r0); go_must (have r1 := (hb.cell (p := ⟨h, 1, none⟩) lh2).trans r1); clear hb))
        go_wp2_with fail
        go_roundw
        case rel => exact ⟨1, by omega, by first | rfl | go_num, HB.out.trans (HB3.out.mono HB.out.size)⟩
        case measure => simp [intOf]
    · subst hj0
      clear hj
      rcases HK1.out with e1 | ⟨h, kk, x0, x1, x2, x3, x4, e1, hh, hkk, hpre⟩
      · cases e1
        go_wp2_with fail
        go_quiet (fail)
        go_wp2_with fail
        go_roundw
        case rel => exact ⟨2, by omega, by first | rfl | go_num, below_drewN HB.out _⟩
        case measure => simp [intOf]
      · cases e1
        have hh2 := hh.below HB.out hh.lt
        have hlh : h < wr.drew.heap.size := hh2.lt
        have r0 := hh2.cell 0
        have r1 := hh2.cell 1
        simp at r0 r1
        have hpk := pre_of_half hpre
        have HWi := Lib.hid (within_any (adr kk) kk.length (adr k) k.length (adr_lt hkk) (adr_lt hkl))
        rw [within_key hkl hkk, decide_eq_true hpk] at HWi
        have hlt := pre_lt hpk.1 hpk.2
        have HS := Lib.hid (side_any (adr k) k.length (adr kk) k.length kk.length (adr_lt hkk) (by omega))
        rw [side_num hkk hlt, side_of hpre] at HS
        simp only [if_true, if_false, Bool.false_eq_true, Int.natCast_zero, Int.natCast_one] at HS
        clear hpk hlt hpre hh hh2
        go_wp2_with fail
        go_region_held3 (fun w' => w'.cell? ⟨g, 0, none⟩ = some (.int .u32 (adr k : Int)) ∧ w'.cell? ⟨g, 1, none⟩ = some (.int .i64 (k.length : Int)) ∧ w'.cell? ⟨h, 0, none⟩ = some (.int .u32 (adr kk : Int)) ∧ w'.cell? ⟨h, 1, none⟩ = some (.int .i64 (kk.length : Int))) (exact ⟨by go_simp, by go_simp, by go_simp, by go_simp⟩) (first
          | (go_at_call 80; refine (HWi.out _).mono ?_; rintro e w2 ⟨rfl, hb⟩; go_must (have HB2 : Hid (Below wr.heap.size wr w2) := ((Below.refl _ _).drew).trans hb); go_must (have q0 := (hb.cell (p := ⟨g, 0, none⟩) lgr).trans q0); go_must (have q1 := (hb.cell (p := ⟨g, 1, none⟩) lgr).trans q1); go_must (have r0 := (hb.cell (p := ⟨h, 0, none⟩) hlh).trans r0); go_must (have r1 := (hb.cell (p := ⟨h, 1, none⟩) hlh).trans r1); go_must (have lg2 : g < w2.heap.size := Nat.lt_of_lt_of_le lgr HB2.out.size); go_must (have lh2 : h < w2.heap.size := Nat.lt_of_lt_of_le hlh HB2.out.size); clear hb)
          | (go_at_call 81; refine (HS.out _).mono ?_; rintro e w3 ⟨rfl, hb⟩; go_must (have HB3 : Hid (Below wr.heap.size wr w3) := HB2.out.trans (hb.mono HB2.out.size)); go_must (have q0 := (hb.cell (p := ⟨g, 0, none⟩) lg2).trans q0); go_must (have q1 := (hb.cell (p := ⟨g, 1, none⟩) lg2).trans q1); go_must (have r0 := (hb.cell (p := ⟨h, 0, none⟩) lh2).trans r0); go_must (have r1 := (hb.cell (p := ⟨h, 1, none⟩) lh2).trans r1); clear hb))
        go_wp2_with fail
        go_roundw
        case rel => exact ⟨2, by omega, by first | rfl | go_num, HB.out.trans (HB3.out.mono HB.out.size)⟩
        case measure => simp [intOf]
    · subst hj0
      clear hj i0 i1 HK0 HK1
      obtain ⟨c5, c6, c7, c8, c9, c10, c11⟩ := HFt.out
      have HN := Lib.hid (note_any g _ _ _ b _ kl kr l.cnt r.cnt (T.node k u b l r).cnt wr (HC1.out.below HB.out lg) (HT3.out.bel HB.out).cn (HT4.out.bel HB.out).cn (by omega) (T.cnt_node _ _ _ _ _))
      have H3 := Lib.hid (HT3.out.bel HB.out)
      have H4 := Lib.hid (HT4.out.bel HB.out)
      rcases HLean.out with rfl | ⟨rfl, al, ar, rfl, rfl⟩
      · clear c5 c6 c7 c8 c9 c10 c11
        go_wp2_with fail
        refine HN.out.mono ?_; rintro e w1 ⟨rfl, hk1, hc1⟩
        have q4 := hk1.cell 4
        have q5 := hk1.cell 5
        have q6 := hk1.cell 6
        simp at q4 q5 q6
        have HK1 := Lib.hid hk1
        have HC := Lib.hid hc1
        have H31 := Lib.hid (HIl.out FL _ w1 (H3.out.chg hc1 fun x hx e => HFt.out.2.1 (e ▸ hx)))
        have H41 := Lib.hid (H4.out.chg hc1 fun x hx e => HFt.out.2.2.1 (e ▸ hx))
        clear hk1 hc1 HN
        go_wp2_with fail
        refine H31.out.mono ?_; rintro e w2 ⟨rfl, ht2, hc2⟩
        have HK2 := Lib.hid (HK1.out.chg hc2 HFt.out.2.1)
        have q6 := HK2.out.cell 6
        simp at q6
        have HT2 := Lib.hid ht2
        have HC2 := Lib.hid hc2
        have H42 := Lib.hid (HIr.out FR _ w2 (H41.out.chg hc2 fun x hx hl => (HFt.out.2.2.2.1 x hl).2 hx))
        clear ht2 hc2 H31
        go_wp2_with fail
        refine H42.out.mono ?_; rintro e w3 ⟨rfl, ht3, hc3⟩
        have HE : Hid (SoundP (.node k u true l r) F (some ⟨g, 0, none⟩) w (.returned (.bool true)) w3) := by
          obtain ⟨c5, c6, c7, c8, c9, c10, c11⟩ := HFt.out
          have hz : w.heap.size ≤ w3.heap.size := Nat.le_trans HB.out.size (Nat.le_trans HC.out.size (Nat.le_trans HC2.out.size hc3.size))
          exact ⟨rfl, ⟨g, FL, FR, _, _, rfl, HK2.out.chg hc3 c7, hkl, HT2.out.chg hc3 fun x hx hr => (c8 x hx).2 hr, ht3, c5, c6, c7, c8, c9, fun x hx => Nat.lt_of_lt_of_le (c10 x hx) hz, fun x hx => Nat.lt_of_lt_of_le (c11 x hx) hz⟩, (((Chg.of_below HB.out F).trans HC.out fun x _ e => by rw [e]; exact c5).trans HC2.out fun x _ hx => (c8 x hx).1).trans hc3 fun x _ hx => c9 x hx⟩
        clear ht3 hc3
        go_wp2_with fail
        go_ret
        exact HE.out
      · clear c5 c6 c7 c8 c9 c10 c11
        go_wp2_with fail
        refine HN.out.mono ?_; rintro e w1 ⟨rfl, hk1, hc1⟩
        have q4 := hk1.cell 4
        have q5 := hk1.cell 5
        have q6 := hk1.cell 6
        simp at q4 q5 q6
        have HK1 := Lib.hid hk1
        have HC := Lib.hid hc1
        have H31 := Lib.hid (HIl.out FL _ w1 (H3.out.chg hc1 fun x hx e => HFt.out.2.1 (e ▸ hx)))
        have H41 := Lib.hid (H4.out.chg hc1 fun x hx e => HFt.out.2.2.1 (e ▸ hx))
        clear hk1 hc1 HN
        go_wp2_with fail
        refine H31.out.mono ?_; rintro e w2 ⟨rfl, ht2, hc2⟩
        have HK2 := Lib.hid (HK1.out.chg hc2 HFt.out.2.1)
        have q6 := HK2.out.cell 6
        simp at q6
        have HT2 := Lib.hid ht2
        have HC2 := Lib.hid hc2
        have H42 := Lib.hid (HIr.out FR _ w2 (H41.out.chg hc2 fun x hx hl => (HFt.out.2.2.2.1 x hl).2 hx))
        clear ht2 hc2 H31
        go_wp2_with fail
        refine H42.out.mono ?_; rintro e w3 ⟨rfl, ht3, hc3⟩
        have HE : Hid (SoundP (.node k u false l r) F (some ⟨g, 0, none⟩) w (.returned (.bool true)) w3) := by
          obtain ⟨c5, c6, c7, c8, c9, c10, c11⟩ := HFt.out
          have hz : w.heap.size ≤ w3.heap.size := Nat.le_trans HB.out.size (Nat.le_trans HC.out.size (Nat.le_trans HC2.out.size hc3.size))
          exact ⟨rfl, ⟨g, FL, FR, _, _, rfl, HK2.out.chg hc3 c7, hkl, HT2.out.chg hc3 fun x hx hr => (c8 x hx).2 hr, ht3, c5, c6, c7, c8, c9, fun x hx => Nat.lt_of_lt_of_le (c10 x hx) hz, fun x hx => Nat.lt_of_lt_of_le (c11 x hx) hz⟩, (((Chg.of_below HB.out F).trans HC.out fun x _ e => by rw [e]; exact c5).trans HC2.out fun x _ hx => (c8 x hx).1).trans hc3 fun x _ hx => c9 x hx⟩
        clear ht3 hc3
        go_wp2_with fail
        go_ret
        exact HE.out
theorem sound_any : ∀ (t : T) (F : Foot) (A : Option Addr) (w : World) (c : Key), Tr w F t A → t.Wf c → t.cnt < 999990 → Calls Try.prog 68 #[.pointer A] w (SoundP t F A w)
  | .nil, F, A, w, c, h, _, _ => by
    have hA : A = none := h
    subst hA
    exact sound_nil F w
  | .node k u b l r, F, A, w, c, h, hw, hc => by
    have hcl : l.cnt + r.cnt < 999990 := by rw [T.cnt_node] at hc; omega
    exact sound_node k u b l r F A w c h hw hc (fun F A w h => sound_any l F A w _ h hw.2.1 (by omega)) (fun F A w h => sound_any r F A w _ h hw.2.2.1 (by omega))
theorem Check_any {F : Foot} {tr : Nat} {t : T} (w : World) (h : Tri w F tr t) (hw : t.Wf []) (hc : t.cnt < 999990) : Calls Try.prog 16 #[.pointer (some ⟨tr, 0, none⟩)] w fun e w' => e = .returned (.bool true) ∧ Tri w' F tr t ∧ Chg F w w' := by
  obtain ⟨⟨A, G, h1, h2, h3, h4⟩, h5, h6⟩ := h
  have q0 := h1.cell 0
  simp at q0
  have HS := Lib.hid (sound_any t G A w [] h2 hw hc)
  have HE : Hid (∀ w', Tr w' G t A → Chg G w w' → Tri w' F tr t ∧ Chg F w w') := fun w' a b => ⟨⟨⟨A, G, h1.chg b h3, a, h3, h4⟩, h5, fun x hx => Nat.lt_of_lt_of_le (h6 x hx) b.size⟩, b.mono fun x _ hx => h4 x hx⟩
  clear h1 h2 h3 h4 h5 h6 hw hc
  go_enter Try.func16, Try.ntmps16
  go_wp2_with fail
  refine HS.out.mono ?_; rintro e w' ⟨rfl, ht, hc⟩
  have HF := Lib.hid (HE.out w' ht hc)
  clear ht hc
  go_wp2_with fail
  go_ret
  exact ⟨rfl, HF.out⟩
theorem Check_nil (w : World) : Calls Try.prog 16 #[.pointer none] w fun e w' => e = .returned (.bool false) ∧ w = w' := by
  go_enter Try.func16, Try.ntmps16
  go_wp2_with fail
  go_ret
  exact ⟨rfl, rfl⟩
theorem Longest_nil (x : Nat) (w : World) : Calls Try.prog 26 #[.pointer none, .int .u32 x] w fun e w' => e = .returned (.tuple #[.agg #[.int .u32 0, .int .i64 0], .int .i64 0, .bool false]) ∧ Below w.heap.size w w' := by
  have HB0 : Hid (Below w.heap.size w (w.alloc (.cells #[.int .u32 0, .int .i64 0] 30))) := (Below.refl _ _).alloc (Nat.le_refl _) _
  have HK0 := Lib.hid (Bk.new w 30 #[.int .u32 0, .int .i64 0])
  go_enter Try.func26, Try.ntmps26
  go_wp2_with fail
  refine (top_nil _).mono ?_; rintro e w' ⟨rfl, rfl⟩
  go_wp2_with fail
  go_loopw [5, 6, 7] (fun v5 v6 v7 wr => v5 = .int .i64 0 ∧ v6 = .bool false ∧ v7 = .pointer none ∧ Bk wr w.heap.size 30 #[.int .u32 0, .int .i64 0] ∧ Below w.heap.size w wr) (fun _ _ _ _ => 0)
  case atStart => exact ⟨rfl, rfl, rfl, HK0.out, HB0.out⟩
  case round =>
    obtain ⟨rfl, rfl, rfl, hk, hb⟩ := hrel
    have q0 := hk.cell 0
    have q1 := hk.cell 1
    have qf := fun i => hk.free i
    have ql := hk.lt
    simp at q0 q1
    have HK := Lib.hid hk
    have HB := Lib.hid hb
    clear hk hb HK0 HB0
    go_wp2_with fail
    have KR : Hid (Bk ((wr.setCell ⟨w.heap.size, 0, none⟩ (.int .u32 0)).setCell ⟨w.heap.size, 1, none⟩ (.int .i64 0)) w.heap.size 30 #[.int .u32 0, .int .i64 0]) := (HK.out.put 0 (.int .u32 0)).put 1 (.int .i64 0)
    exact bodyPost_ret (res_c2 rfl _ _ w.heap.size 30 #[.int .u32 0, .int .i64 0] (.int .i64 0) (.bool false) (0, 0) _ rfl rfl rfl KR.out Try.underlying30 rfl info_prefix) rfl ⟨rfl, (HB.out.setCell (by exact Nat.le_refl _) _).setCell (by exact Nat.le_refl _) _⟩
end Go.Proofs.Ytbhhkjkjihenoaa.tri
