/- What the trie's inner put does: the walk. Condition: fewer than a million keys. Printed by gen_trieput.py. -/
import Derived.Test.YtbhhkjkjihenoaaTriePut
namespace Go.Proofs.Ytbhhkjkjihenoaa.tri
open Go.RowKit Go.Proofs.Ytbhhkjkjihenoaa.kit Go.Proofs.Ytbhhkjkjihenoaa.mem Go.Proofs.Ytbhhkjkjihenoaa.foot Go.Proofs.Ytbhhkjkjihenoaa.pfx
set_option linter.unusedVariables false
set_option linter.unusedSimpArgs false

/-- what put hands back and leaves -/
def PutP (t : T) (p : Key) (v : Int) (w : World) (F : Foot) (e : Ending) (w' : World) : Prop := ∃ A', e = .returned (.pointer A') ∧ Left w F (t.put p v) A' w'
theorem key_tests {k p : Key} (e : k ≠ p) : ((adr k : Int) == (adr p : Int)) = false ∨ (((adr k : Int) == (adr p : Int)) = true ∧ ((k.length : Int) == (p.length : Int)) = false) := by
  by_cases ea : adr k = adr p
  · refine .inr ⟨by rw [ea]; simp, ?_⟩
    rcases key_ne e with h | h
    · exact absurd ea h
    · rw [beq_eq_false_iff_ne]; exact h
  · exact .inl (by rw [beq_eq_false_iff_ne]; omega)
theorem put_nil (p : Key) (v : Int) (hp : p.length ≤ 32) (F : Foot) (w : World) : Calls Try.prog 73 #[.pointer none, .agg #[.int .u32 (adr p), .int .i64 p.length], .int .i64 v] w (PutP .nil p v w F) := by
  have HE : Hid (PutP .nil p v w F (.returned (.pointer (some ⟨w.heap.size + 1, 0, none⟩))) ((w.alloc (.cells #[.int .u32 (adr p : Int), .int .i64 (p.length : Int)] 30)).alloc (.cells #[.int .u32 (adr p : Int), .int .i64 (p.length : Int), .int .i64 v, .bool true, .int .i64 1, .pointer none, .pointer none] 138))) := by
    refine ⟨_, rfl, Left.leaf hp (((Below.refl _ _).alloc (Nat.le_refl _) _).alloc (by simp) _) (by omega) ?_⟩
    have := Bk.new (w.alloc (.cells #[.int .u32 (adr p : Int), .int .i64 (p.length : Int)] 30)) 138 #[.int .u32 (adr p : Int), .int .i64 (p.length : Int), .int .i64 v, .bool true, .int .i64 1, .pointer none, .pointer none]
    rw [show (w.alloc (.cells #[.int .u32 (adr p : Int), .int .i64 (p.length : Int)] 30)).heap.size = w.heap.size + 1 from by simp] at this
    exact this
  go_enter Try.func73, Try.ntmps73
  go_wp2_with fail
  go_ret
  exact HE.out

set_option maxRecDepth 100000 in
set_option maxHeartbeats 2000000 in
theorem put_same {k : Key} {u : Int} {b : Bool} {l r : T} (p : Key) (v : Int) (hp : p.length ≤ 32) (F : Foot) (A : Option Addr) (w : World) (h : Tr w F (.node k u b l r) A) (hF : ∀ x, F x → x < w.heap.size) (hc : (T.node k u b l r).cnt < 999990) (hkp : k = p) :
    Calls Try.prog 73 #[.pointer A, .agg #[.int .u32 (adr p), .int .i64 p.length], .int .i64 v] w (PutP (.node k u b l r) p v w F) := by
  obtain ⟨g, kl, kr, rfl, hg, hkl, hgF⟩ : ∃ g kl kr, A = some ⟨g, 0, none⟩ ∧ Bk w g 138 (nodeV k u b (T.node k u b l r).cnt kl kr) ∧ k.length ≤ 32 ∧ F g := by
    obtain ⟨g, FL, FR, kl, kr, e, c1, c2, c3, c4, c5, _⟩ := h
    exact ⟨g, kl, kr, e, c1, c2, c5⟩
  have hcl : l.cnt + r.cnt < 999990 := by rw [T.cnt_node] at hc; omega
  have lg := hg.lt
  have q0 := hg.cell 0
  have q1 := hg.cell 1
  have q2 := hg.cell 2
  have q3 := hg.cell 3
  have q5 := hg.cell 5
  have q6 := hg.cell 6
  have qf := fun i => hg.free i
  simp at q0 q1 q2 q3 q5 q6
  have HG := Lib.hid hg
  have H := Lib.hid h
  have HF := Lib.hid hF
  have HCN := Lib.hid hc
  clear hg h hF hc
  subst hkp
  go_enter Try.func73, Try.ntmps73
  go_wp2_with fail
  go_quiet (fail)
  have HA1 : Hid (Below w.heap.size w ((((w.alloc (.cells #[.int .u32 (adr k : Int), .int .i64 (k.length : Int)] 30)).alloc (.cells #[.int .u32 (adr k : Int), .int .i64 (k.length : Int), .int .i64 v, .bool true, .int .i64 1, .pointer none, .pointer none] 138))).drewN nq)) := below_drewN (((Below.refl _ _).alloc (Nat.le_refl _) _).alloc (by simp) _) _
  generalize (((w.alloc (.cells #[.int .u32 (adr k : Int), .int .i64 (k.length : Int)] 30)).alloc (.cells #[.int .u32 (adr k : Int), .int .i64 (k.length : Int), .int .i64 v, .bool true, .int .i64 1, .pointer none, .pointer none] 138))).drewN nq = w1 at *
  have hg1 := HG.out.below HA1.out lg
  have q2 := hg1.cell 2
  have q3 := hg1.cell 3
  have qf := fun i => hg1.free i
  have l1 := hg1.lt
  simp at q2 q3
  have HP : Hid (Bk ((w1.setCell ⟨g, 2, none⟩ (.int .i64 v)).setCell ⟨g, 3, none⟩ (.bool true)) g 138 #[.int .u32 (adr k : Int), .int .i64 (k.length : Int), .int .i64 v, .bool true, .int .i64 ((T.node k u b l r).cnt : Int), .pointer kl, .pointer kr]) := (hg1.put 2 (.int .i64 v)).put 3 (.bool true)
  have HC : Hid (Chg (fun x => x = g) w ((w1.setCell ⟨g, 2, none⟩ (.int .i64 v)).setCell ⟨g, 3, none⟩ (.bool true))) := ((Chg.of_below HA1.out (fun x => x = g)).put (p := ⟨g, 2, none⟩) (.inl rfl) _).put (p := ⟨g, 3, none⟩) (.inl rfl) _
  clear hg1
  go_wp2_with fail
  obtain ⟨FL, FR, c3, c4, c6, c7⟩ : ∃ FL FR, Tr w FL l kl ∧ Tr w FR r kr ∧ (∀ x, sf kl x → x ≠ g) ∧ (∀ x, sf kr x → x ≠ g) := by
    obtain ⟨FL, c3, _, hL, _, hR, _⟩ := Left.low H.out HG.out (Below.refl _ w)
    obtain ⟨FR, c4, _, _, _, hL2, _⟩ := Left.high H.out HG.out (Below.refl _ w)
    exact ⟨FL, FR, c3, c4, fun x hx => (hL2 x hx).2.1, fun x hx => (hR x hx).2.1⟩
  refine (note_any g _ _ _ true _ kl kr l.cnt r.cnt (T.node k v true l r).cnt _ HP.out (c3.cn.chg HC.out fun x hx e => c6 x hx e) (c4.cn.chg HC.out fun x hx e => c7 x hx e) (by omega) (T.cnt_node _ _ _ _ _)).mono ?_
  rintro e w2 ⟨rfl, hk2, hc2⟩
  have HE : Hid (PutP (.node k u b l r) k v w F (.returned (.pointer (some ⟨g, 0, none⟩))) w2) := by
    refine ⟨_, rfl, ?_⟩
    rw [T.put, if_pos rfl]
    exact Left.own H.out HF.out HG.out (HC.out.trans hc2 fun _ _ e => e) hk2
  clear hk2 hc2
  go_wp2_with fail
  go_ret
  exact HE.out

theorem Left.chg {w w' : World} {F : Foot} {t : T} {A : Option Addr} (h : Left w F t A w') : Chg F w w' := by obtain ⟨F', _, h2, _⟩ := h; exact h2

theorem Left.cn {w w' : World} {F : Foot} {t : T} {A : Option Addr} {g : Nat} (h : Left w F t A w') (hF : ∀ x, F x → x ≠ g) (hg : g < w.heap.size) : Cn w' A t.cnt ∧ ∀ x, sf A x → x ≠ g := by
  obtain ⟨F', h1, h2, h3, h4⟩ := h
  refine ⟨h1.cn, ?_⟩
  rintro x ⟨ad, rfl, rfl⟩
  cases t with
  | nil => exact absurd h1 (by simp [Tr])
  | node =>
    obtain ⟨g2, _, _, _, _, e2, _, _, _, _, hm, _⟩ := h1
    cases e2
    rcases h3 _ hm with e | e
    · exact hF _ e
    · show g2 ≠ g; omega

set_option maxRecDepth 100000 in
set_option maxHeartbeats 2000000 in
theorem put_low {k : Key} {u : Int} {b : Bool} {l r : T} (p : Key) (v : Int) (hp : p.length ≤ 32) (F : Foot) (A : Option Addr) (w : World) (h : Tr w F (.node k u b l r) A) (hF : ∀ x, F x → x < w.heap.size) (hc : (T.node k u b l r).cnt < 999990) (h1 : k <+: p) (hne : k ≠ p) (hs : side k p = false) (ih : ∀ (F : Foot) (A : Option Addr) (w : World), Tr w F l A → (∀ x, F x → x < w.heap.size) → l.cnt < 999990 → Calls Try.prog 73 #[.pointer A, .agg #[.int .u32 (adr p), .int .i64 p.length], .int .i64 v] w (PutP l p v w F)) :
    Calls Try.prog 73 #[.pointer A, .agg #[.int .u32 (adr p), .int .i64 p.length], .int .i64 v] w (PutP (.node k u b l r) p v w F) := by
  obtain ⟨g, kl, kr, rfl, hg, hkl, hgF⟩ : ∃ g kl kr, A = some ⟨g, 0, none⟩ ∧ Bk w g 138 (nodeV k u b (T.node k u b l r).cnt kl kr) ∧ k.length ≤ 32 ∧ F g := by
    obtain ⟨g, FL, FR, kl, kr, e, c1, c2, c3, c4, c5, _⟩ := h
    exact ⟨g, kl, kr, e, c1, c2, c5⟩
  have hcl : l.cnt + r.cnt < 999990 := by rw [T.cnt_node] at hc; omega
  have lg := hg.lt
  have q0 := hg.cell 0
  have q1 := hg.cell 1
  have q2 := hg.cell 2
  have q3 := hg.cell 3
  have q5 := hg.cell 5
  have q6 := hg.cell 6
  have qf := fun i => hg.free i
  simp at q0 q1 q2 q3 q5 q6
  have HG := Lib.hid hg
  have H := Lib.hid h
  have HF := Lib.hid hF
  have HCN := Lib.hid hc
  clear hg h hF hc
  have HCv := Lib.hid (covers_any (adr k) k.length (adr p) p.length (adr_lt hkl) (adr_lt hp))
  rw [cover_key hkl hp, decide_eq_true h1] at HCv
  have hlt := pre_lt h1 hne
  have HS := Lib.hid (side_any (adr k) k.length (adr p) k.length p.length (adr_lt hp) (by omega))
  rw [side_num hp hlt, hs] at HS
  simp only [if_true, if_false, Bool.false_eq_true, Int.natCast_zero, Int.natCast_one] at HS
  have HPT : Hid ((T.node k u b l r).put p v = (T.node k u b (l.put p v) r)) := by rw [Hid, T.put, if_neg hne, if_pos h1]; simp [hs]
  have hkk := key_tests hne
  have HI := Lib.hid ih
  clear h1 hne hlt hs ih
  rcases hkk with e3 | ⟨e3, e4⟩
  all_goals
    go_enter Try.func73, Try.ntmps73
    go_wp2_with fail
    go_quiet (fail)
    have HA1 : Hid (Below w.heap.size w ((((w.alloc (.cells #[.int .u32 (adr p : Int), .int .i64 (p.length : Int)] 30)).alloc (.cells #[.int .u32 (adr p : Int), .int .i64 (p.length : Int), .int .i64 v, .bool true, .int .i64 1, .pointer none, .pointer none] 138))).drewN nq)) := below_drewN (((Below.refl _ _).alloc (Nat.le_refl _) _).alloc (by simp) _) _
    have lbw1 : w.heap.size < ((((w.alloc (.cells #[.int .u32 (adr p : Int), .int .i64 (p.length : Int)] 30)).alloc (.cells #[.int .u32 (adr p : Int), .int .i64 (p.length : Int), .int .i64 v, .bool true, .int .i64 1, .pointer none, .pointer none] 138))).drewN nq).drew.heap.size := by simp; omega
    have p0 : ((((w.alloc (.cells #[.int .u32 (adr p : Int), .int .i64 (p.length : Int)] 30)).alloc (.cells #[.int .u32 (adr p : Int), .int .i64 (p.length : Int), .int .i64 v, .bool true, .int .i64 1, .pointer none, .pointer none] 138))).drewN nq).cell? ⟨w.heap.size, 0, none⟩ = some (.int .u32 (adr p : Int)) := by go_simp
    have p1 : ((((w.alloc (.cells #[.int .u32 (adr p : Int), .int .i64 (p.length : Int)] 30)).alloc (.cells #[.int .u32 (adr p : Int), .int .i64 (p.length : Int), .int .i64 v, .bool true, .int .i64 1, .pointer none, .pointer none] 138))).drewN nq).cell? ⟨w.heap.size, 1, none⟩ = some (.int .i64 (p.length : Int)) := by go_simp
    generalize (((w.alloc (.cells #[.int .u32 (adr p : Int), .int .i64 (p.length : Int)] 30)).alloc (.cells #[.int .u32 (adr p : Int), .int .i64 (p.length : Int), .int .i64 v, .bool true, .int .i64 1, .pointer none, .pointer none] 138))).drewN nq = w1 at *
    have lgw1 : g < w1.drew.heap.size := Nat.lt_of_lt_of_le lg HA1.out.size
    have q0 := (HA1.out.cell (p := ⟨g, 0, none⟩) lg).trans q0
    have q1 := (HA1.out.cell (p := ⟨g, 1, none⟩) lg).trans q1
    clear e3
    try clear e4
    go_wp2_with fail
    go_region_held3 (fun w' => w'.cell? ⟨g, 0, none⟩ = some (.int .u32 (adr k : Int)) ∧ w'.cell? ⟨g, 1, none⟩ = some (.int .i64 (k.length : Int)) ∧ w'.cell? ⟨w.heap.size, 0, none⟩ = some (.int .u32 (adr p : Int)) ∧ w'.cell? ⟨w.heap.size, 1, none⟩ = some (.int .i64 (p.length : Int))) (exact ⟨by go_simp, by go_simp, by go_simp, by go_simp⟩) (first
            | (go_at_call 109; refine (HCv.out _).mono ?_; rintro e w2 ⟨rfl, hb⟩; go_must (have HBw2 : Hid (Below w1.heap.size w1 w2) := ((Below.refl _ _).drew).trans hb); go_must (have q0 := (hb.cell (p := ⟨g, 0, none⟩) lgw1).trans q0); go_must (have q1 := (hb.cell (p := ⟨g, 1, none⟩) lgw1).trans q1); go_must (have p0 := (hb.cell (p := ⟨w.heap.size, 0, none⟩) lbw1).trans p0); go_must (have p1 := (hb.cell (p := ⟨w.heap.size, 1, none⟩) lbw1).trans p1); clear hb))
    have HA2 : Hid (Below w.heap.size w w2) := HA1.out.trans (HBw2.out.mono HA1.out.size)
    have lgw2 : g < w2.drew.heap.size := Nat.lt_of_lt_of_le lg HA2.out.size
    have lbw2 : w.heap.size < w2.drew.heap.size := Nat.lt_of_lt_of_le lbw1 HBw2.out.size
    clear HBw2
    go_wp2_with fail
    go_region_held3 (fun w' => w'.cell? ⟨g, 0, none⟩ = some (.int .u32 (adr k : Int)) ∧ w'.cell? ⟨g, 1, none⟩ = some (.int .i64 (k.length : Int)) ∧ w'.cell? ⟨w.heap.size, 0, none⟩ = some (.int .u32 (adr p : Int)) ∧ w'.cell? ⟨w.heap.size, 1, none⟩ = some (.int .i64 (p.length : Int))) (exact ⟨by go_simp, by go_simp, by go_simp, by go_simp⟩) (first
            | (go_at_call 81; refine (HS.out _).mono ?_; rintro e w3 ⟨rfl, hb⟩; go_must (have HBw3 : Hid (Below w2.heap.size w2 w3) := ((Below.refl _ _).drew).trans hb); go_must (have q0 := (hb.cell (p := ⟨g, 0, none⟩) lgw2).trans q0); go_must (have q1 := (hb.cell (p := ⟨g, 1, none⟩) lgw2).trans q1); go_must (have p0 := (hb.cell (p := ⟨w.heap.size, 0, none⟩) lbw2).trans p0); go_must (have p1 := (hb.cell (p := ⟨w.heap.size, 1, none⟩) lbw2).trans p1); clear hb))
    have HA3 : Hid (Below w.heap.size w w3) := HA2.out.trans (HBw3.out.mono HA2.out.size)
    have lgw3 : g < w3.heap.size := Nat.lt_of_lt_of_le lg HA3.out.size
    have lbw3 : w.heap.size < w3.heap.size := Nat.lt_of_lt_of_le lbw2 HBw3.out.size
    have r5 := (HA3.out.cell (p := ⟨g, 5, none⟩) lg).trans q5
    have r6 := (HA3.out.cell (p := ⟨g, 6, none⟩) lg).trans q6
    clear HBw3
    obtain ⟨FK, hK, hKlt, hKg, hCn, hsf, hkl2, hend⟩ := Left.low H.out HG.out HA3.out.drew
    have HI2 := Lib.hid (HI.out FK _ w3.drew hK hKlt (by omega))
    have HEnd := Lib.hid hend
    have HKg := Lib.hid hKg
    have HCn := Lib.hid hCn
    have HSf := Lib.hid hsf
    clear hK hKlt hKg hCn hsf hkl2 hend HI
    go_wp2_with fail
    go_region_with (first
      | (go_at_call 73; refine HI2.out.mono ?_; rintro e w4 ⟨A4, rfl, hL4⟩; go_must (have hC4 := hL4.chg); go_must (have HL4 := Lib.hid hL4); go_must (have HG4 := Lib.hid ((HG.out.below HA3.out lg).drew.chg hC4 (fun e => (HKg.out g e).1 rfl))); go_must (have s5 := HG4.out.cell 5); go_must (have s5f := HG4.out.free 5); go_must (have s5l := HG4.out.lt); go_must (have HC4 := Lib.hid hC4); clear hL4 hC4))
    all_goals
      obtain ⟨hcA, hsA⟩ := HL4.out.cn (g := g) (fun x hx => (HKg.out x hx).1) lgw3
      have hpc := put_cnt p v l
      have HP : Hid (Bk (w4.setCell ⟨g, 5, none⟩ (.pointer A4)) g 138 #[.int .u32 (adr k : Int), .int .i64 (k.length : Int), .int .i64 u, .bool b, .int .i64 ((T.node k u b l r).cnt : Int), .pointer A4, .pointer kr]) := HG4.out.put 5 (.pointer A4)
      have HCg : Hid (Chg (fun x => x = g) w4 (w4.setCell ⟨g, 5, none⟩ (.pointer A4))) := (Chg.refl (fun x => x = g) w4).put (p := ⟨g, 5, none⟩) (.inl rfl) _
      have HN := Lib.hid (note_any g _ _ _ b _ A4 kr (l.put p v).cnt r.cnt (T.node k u b (l.put p v) r).cnt _ HP.out (hcA.chg HCg.out fun x hx e => hsA x hx e) ((HCn.out.chg HC4.out fun x hx => (HSf.out x hx).1).chg HCg.out fun x hx e => (HSf.out x hx).2.1 e) (by omega) (T.cnt_node _ _ _ _ _))
      clear hcA hsA hpc s5 s5f s5l
      go_wp2_with fail
      refine HN.out.mono ?_
      rintro e w6 ⟨rfl, hk6, hc6⟩
      have HE : Hid (PutP (.node k u b l r) p v w F (.returned (.pointer (some ⟨g, 0, none⟩))) w6) := ⟨_, rfl, by rw [HPT.out]; exact HEnd.out _ _ w4 w6 HL4.out (HCg.out.trans hc6 fun _ _ e => e) hk6⟩
      clear hk6 hc6
      go_wp2_with fail
      go_ret
      exact HE.out

set_option maxRecDepth 100000 in
set_option maxHeartbeats 2000000 in
theorem put_high {k : Key} {u : Int} {b : Bool} {l r : T} (p : Key) (v : Int) (hp : p.length ≤ 32) (F : Foot) (A : Option Addr) (w : World) (h : Tr w F (.node k u b l r) A) (hF : ∀ x, F x → x < w.heap.size) (hc : (T.node k u b l r).cnt < 999990) (h1 : k <+: p) (hne : k ≠ p) (hs : side k p = true) (ih : ∀ (F : Foot) (A : Option Addr) (w : World), Tr w F r A → (∀ x, F x → x < w.heap.size) → r.cnt < 999990 → Calls Try.prog 73 #[.pointer A, .agg #[.int .u32 (adr p), .int .i64 p.length], .int .i64 v] w (PutP r p v w F)) :
    Calls Try.prog 73 #[.pointer A, .agg #[.int .u32 (adr p), .int .i64 p.length], .int .i64 v] w (PutP (.node k u b l r) p v w F) := by
  obtain ⟨g, kl, kr, rfl, hg, hkl, hgF⟩ : ∃ g kl kr, A = some ⟨g, 0, none⟩ ∧ Bk w g 138 (nodeV k u b (T.node k u b l r).cnt kl kr) ∧ k.length ≤ 32 ∧ F g := by
    obtain ⟨g, FL, FR, kl, kr, e, c1, c2, c3, c4, c5, _⟩ := h
    exact ⟨g, kl, kr, e, c1, c2, c5⟩
  have hcl : l.cnt + r.cnt < 999990 := by rw [T.cnt_node] at hc; omega
  have lg := hg.lt
  have q0 := hg.cell 0
  have q1 := hg.cell 1
  have q2 := hg.cell 2
  have q3 := hg.cell 3
  have q5 := hg.cell 5
  have q6 := hg.cell 6
  have qf := fun i => hg.free i
  simp at q0 q1 q2 q3 q5 q6
  have HG := Lib.hid hg
  have H := Lib.hid h
  have HF := Lib.hid hF
  have HCN := Lib.hid hc
  clear hg h hF hc
  have HCv := Lib.hid (covers_any (adr k) k.length (adr p) p.length (adr_lt hkl) (adr_lt hp))
  rw [cover_key hkl hp, decide_eq_true h1] at HCv
  have hlt := pre_lt h1 hne
  have HS := Lib.hid (side_any (adr k) k.length (adr p) k.length p.length (adr_lt hp) (by omega))
  rw [side_num hp hlt, hs] at HS
  simp only [if_true, if_false, Bool.false_eq_true, Int.natCast_zero, Int.natCast_one] at HS
  have HPT : Hid ((T.node k u b l r).put p v = (T.node k u b l (r.put p v))) := by rw [Hid, T.put, if_neg hne, if_pos h1]; simp [hs]
  have hkk := key_tests hne
  have HI := Lib.hid ih
  clear h1 hne hlt hs ih
  rcases hkk with e3 | ⟨e3, e4⟩
  all_goals
    go_enter Try.func73, Try.ntmps73
    go_wp2_with fail
    go_quiet (fail)
    have HA1 : Hid (Below w.heap.size w ((((w.alloc (.cells #[.int .u32 (adr p : Int), .int .i64 (p.length : Int)] 30)).alloc (.cells #[.int .u32 (adr p : Int), .int .i64 (p.length : Int), .int .i64 v, .bool true, .int .i64 1, .pointer none, .pointer none] 138))).drewN nq)) := below_drewN (((Below.refl _ _).alloc (Nat.le_refl _) _).alloc (by simp) _) _
    have lbw1 : w.heap.size < ((((w.alloc (.cells #[.int .u32 (adr p : Int), .int .i64 (p.length : Int)] 30)).alloc (.cells #[.int .u32 (adr p : Int), .int .i64 (p.length : Int), .int .i64 v, .bool true, .int .i64 1, .pointer none, .pointer none] 138))).drewN nq).drew.heap.size := by simp; omega
    have p0 : ((((w.alloc (.cells #[.int .u32 (adr p : Int), .int .i64 (p.length : Int)] 30)).alloc (.cells #[.int .u32 (adr p : Int), .int .i64 (p.length : Int), .int .i64 v, .bool true, .int .i64 1, .pointer none, .pointer none] 138))).drewN nq).cell? ⟨w.heap.size, 0, none⟩ = some (.int .u32 (adr p : Int)) := by go_simp
    have p1 : ((((w.alloc (.cells #[.int .u32 (adr p : Int), .int .i64 (p.length : Int)] 30)).alloc (.cells #[.int .u32 (adr p : Int), .int .i64 (p.length : Int), .int .i64 v, .bool true, .int .i64 1, .pointer none, .pointer none] 138))).drewN nq).cell? ⟨w.heap.size, 1, none⟩ = some (.int .i64 (p.length : Int)) := by go_simp
    generalize (((w.alloc (.cells #[.int .u32 (adr p : Int), .int .i64 (p.length : Int)] 30)).alloc (.cells #[.int .u32 (adr p : Int), .int .i64 (p.length : Int), .int .i64 v, .bool true, .int .i64 1, .pointer none, .pointer none] 138))).drewN nq = w1 at *
    have lgw1 : g < w1.drew.heap.size := Nat.lt_of_lt_of_le lg HA1.out.size
    have q0 := (HA1.out.cell (p := ⟨g, 0, none⟩) lg).trans q0
    have q1 := (HA1.out.cell (p := ⟨g, 1, none⟩) lg).trans q1
    clear e3
    try clear e4
    go_wp2_with fail
    go_region_held3 (fun w' => w'.cell? ⟨g, 0, none⟩ = some (.int .u32 (adr k : Int)) ∧ w'.cell? ⟨g, 1, none⟩ = some (.int .i64 (k.length : Int)) ∧ w'.cell? ⟨w.heap.size, 0, none⟩ = some (.int .u32 (adr p : Int)) ∧ w'.cell? ⟨w.heap.size, 1, none⟩ = some (.int .i64 (p.length : Int))) (exact ⟨by go_simp, by go_simp, by go_simp, by go_simp⟩) (first
            | (go_at_call 109; refine (HCv.out _).mono ?_; rintro e w2 ⟨rfl, hb⟩; go_must (have HBw2 : Hid (Below w1.heap.size w1 w2) := ((Below.refl _ _).drew).trans hb); go_must (have q0 := (hb.cell (p := ⟨g, 0, none⟩) lgw1).trans q0); go_must (have q1 := (hb.cell (p := ⟨g, 1, none⟩) lgw1).trans q1); go_must (have p0 := (hb.cell (p := ⟨w.heap.size, 0, none⟩) lbw1).trans p0); go_must (have p1 := (hb.cell (p := ⟨w.heap.size, 1, none⟩) lbw1).trans p1); clear hb))
    have HA2 : Hid (Below w.heap.size w w2) := HA1.out.trans (HBw2.out.mono HA1.out.size)
    have lgw2 : g < w2.drew.heap.size := Nat.lt_of_lt_of_le lg HA2.out.size
    have lbw2 : w.heap.size < w2.drew.heap.size := Nat.lt_of_lt_of_le lbw1 HBw2.out.size
    clear HBw2
    go_wp2_with fail
    go_region_held3 (fun w' => w'.cell? ⟨g, 0, none⟩ = some (.int .u32 (adr k : Int)) ∧ w'.cell? ⟨g, 1, none⟩ = some (.int .i64 (k.length : Int)) ∧ w'.cell? ⟨w.heap.size, 0, none⟩ = some (.int .u32 (adr p : Int)) ∧ w'.cell? ⟨w.heap.size, 1, none⟩ = some (.int .i64 (p.length : Int))) (exact ⟨by go_simp, by go_simp, by go_simp, by go_simp⟩) (first
            | (go_at_call 81; refine (HS.out _).mono ?_; rintro e w3 ⟨rfl, hb⟩; go_must (have HBw3 : Hid (Below w2.heap.size w2 w3) := ((Below.refl _ _).drew).trans hb); go_must (have q0 := (hb.cell (p := ⟨g, 0, none⟩) lgw2).trans q0); go_must (have q1 := (hb.cell (p := ⟨g, 1, none⟩) lgw2).trans q1); go_must (have p0 := (hb.cell (p := ⟨w.heap.size, 0, none⟩) lbw2).trans p0); go_must (have p1 := (hb.cell (p := ⟨w.heap.size, 1, none⟩) lbw2).trans p1); clear hb))
    have HA3 : Hid (Below w.heap.size w w3) := HA2.out.trans (HBw3.out.mono HA2.out.size)
    have lgw3 : g < w3.heap.size := Nat.lt_of_lt_of_le lg HA3.out.size
    have lbw3 : w.heap.size < w3.heap.size := Nat.lt_of_lt_of_le lbw2 HBw3.out.size
    have r5 := (HA3.out.cell (p := ⟨g, 5, none⟩) lg).trans q5
    have r6 := (HA3.out.cell (p := ⟨g, 6, none⟩) lg).trans q6
    clear HBw3
    obtain ⟨FK, hK, hKlt, hKg, hCn, hsf, hkl2, hend⟩ := Left.high H.out HG.out HA3.out.drew
    have HI2 := Lib.hid (HI.out FK _ w3.drew hK hKlt (by omega))
    have HEnd := Lib.hid hend
    have HKg := Lib.hid hKg
    have HCn := Lib.hid hCn
    have HSf := Lib.hid hsf
    clear hK hKlt hKg hCn hsf hkl2 hend HI
    go_wp2_with fail
    go_region_with (first
      | (go_at_call 73; refine HI2.out.mono ?_; rintro e w4 ⟨A4, rfl, hL4⟩; go_must (have hC4 := hL4.chg); go_must (have HL4 := Lib.hid hL4); go_must (have HG4 := Lib.hid ((HG.out.below HA3.out lg).drew.chg hC4 (fun e => (HKg.out g e).1 rfl))); go_must (have s5 := HG4.out.cell 6); go_must (have s5f := HG4.out.free 6); go_must (have s5l := HG4.out.lt); go_must (have HC4 := Lib.hid hC4); clear hL4 hC4))
    all_goals
      obtain ⟨hcA, hsA⟩ := HL4.out.cn (g := g) (fun x hx => (HKg.out x hx).1) lgw3
      have hpc := put_cnt p v r
      have HP : Hid (Bk (w4.setCell ⟨g, 6, none⟩ (.pointer A4)) g 138 #[.int .u32 (adr k : Int), .int .i64 (k.length : Int), .int .i64 u, .bool b, .int .i64 ((T.node k u b l r).cnt : Int), .pointer kl, .pointer A4]) := HG4.out.put 6 (.pointer A4)
      have HCg : Hid (Chg (fun x => x = g) w4 (w4.setCell ⟨g, 6, none⟩ (.pointer A4))) := (Chg.refl (fun x => x = g) w4).put (p := ⟨g, 6, none⟩) (.inl rfl) _
      have HN := Lib.hid (note_any g _ _ _ b _ kl A4 l.cnt (r.put p v).cnt (T.node k u b l (r.put p v)).cnt _ HP.out ((HCn.out.chg HC4.out fun x hx => (HSf.out x hx).1).chg HCg.out fun x hx e => (HSf.out x hx).2.1 e) (hcA.chg HCg.out fun x hx e => hsA x hx e) (by omega) (T.cnt_node _ _ _ _ _))
      clear hcA hsA hpc s5 s5f s5l
      go_wp2_with fail
      refine HN.out.mono ?_
      rintro e w6 ⟨rfl, hk6, hc6⟩
      have HE : Hid (PutP (.node k u b l r) p v w F (.returned (.pointer (some ⟨g, 0, none⟩))) w6) := ⟨_, rfl, by rw [HPT.out]; exact HEnd.out _ _ w4 w6 HL4.out (HCg.out.trans hc6 fun _ _ e => e) hk6⟩
      clear hk6 hc6
      go_wp2_with fail
      go_ret
      exact HE.out

end Go.Proofs.Ytbhhkjkjihenoaa.tri
