/- What the trie's inner cut does: the walk. Condition: fewer than a million keys; the key is put. Printed by gen_triecut.py. -/
import Derived.Test.YtbhhkjkjihenoaaTrieCut
namespace Go.Proofs.Ytbhhkjkjihenoaa.tri
open Go.RowKit Go.Proofs.Ytbhhkjkjihenoaa.kit Go.Proofs.Ytbhhkjkjihenoaa.mem Go.Proofs.Ytbhhkjkjihenoaa.foot Go.Proofs.Ytbhhkjkjihenoaa.pfx
set_option linter.unusedVariables false
set_option linter.unusedSimpArgs false

theorem Nd.low {w w0 : World} {F : Foot} {k : Key} {u : Int} {b : Bool} {l r : T} {g : Nat} {kl kr : Option Addr} (h : Tr w F (.node k u b l r) (some ⟨g, 0, none⟩)) (hg : Bk w g 138 (nodeV k u b (T.node k u b l r).cnt kl kr)) (hb : Below w.heap.size w w0) :
    ∃ FK, Tr w0 FK l kl ∧ (∀ x, FK x → x < w0.heap.size) ∧ (∀ x, FK x → x ≠ g ∧ x < w.heap.size) ∧ k.length ≤ 32 ∧ ∀ (l' : T) (A' : Option Addr) (w1 : World), Left w0 FK l' A' w1 → Bk w1 g 138 (nodeV k u b (T.node k u b l r).cnt kl kr) ∧
      ∃ FA FB, Nd (w1.setCell ⟨g, 5, none⟩ (.pointer A')) FA FB k u b ((T.node k u b l r).cnt : Int) l' r g A' kr ∧ Chg F w (w1.setCell ⟨g, 5, none⟩ (.pointer A')) ∧ (∀ x, FA x → F x ∨ w.heap.size ≤ x) ∧ (∀ x, FB x → F x ∨ w.heap.size ≤ x) := by
  obtain ⟨g', FL, FR, kl', kr', e, c1, c2, c3, c4, c5, c6, c7, c8, c9, c10, c11⟩ := h
  cases e
  have e4 := hg.symm.trans c1
  simp [nodeV] at e4
  obtain ⟨rfl, rfl⟩ := e4
  refine ⟨FL, c3.bel hb, fun x hx => Nat.lt_of_lt_of_le (c10 x hx) hb.size, fun x hx => ⟨fun e => c6 (e ▸ hx), c10 x hx⟩, c2, ?_⟩
  rintro l' A' w1 ⟨FK', d1, d2, d3, d4⟩
  have hsz := hb.size
  have hgl := c1.lt
  have hk1 : Bk w1 g 138 (nodeV k u b (T.node k u b l r).cnt kl kr) := (c1.below hb hgl).chg d2 c6
  have hcc : Chg (fun x => x = g) w1 (w1.setCell ⟨g, 5, none⟩ (.pointer A')) := (Chg.refl (fun x => x = g) w1).put (p := ⟨g, 5, none⟩) (.inl rfl) _
  have hk2 := hk1.put 5 (.pointer A')
  have hFK : ∀ x, FK' x → x ≠ g ∧ ¬ FR x := fun x hx => by
    rcases d3 x hx with e | e
    · exact ⟨fun e2 => c6 (e2 ▸ e), fun e2 => (c8 x e).2 e2⟩
    · exact ⟨fun e2 => by omega, fun e2 => by have := c11 x e2; omega⟩
  have hFin : ∀ x, FK' x → F x ∨ w.heap.size ≤ x := fun x hx => by
    rcases d3 x hx with e | e
    · exact .inl (c8 x e).1
    · exact .inr (by omega)
  have ho2 := ((c4.bel hb).chg d2 fun x hx hl => (c8 x hl).2 hx).chg hcc fun x hx e => c7 (e ▸ hx)
  exact ⟨hk1, FK', FR, ⟨hk2, c2, d1.chg hcc (fun x hx e => (hFK x hx).1 e), ho2, (fun e => (hFK g e).1 rfl), c7, (fun x hx => (hFK x hx).2), (fun x hx => Nat.lt_of_lt_of_le (d4 x hx) hcc.size), (fun x hx => Nat.lt_of_lt_of_le (c11 x hx) (Nat.le_trans hb.size (Nat.le_trans d2.size hcc.size)))⟩, ((Chg.of_below hb F).trans d2 fun x _ e => (c8 x e).1).trans hcc fun x _ e => by rw [e]; exact c5, (fun x hx => (hFin x hx)), (fun x hx => .inl (c9 x hx))⟩
theorem Nd.high {w w0 : World} {F : Foot} {k : Key} {u : Int} {b : Bool} {l r : T} {g : Nat} {kl kr : Option Addr} (h : Tr w F (.node k u b l r) (some ⟨g, 0, none⟩)) (hg : Bk w g 138 (nodeV k u b (T.node k u b l r).cnt kl kr)) (hb : Below w.heap.size w w0) :
    ∃ FK, Tr w0 FK r kr ∧ (∀ x, FK x → x < w0.heap.size) ∧ (∀ x, FK x → x ≠ g ∧ x < w.heap.size) ∧ k.length ≤ 32 ∧ ∀ (r' : T) (A' : Option Addr) (w1 : World), Left w0 FK r' A' w1 → Bk w1 g 138 (nodeV k u b (T.node k u b l r).cnt kl kr) ∧
      ∃ FA FB, Nd (w1.setCell ⟨g, 6, none⟩ (.pointer A')) FA FB k u b ((T.node k u b l r).cnt : Int) l r' g kl A' ∧ Chg F w (w1.setCell ⟨g, 6, none⟩ (.pointer A')) ∧ (∀ x, FA x → F x ∨ w.heap.size ≤ x) ∧ (∀ x, FB x → F x ∨ w.heap.size ≤ x) := by
  obtain ⟨g', FL, FR, kl', kr', e, c1, c2, c3, c4, c5, c6, c7, c8, c9, c10, c11⟩ := h
  cases e
  have e4 := hg.symm.trans c1
  simp [nodeV] at e4
  obtain ⟨rfl, rfl⟩ := e4
  refine ⟨FR, c4.bel hb, fun x hx => Nat.lt_of_lt_of_le (c11 x hx) hb.size, fun x hx => ⟨fun e => c7 (e ▸ hx), c11 x hx⟩, c2, ?_⟩
  rintro r' A' w1 ⟨FK', d1, d2, d3, d4⟩
  have hsz := hb.size
  have hgl := c1.lt
  have hk1 : Bk w1 g 138 (nodeV k u b (T.node k u b l r).cnt kl kr) := (c1.below hb hgl).chg d2 c7
  have hcc : Chg (fun x => x = g) w1 (w1.setCell ⟨g, 6, none⟩ (.pointer A')) := (Chg.refl (fun x => x = g) w1).put (p := ⟨g, 6, none⟩) (.inl rfl) _
  have hk2 := hk1.put 6 (.pointer A')
  have hFK : ∀ x, FK' x → x ≠ g ∧ ¬ FL x := fun x hx => by
    rcases d3 x hx with e | e
    · exact ⟨fun e2 => c7 (e2 ▸ e), fun e2 => (c8 x e2).2 e⟩
    · exact ⟨fun e2 => by omega, fun e2 => by have := c10 x e2; omega⟩
  have hFin : ∀ x, FK' x → F x ∨ w.heap.size ≤ x := fun x hx => by
    rcases d3 x hx with e | e
    · exact .inl (c9 x e)
    · exact .inr (by omega)
  have ho2 := ((c3.bel hb).chg d2 fun x hx hl => (c8 x hx).2 hl).chg hcc fun x hx e => c6 (e ▸ hx)
  exact ⟨hk1, FL, FK', ⟨hk2, c2, ho2, d1.chg hcc (fun x hx e => (hFK x hx).1 e), c6, (fun e => (hFK g e).1 rfl), (fun x hx h => (hFK x h).2 hx), (fun x hx => Nat.lt_of_lt_of_le (c10 x hx) (Nat.le_trans hb.size (Nat.le_trans d2.size hcc.size))), (fun x hx => Nat.lt_of_lt_of_le (d4 x hx) hcc.size)⟩, ((Chg.of_below hb F).trans d2 fun x _ e => (c9 x e)).trans hcc fun x _ e => by rw [e]; exact c5, (fun x hx => .inl (c8 x hx).1), (fun x hx => (hFin x hx))⟩
theorem LeanP.left {w w2 w3 : World} {F FL FR : Foot} {g : Nat} {t : T} {e : Ending} (h : LeanP w2 FL FR g t e w3) (hc : Chg F w w2) (hg : F g) (hl : ∀ x, FL x → F x ∨ w.heap.size ≤ x) (hr : ∀ x, FR x → F x ∨ w.heap.size ≤ x) : ∃ A', e = .returned (.pointer A') ∧ Left w F t A' w3 := by
  obtain ⟨A, F', he, h1, h2, h3, h4⟩ := h
  refine ⟨A, he, F', h1, hc.trans h2 fun x _ e => by rw [e]; exact hg, fun x hx => ?_, h4⟩
  rcases h3 x hx with e | e | e
  · exact .inl (by rw [e]; exact hg)
  · exact hl x e
  · exact hr x e
/-- the node of the key itself, its value and mark struck -/
theorem Nd.struck {w w0 : World} {F : Foot} {k : Key} {u : Int} {b : Bool} {l r : T} {g : Nat} {kl kr : Option Addr} (h : Tr w F (.node k u b l r) (some ⟨g, 0, none⟩)) (hg : Bk w g 138 (nodeV k u b (T.node k u b l r).cnt kl kr)) (hb : Below w.heap.size w w0) :
    ∃ FA FB, Nd ((w0.setCell ⟨g, 2, none⟩ (.int .i64 0)).setCell ⟨g, 3, none⟩ (.bool false)) FA FB k 0 false ((T.node k u b l r).cnt : Int) l r g kl kr ∧ Chg F w ((w0.setCell ⟨g, 2, none⟩ (.int .i64 0)).setCell ⟨g, 3, none⟩ (.bool false)) ∧ (∀ x, FA x → F x ∨ w.heap.size ≤ x) ∧ (∀ x, FB x → F x ∨ w.heap.size ≤ x) := by
  obtain ⟨g', FL, FR, kl', kr', e, c1, c2, c3, c4, c5, c6, c7, c8, c9, c10, c11⟩ := h
  cases e
  have e4 := hg.symm.trans c1
  simp [nodeV] at e4
  obtain ⟨rfl, rfl⟩ := e4
  have hk1 := c1.below hb c1.lt
  have hcc : Chg (fun x => x = g) w ((w0.setCell ⟨g, 2, none⟩ (.int .i64 0)).setCell ⟨g, 3, none⟩ (.bool false)) := ((Chg.of_below hb (fun x => x = g)).put (p := ⟨g, 2, none⟩) (.inl rfl) _).put (p := ⟨g, 3, none⟩) (.inl rfl) _
  exact ⟨FL, FR, ⟨(hk1.put 2 (.int .i64 0)).put 3 (.bool false), c2, c3.chg hcc (fun x hx e => c6 (e ▸ hx)), c4.chg hcc (fun x hx e => c7 (e ▸ hx)), c6, c7, fun x hx => (c8 x hx).2, fun x hx => Nat.lt_of_lt_of_le (c10 x hx) hcc.size, fun x hx => Nat.lt_of_lt_of_le (c11 x hx) hcc.size⟩, hcc.mono fun x _ e => by rw [e]; exact c5, fun x hx => .inl (c8 x hx).1, fun x hx => .inl (c9 x hx)⟩


set_option maxRecDepth 100000 in
set_option maxHeartbeats 2000000 in
theorem cut_same {k : Key} {u : Int} {b : Bool} {l r : T} (p : Key) (hp : p.length ≤ 32) (F : Foot) (A : Option Addr) (w : World) (h : Tr w F (.node k u b l r) A) (hF : ∀ x, F x → x < w.heap.size) (hc : (T.node k u b l r).cnt < 999990) (hkp : k = p) :
    Calls Try.prog 74 #[.pointer A, .agg #[.int .u32 (adr p), .int .i64 p.length]] w (CutP (.node k u b l r) p w F) := by
  obtain ⟨g, kl, kr, rfl, hg, hkl, hgF⟩ : ∃ g kl kr, A = some ⟨g, 0, none⟩ ∧ Bk w g 138 (nodeV k u b (T.node k u b l r).cnt kl kr) ∧ k.length ≤ 32 ∧ F g := by
    obtain ⟨g, FL, FR, kl, kr, e, c1, c2, c3, c4, c5, _⟩ := h
    exact ⟨g, kl, kr, e, c1, c2, c5⟩
  have hcl : l.cnt + r.cnt < 999990 := by rw [T.cnt_node] at hc; omega
  have lg := hg.lt
  have q0 := hg.cell 0
  have q1 := hg.cell 1
  have q5 := hg.cell 5
  have q6 := hg.cell 6
  have qf := fun i => hg.free i
  simp at q0 q1 q5 q6
  have HG := Lib.hid hg
  have H := Lib.hid h
  clear hg h hc hF
  subst hkp
  go_enter Try.func74, Try.ntmps74
  go_wp2_with fail
  go_quiet (fail)
  have HA1 : Hid (Below w.heap.size w (((w.alloc (.cells #[.int .u32 (adr k : Int), .int .i64 (k.length : Int)] 30))).drewN nq)) := below_drewN ((Below.refl _ _).alloc (Nat.le_refl _) _) _
  generalize ((w.alloc (.cells #[.int .u32 (adr k : Int), .int .i64 (k.length : Int)] 30))).drewN nq = w1 at *
  have hg1 := HG.out.below HA1.out lg
  have q2 := hg1.cell 2
  have q3 := hg1.cell 3
  have qf := fun i => hg1.free i
  have l1 := hg1.lt
  simp at q2 q3
  obtain ⟨FA, FB, hN, hC, hA, hB⟩ := Nd.struck H.out HG.out HA1.out
  have HL := Lib.hid (lean_any _ hN (by omega))
  have HC := Lib.hid hC
  have HFA := Lib.hid hA
  have HFB := Lib.hid hB
  have HPT : Hid ((T.node k u b l r).cut k = T.lean (.node k 0 false l r)) := by rw [Hid, T.cut, if_pos rfl]
  clear hg1 hN hC hA hB
  go_wp2_with fail
  refine HL.out.mono ?_; rintro e w2 hP
  obtain ⟨A', rfl, hL2⟩ := hP.left HC.out hgF HFA.out HFB.out
  rw [← HPT.out] at hL2
  have HE : Hid (CutP (.node k u b l r) k w F (.returned (.pointer A')) w2) := ⟨A', rfl, hL2⟩
  clear hP hL2
  go_wp2_with fail
  go_ret
  exact HE.out

set_option maxRecDepth 100000 in
set_option maxHeartbeats 2000000 in
theorem cut_low {k : Key} {u : Int} {b : Bool} {l r : T} (p : Key) (hp : p.length ≤ 32) (F : Foot) (A : Option Addr) (w : World) (h : Tr w F (.node k u b l r) A) (hF : ∀ x, F x → x < w.heap.size) (hc : (T.node k u b l r).cnt < 999990) (h1 : k <+: p) (hne : k ≠ p) (hs : side k p = false) (ih : ∀ (F : Foot) (A : Option Addr) (w : World), Tr w F l A → (∀ x, F x → x < w.heap.size) → l.cnt < 999990 → Calls Try.prog 74 #[.pointer A, .agg #[.int .u32 (adr p), .int .i64 p.length]] w (CutP l p w F)) :
    Calls Try.prog 74 #[.pointer A, .agg #[.int .u32 (adr p), .int .i64 p.length]] w (CutP (.node k u b l r) p w F) := by
  obtain ⟨g, kl, kr, rfl, hg, hkl, hgF⟩ : ∃ g kl kr, A = some ⟨g, 0, none⟩ ∧ Bk w g 138 (nodeV k u b (T.node k u b l r).cnt kl kr) ∧ k.length ≤ 32 ∧ F g := by
    obtain ⟨g, FL, FR, kl, kr, e, c1, c2, c3, c4, c5, _⟩ := h
    exact ⟨g, kl, kr, e, c1, c2, c5⟩
  have hcl : l.cnt + r.cnt < 999990 := by rw [T.cnt_node] at hc; omega
  have lg := hg.lt
  have q0 := hg.cell 0
  have q1 := hg.cell 1
  have q5 := hg.cell 5
  have q6 := hg.cell 6
  have qf := fun i => hg.free i
  simp at q0 q1 q5 q6
  have HG := Lib.hid hg
  have H := Lib.hid h
  clear hg h hc hF
  have hlt := pre_lt h1 hne
  have HS := Lib.hid (side_any (adr k) k.length (adr p) k.length p.length (adr_lt hp) (by omega))
  rw [side_num hp hlt, hs] at HS
  simp only [if_true, if_false, Bool.false_eq_true, Int.natCast_zero, Int.natCast_one] at HS
  have HPT : Hid ((T.node k u b l r).cut p = T.lean (.node k u b (l.cut p) r)) := by rw [Hid, T.cut, if_neg hne]; simp [hs]
  have hkk := key_tests hne
  have HI := Lib.hid ih
  clear h1 hne hlt hs ih
  rcases hkk with e3 | ⟨e3, e4⟩
  all_goals
    go_enter Try.func74, Try.ntmps74
    go_wp2_with fail
    go_quiet (fail)
    have HA1 : Hid (Below w.heap.size w (((w.alloc (.cells #[.int .u32 (adr p : Int), .int .i64 (p.length : Int)] 30))).drewN nq)) := below_drewN ((Below.refl _ _).alloc (Nat.le_refl _) _) _
    have lbw1 : w.heap.size < (((w.alloc (.cells #[.int .u32 (adr p : Int), .int .i64 (p.length : Int)] 30))).drewN nq).drew.heap.size := by simp
    have p0 : (((w.alloc (.cells #[.int .u32 (adr p : Int), .int .i64 (p.length : Int)] 30))).drewN nq).cell? ⟨w.heap.size, 0, none⟩ = some (.int .u32 (adr p : Int)) := by go_simp
    have p1 : (((w.alloc (.cells #[.int .u32 (adr p : Int), .int .i64 (p.length : Int)] 30))).drewN nq).cell? ⟨w.heap.size, 1, none⟩ = some (.int .i64 (p.length : Int)) := by go_simp
    generalize ((w.alloc (.cells #[.int .u32 (adr p : Int), .int .i64 (p.length : Int)] 30))).drewN nq = w1 at *
    have lgw1 : g < w1.drew.heap.size := Nat.lt_of_lt_of_le lg HA1.out.size
    have q0 := (HA1.out.cell (p := ⟨g, 0, none⟩) lg).trans q0
    have q1 := (HA1.out.cell (p := ⟨g, 1, none⟩) lg).trans q1
    clear e3
    try clear e4
    go_wp2_with fail
    go_region_held3 (fun w' => w'.cell? ⟨g, 0, none⟩ = some (.int .u32 (adr k : Int)) ∧ w'.cell? ⟨g, 1, none⟩ = some (.int .i64 (k.length : Int)) ∧ w'.cell? ⟨w.heap.size, 0, none⟩ = some (.int .u32 (adr p : Int)) ∧ w'.cell? ⟨w.heap.size, 1, none⟩ = some (.int .i64 (p.length : Int))) (exact ⟨by go_simp, by go_simp, by go_simp, by go_simp⟩) (first
      | (go_at_call 81; refine (HS.out _).mono ?_; rintro e w3 ⟨rfl, hb⟩; go_must (have HBw3 : Hid (Below w1.heap.size w1 w3) := ((Below.refl _ _).drew).trans hb); go_must (have q0 := (hb.cell (p := ⟨g, 0, none⟩) lgw1).trans q0); go_must (have q1 := (hb.cell (p := ⟨g, 1, none⟩) lgw1).trans q1); go_must (have p0 := (hb.cell (p := ⟨w.heap.size, 0, none⟩) lbw1).trans p0); go_must (have p1 := (hb.cell (p := ⟨w.heap.size, 1, none⟩) lbw1).trans p1); clear hb))
    have HA3 : Hid (Below w.heap.size w w3) := HA1.out.trans (HBw3.out.mono HA1.out.size)
    have lgw3 : g < w3.heap.size := Nat.lt_of_lt_of_le lg HA3.out.size
    have lbw3 : w.heap.size < w3.heap.size := Nat.lt_of_lt_of_le lbw1 HBw3.out.size
    have r5 := (HA3.out.cell (p := ⟨g, 5, none⟩) lg).trans q5
    have r6 := (HA3.out.cell (p := ⟨g, 6, none⟩) lg).trans q6
    clear HBw3
    obtain ⟨FK, hK, hKlt, hKg, hkl2, hend⟩ := Nd.low H.out HG.out HA3.out.drew
    have HI2 := Lib.hid (HI.out FK _ w3.drew hK hKlt (by omega))
    have HEnd := Lib.hid hend
    clear hK hKlt hKg hkl2 hend HI
    go_wp2_with fail
    go_region_with (first
      | (go_at_call 74; refine HI2.out.mono ?_; rintro e w4 ⟨A4, rfl, hL4⟩; go_must (have HX := Lib.hid (HEnd.out _ _ _ hL4)); go_must (have s5 := HX.out.1.cell 5); go_must (have s5f := HX.out.1.free 5); go_must (have s5l := HX.out.1.lt); clear hL4))
    all_goals
      obtain ⟨_, FA, FB, hN, hC, hA, hB⟩ := HX.out
      have hcc := cut_cnt p l
      have HL := Lib.hid (lean_any _ hN (by omega))
      have HC := Lib.hid hC
      have HFA := Lib.hid hA
      have HFB := Lib.hid hB
      clear hN hC hA hB hcc s5 s5f s5l
      go_wp2_with fail
      refine HL.out.mono ?_; rintro e w6 hP
      obtain ⟨A', rfl, hL6⟩ := hP.left HC.out hgF HFA.out HFB.out
      rw [← HPT.out] at hL6
      have HE : Hid (CutP (.node k u b l r) p w F (.returned (.pointer A')) w6) := ⟨A', rfl, hL6⟩
      clear hP hL6
      go_wp2_with fail
      go_ret
      exact HE.out

set_option maxRecDepth 100000 in
set_option maxHeartbeats 2000000 in
theorem cut_high {k : Key} {u : Int} {b : Bool} {l r : T} (p : Key) (hp : p.length ≤ 32) (F : Foot) (A : Option Addr) (w : World) (h : Tr w F (.node k u b l r) A) (hF : ∀ x, F x → x < w.heap.size) (hc : (T.node k u b l r).cnt < 999990) (h1 : k <+: p) (hne : k ≠ p) (hs : side k p = true) (ih : ∀ (F : Foot) (A : Option Addr) (w : World), Tr w F r A → (∀ x, F x → x < w.heap.size) → r.cnt < 999990 → Calls Try.prog 74 #[.pointer A, .agg #[.int .u32 (adr p), .int .i64 p.length]] w (CutP r p w F)) :
    Calls Try.prog 74 #[.pointer A, .agg #[.int .u32 (adr p), .int .i64 p.length]] w (CutP (.node k u b l r) p w F) := by
  obtain ⟨g, kl, kr, rfl, hg, hkl, hgF⟩ : ∃ g kl kr, A = some ⟨g, 0, none⟩ ∧ Bk w g 138 (nodeV k u b (T.node k u b l r).cnt kl kr) ∧ k.length ≤ 32 ∧ F g := by
    obtain ⟨g, FL, FR, kl, kr, e, c1, c2, c3, c4, c5, _⟩ := h
    exact ⟨g, kl, kr, e, c1, c2, c5⟩
  have hcl : l.cnt + r.cnt < 999990 := by rw [T.cnt_node] at hc; omega
  have lg := hg.lt
  have q0 := hg.cell 0
  have q1 := hg.cell 1
  have q5 := hg.cell 5
  have q6 := hg.cell 6
  have qf := fun i => hg.free i
  simp at q0 q1 q5 q6
  have HG := Lib.hid hg
  have H := Lib.hid h
  clear hg h hc hF
  have hlt := pre_lt h1 hne
  have HS := Lib.hid (side_any (adr k) k.length (adr p) k.length p.length (adr_lt hp) (by omega))
  rw [side_num hp hlt, hs] at HS
  simp only [if_true, if_false, Bool.false_eq_true, Int.natCast_zero, Int.natCast_one] at HS
  have HPT : Hid ((T.node k u b l r).cut p = T.lean (.node k u b l (r.cut p))) := by rw [Hid, T.cut, if_neg hne]; simp [hs]
  have hkk := key_tests hne
  have HI := Lib.hid ih
  clear h1 hne hlt hs ih
  rcases hkk with e3 | ⟨e3, e4⟩
  all_goals
    go_enter Try.func74, Try.ntmps74
    go_wp2_with fail
    go_quiet (fail)
    have HA1 : Hid (Below w.heap.size w (((w.alloc (.cells #[.int .u32 (adr p : Int), .int .i64 (p.length : Int)] 30))).drewN nq)) := below_drewN ((Below.refl _ _).alloc (Nat.le_refl _) _) _
    have lbw1 : w.heap.size < (((w.alloc (.cells #[.int .u32 (adr p : Int), .int .i64 (p.length : Int)] 30))).drewN nq).drew.heap.size := by simp
    have p0 : (((w.alloc (.cells #[.int .u32 (adr p : Int), .int .i64 (p.length : Int)] 30))).drewN nq).cell? ⟨w.heap.size, 0, none⟩ = some (.int .u32 (adr p : Int)) := by go_simp
    have p1 : (((w.alloc (.cells #[.int .u32 (adr p : Int), .int .i64 (p.length : Int)] 30))).drewN nq).cell? ⟨w.heap.size, 1, none⟩ = some (.int .i64 (p.length : Int)) := by go_simp
    generalize ((w.alloc (.cells #[.int .u32 (adr p : Int), .int .i64 (p.length : Int)] 30))).drewN nq = w1 at *
    have lgw1 : g < w1.drew.heap.size := Nat.lt_of_lt_of_le lg HA1.out.size
    have q0 := (HA1.out.cell (p := ⟨g, 0, none⟩) lg).trans q0
    have q1 := (HA1.out.cell (p := ⟨g, 1, none⟩) lg).trans q1
    clear e3
    try clear e4
    go_wp2_with fail
    go_region_held3 (fun w' => w'.cell? ⟨g, 0, none⟩ = some (.int .u32 (adr k : Int)) ∧ w'.cell? ⟨g, 1, none⟩ = some (.int .i64 (k.length : Int)) ∧ w'.cell? ⟨w.heap.size, 0, none⟩ = some (.int .u32 (adr p : Int)) ∧ w'.cell? ⟨w.heap.size, 1, none⟩ = some (.int .i64 (p.length : Int))) (exact ⟨by go_simp, by go_simp, by go_simp, by go_simp⟩) (first
      | (go_at_call 81; refine (HS.out _).mono ?_; rintro e w3 ⟨rfl, hb⟩; go_must (have HBw3 : Hid (Below w1.heap.size w1 w3) := ((Below.refl _ _).drew).trans hb); go_must (have q0 := (hb.cell (p := ⟨g, 0, none⟩) lgw1).trans q0); go_must (have q1 := (hb.cell (p := ⟨g, 1, none⟩) lgw1).trans q1); go_must (have p0 := (hb.cell (p := ⟨w.heap.size, 0, none⟩) lbw1).trans p0); go_must (have p1 := (hb.cell (p := ⟨w.heap.size, 1, none⟩) lbw1).trans p1); clear hb))
    have HA3 : Hid (Below w.heap.size w w3) := HA1.out.trans (HBw3.out.mono HA1.out.size)
    have lgw3 : g < w3.heap.size := Nat.lt_of_lt_of_le lg HA3.out.size
    have lbw3 : w.heap.size < w3.heap.size := Nat.lt_of_lt_of_le lbw1 HBw3.out.size
    have r5 := (HA3.out.cell (p := ⟨g, 5, none⟩) lg).trans q5
    have r6 := (HA3.out.cell (p := ⟨g, 6, none⟩) lg).trans q6
    clear HBw3
    obtain ⟨FK, hK, hKlt, hKg, hkl2, hend⟩ := Nd.high H.out HG.out HA3.out.drew
    have HI2 := Lib.hid (HI.out FK _ w3.drew hK hKlt (by omega))
    have HEnd := Lib.hid hend
    clear hK hKlt hKg hkl2 hend HI
    go_wp2_with fail
    go_region_with (first
      | (go_at_call 74; refine HI2.out.mono ?_; rintro e w4 ⟨A4, rfl, hL4⟩; go_must (have HX := Lib.hid (HEnd.out _ _ _ hL4)); go_must (have s5 := HX.out.1.cell 6); go_must (have s5f := HX.out.1.free 6); go_must (have s5l := HX.out.1.lt); clear hL4))
    all_goals
      obtain ⟨_, FA, FB, hN, hC, hA, hB⟩ := HX.out
      have hcc := cut_cnt p r
      have HL := Lib.hid (lean_any _ hN (by omega))
      have HC := Lib.hid hC
      have HFA := Lib.hid hA
      have HFB := Lib.hid hB
      clear hN hC hA hB hcc s5 s5f s5l
      go_wp2_with fail
      refine HL.out.mono ?_; rintro e w6 hP
      obtain ⟨A', rfl, hL6⟩ := hP.left HC.out hgF HFA.out HFB.out
      rw [← HPT.out] at hL6
      have HE : Hid (CutP (.node k u b l r) p w F (.returned (.pointer A')) w6) := ⟨A', rfl, hL6⟩
      clear hP hL6
      go_wp2_with fail
      go_ret
      exact HE.out

theorem cut_any (p : Key) (hp : p.length ≤ 32) : ∀ (t : T) (F : Foot) (A : Option Addr) (w : World), t.find p ≠ .nil → Tr w F t A → (∀ x, F x → x < w.heap.size) → t.cnt < 999990 →
    Calls Try.prog 74 #[.pointer A, .agg #[.int .u32 (adr p), .int .i64 p.length]] w (CutP t p w F)
  | .nil, F, A, w, hn, h, hF, hc => absurd rfl hn
  | .node k u b l r, F, A, w, hn, h, hF, hc => by
    by_cases h1 : k <+: p
    · by_cases e : k = p
      · exact cut_same p hp F A w h hF hc e
      · rcases hs : side k p with _ | _
        · exact cut_low p hp F A w h hF hc h1 e hs fun F A w => cut_any p hp l F A w (by rw [T.find, if_pos h1, if_neg e, if_neg (by simp [hs])] at hn; exact hn)
        · exact cut_high p hp F A w h hF hc h1 e hs fun F A w => cut_any p hp r F A w (by rw [T.find, if_pos h1, if_neg e, if_pos hs] at hn; exact hn)
    · exact absurd (by rw [T.find, if_neg h1]) hn
end Go.Proofs.Ytbhhkjkjihenoaa.tri
