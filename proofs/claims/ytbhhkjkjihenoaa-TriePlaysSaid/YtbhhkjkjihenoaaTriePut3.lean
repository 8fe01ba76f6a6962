/- What the trie's inner put does where a new node comes above: the walk. Condition: fewer than a million keys. Printed by gen_trieput.py. -/
import Derived.Test.YtbhhkjkjihenoaaTriePut2
namespace Go.Proofs.Ytbhhkjkjihenoaa.tri
open Go.RowKit Go.Proofs.Ytbhhkjkjihenoaa.kit Go.Proofs.Ytbhhkjkjihenoaa.mem Go.Proofs.Ytbhhkjkjihenoaa.foot Go.Proofs.Ytbhhkjkjihenoaa.pfx
set_option linter.unusedVariables false
set_option linter.unusedSimpArgs false

set_option maxRecDepth 100000 in
set_option maxHeartbeats 2000000 in
theorem put_over_low {k : Key} {u : Int} {b : Bool} {l r : T} (p : Key) (v : Int) (hp : p.length ≤ 32) (F : Foot) (A : Option Addr) (w : World) (h : Tr w F (.node k u b l r) A) (hF : ∀ x, F x → x < w.heap.size) (hc : (T.node k u b l r).cnt < 999990) (h1 : ¬ k <+: p) (h2 : p <+: k) (hne : k ≠ p) (hs : side p k = false) :
    Calls Try.prog 73 #[.pointer A, .agg #[.int .u32 (adr p), .int .i64 p.length], .int .i64 v] w (PutP (.node k u b l r) p v w F) := by
  obtain ⟨g, kl, kr, rfl, hg, hkl, hgF⟩ : ∃ g kl kr, A = some ⟨g, 0, none⟩ ∧ Bk w g 138 (nodeV k u b (T.node k u b l r).cnt kl kr) ∧ k.length ≤ 32 ∧ F g := by
    obtain ⟨g, FL, FR, kl, kr, e, c1, c2, c3, c4, c5, _⟩ := h
    exact ⟨g, kl, kr, e, c1, c2, c5⟩
  have hcl : l.cnt + r.cnt < 999990 := by rw [T.cnt_node] at hc; omega
  have lg := hg.lt
  have q0 := hg.cell 0
  have q1 := hg.cell 1
  have q2 := hg.cell 2
  have q3 := hg.cell 3
  have q5 := hg.cell 5
  have q6 := hg.cell 6
  have qf := fun i => hg.free i
  simp at q0 q1 q2 q3 q5 q6
  have HG := Lib.hid hg
  have H := Lib.hid h
  have HF := Lib.hid hF
  have HCN := Lib.hid hc
  clear hg h hF hc
  have HCv := Lib.hid (covers_any (adr k) k.length (adr p) p.length (adr_lt hkl) (adr_lt hp))
  rw [cover_key hkl hp, decide_eq_false h1] at HCv
  have HCw := Lib.hid (covers_any (adr p) p.length (adr k) k.length (adr_lt hp) (adr_lt hkl))
  rw [cover_key hp hkl, decide_eq_true h2] at HCw
  have hlt := pre_lt h2 (fun e => hne e.symm)
  have HS := Lib.hid (side_any (adr p) p.length (adr k) p.length k.length (adr_lt hkl) (by omega))
  rw [side_num hkl hlt, hs] at HS
  simp only [if_true, if_false, Bool.false_eq_true, Int.natCast_zero, Int.natCast_one] at HS
  have HPT : Hid ((T.node k u b l r).put p v = (T.node p v true (T.node k u b l r) .nil)) := by rw [Hid, T.put, if_neg hne, if_neg h1, if_pos h2]; simp [hs]
  have hkk := key_tests hne
  clear h1 h2 hne hlt hs
  rcases hkk with e3 | ⟨e3, e4⟩
  all_goals
    go_enter Try.func73, Try.ntmps73
    go_wp2_with fail
    go_quiet (fail)
    have HA1 : Hid (Below w.heap.size w ((((w.alloc (.cells #[.int .u32 (adr p : Int), .int .i64 (p.length : Int)] 30)).alloc (.cells #[.int .u32 (adr p : Int), .int .i64 (p.length : Int), .int .i64 v, .bool true, .int .i64 1, .pointer none, .pointer none] 138))).drewN nq)) := below_drewN (((Below.refl _ _).alloc (Nat.le_refl _) _).alloc (by simp) _) _
    have lbw1 : w.heap.size < ((((w.alloc (.cells #[.int .u32 (adr p : Int), .int .i64 (p.length : Int)] 30)).alloc (.cells #[.int .u32 (adr p : Int), .int .i64 (p.length : Int), .int .i64 v, .bool true, .int .i64 1, .pointer none, .pointer none] 138))).drewN nq).drew.heap.size := by simp; omega
    have HFr1 : Hid (Bk ((((w.alloc (.cells #[.int .u32 (adr p : Int), .int .i64 (p.length : Int)] 30)).alloc (.cells #[.int .u32 (adr p : Int), .int .i64 (p.length : Int), .int .i64 v, .bool true, .int .i64 1, .pointer none, .pointer none] 138))).drewN nq) (w.heap.size + 1) 138 #[.int .u32 (adr p : Int), .int .i64 (p.length : Int), .int .i64 v, .bool true, .int .i64 1, .pointer none, .pointer none]) := by
      have := Bk.new (w.alloc (.cells #[.int .u32 (adr p : Int), .int .i64 (p.length : Int)] 30)) 138 #[.int .u32 (adr p : Int), .int .i64 (p.length : Int), .int .i64 v, .bool true, .int .i64 1, .pointer none, .pointer none]
      rw [show (w.alloc (.cells #[.int .u32 (adr p : Int), .int .i64 (p.length : Int)] 30)).heap.size = w.heap.size + 1 from by simp] at this
      exact this.drewN nq
    have p0 : ((((w.alloc (.cells #[.int .u32 (adr p : Int), .int .i64 (p.length : Int)] 30)).alloc (.cells #[.int .u32 (adr p : Int), .int .i64 (p.length : Int), .int .i64 v, .bool true, .int .i64 1, .pointer none, .pointer none] 138))).drewN nq).cell? ⟨w.heap.size, 0, none⟩ = some (.int .u32 (adr p : Int)) := by go_simp
    have p1 : ((((w.alloc (.cells #[.int .u32 (adr p : Int), .int .i64 (p.length : Int)] 30)).alloc (.cells #[.int .u32 (adr p : Int), .int .i64 (p.length : Int), .int .i64 v, .bool true, .int .i64 1, .pointer none, .pointer none] 138))).drewN nq).cell? ⟨w.heap.size, 1, none⟩ = some (.int .i64 (p.length : Int)) := by go_simp
    generalize (((w.alloc (.cells #[.int .u32 (adr p : Int), .int .i64 (p.length : Int)] 30)).alloc (.cells #[.int .u32 (adr p : Int), .int .i64 (p.length : Int), .int .i64 v, .bool true, .int .i64 1, .pointer none, .pointer none] 138))).drewN nq = w1 at *
    have lgw1 : g < w1.drew.heap.size := Nat.lt_of_lt_of_le lg HA1.out.size
    have q0 := (HA1.out.cell (p := ⟨g, 0, none⟩) lg).trans q0
    have q1 := (HA1.out.cell (p := ⟨g, 1, none⟩) lg).trans q1
    clear e3
    try clear e4
    go_wp2_with fail
    go_region_held3 (fun w' => w'.cell? ⟨g, 0, none⟩ = some (.int .u32 (adr k : Int)) ∧ w'.cell? ⟨g, 1, none⟩ = some (.int .i64 (k.length : Int)) ∧ w'.cell? ⟨w.heap.size, 0, none⟩ = some (.int .u32 (adr p : Int)) ∧ w'.cell? ⟨w.heap.size, 1, none⟩ = some (.int .i64 (p.length : Int))) (exact ⟨by go_simp, by go_simp, by go_simp, by go_simp⟩) (first
            | (go_at_call 109; refine (HCv.out _).mono ?_; rintro e w2 ⟨rfl, hb⟩; go_must (have HBw2 : Hid (Below w1.heap.size w1 w2) := ((Below.refl _ _).drew).trans hb); go_must (have q0 := (hb.cell (p := ⟨g, 0, none⟩) lgw1).trans q0); go_must (have q1 := (hb.cell (p := ⟨g, 1, none⟩) lgw1).trans q1); go_must (have p0 := (hb.cell (p := ⟨w.heap.size, 0, none⟩) lbw1).trans p0); go_must (have p1 := (hb.cell (p := ⟨w.heap.size, 1, none⟩) lbw1).trans p1); clear hb))
    have HA2 : Hid (Below w.heap.size w w2) := HA1.out.trans (HBw2.out.mono HA1.out.size)
    have lgw2 : g < w2.drew.heap.size := Nat.lt_of_lt_of_le lg HA2.out.size
    have lbw2 : w.heap.size < w2.drew.heap.size := Nat.lt_of_lt_of_le lbw1 HBw2.out.size
    have HFr2 := Lib.hid (HFr1.out.below HBw2.out HFr1.out.lt)
    clear HBw2
    go_wp2_with fail
    go_region_held3 (fun w' => w'.cell? ⟨g, 0, none⟩ = some (.int .u32 (adr k : Int)) ∧ w'.cell? ⟨g, 1, none⟩ = some (.int .i64 (k.length : Int)) ∧ w'.cell? ⟨w.heap.size, 0, none⟩ = some (.int .u32 (adr p : Int)) ∧ w'.cell? ⟨w.heap.size, 1, none⟩ = some (.int .i64 (p.length : Int))) (exact ⟨by go_simp, by go_simp, by go_simp, by go_simp⟩) (first
            | (go_at_call 109; refine (HCw.out _).mono ?_; rintro e w3 ⟨rfl, hb⟩; go_must (have HBw3 : Hid (Below w2.heap.size w2 w3) := ((Below.refl _ _).drew).trans hb); go_must (have q0 := (hb.cell (p := ⟨g, 0, none⟩) lgw2).trans q0); go_must (have q1 := (hb.cell (p := ⟨g, 1, none⟩) lgw2).trans q1); go_must (have p0 := (hb.cell (p := ⟨w.heap.size, 0, none⟩) lbw2).trans p0); go_must (have p1 := (hb.cell (p := ⟨w.heap.size, 1, none⟩) lbw2).trans p1); clear hb))
    have HA3 : Hid (Below w.heap.size w w3) := HA2.out.trans (HBw3.out.mono HA2.out.size)
    have lgw3 : g < w3.drew.heap.size := Nat.lt_of_lt_of_le lg HA3.out.size
    have lbw3 : w.heap.size < w3.drew.heap.size := Nat.lt_of_lt_of_le lbw2 HBw3.out.size
    have HFr3 := Lib.hid (HFr2.out.below HBw3.out HFr2.out.lt)
    clear HBw3
    have c5 := HFr3.out.cell 5
    have c5f := HFr3.out.free 5
    have c5l := HFr3.out.lt
    simp at c5
    go_wp2_with fail
    go_region_held3 (fun w' => w'.cell? ⟨g, 0, none⟩ = some (.int .u32 (adr k : Int)) ∧ w'.cell? ⟨g, 1, none⟩ = some (.int .i64 (k.length : Int)) ∧ w'.cell? ⟨w.heap.size, 0, none⟩ = some (.int .u32 (adr p : Int)) ∧ w'.cell? ⟨w.heap.size, 1, none⟩ = some (.int .i64 (p.length : Int))) (exact ⟨by go_simp, by go_simp, by go_simp, by go_simp⟩) (first
            | (go_at_call 81; refine (HS.out _).mono ?_; rintro e w4 ⟨rfl, hb⟩; go_must (have HBw4 : Hid (Below w3.heap.size w3 w4) := ((Below.refl _ _).drew).trans hb); go_must (have q0 := (hb.cell (p := ⟨g, 0, none⟩) lgw3).trans q0); go_must (have q1 := (hb.cell (p := ⟨g, 1, none⟩) lgw3).trans q1); go_must (have p0 := (hb.cell (p := ⟨w.heap.size, 0, none⟩) lbw3).trans p0); go_must (have p1 := (hb.cell (p := ⟨w.heap.size, 1, none⟩) lbw3).trans p1); clear hb; go_must (have HFr4 := Lib.hid (HFr3.out.below HBw4.out HFr3.out.lt)); go_must (have c5 := HFr4.out.cell 5); go_must (have c5f := HFr4.out.free 5); go_must (have c5l := HFr4.out.lt); simp at c5))
    have HA4 : Hid (Below w.heap.size w w4) := HA3.out.trans (HBw4.out.mono HA3.out.size)
    have HP : Hid (Bk ((w4.setCell ⟨w.heap.size + 1, 5, none⟩ (.pointer (some ⟨g, 0, none⟩)))) (w.heap.size + 1) 138 #[.int .u32 (adr p : Int), .int .i64 (p.length : Int), .int .i64 v, .bool true, .int .i64 1, .pointer (some ⟨g, 0, none⟩), .pointer none]) := HFr4.out.put 5 (.pointer (some ⟨g, 0, none⟩))
    have HA5 : Hid (Below w.heap.size w (w4.setCell ⟨w.heap.size + 1, 5, none⟩ (.pointer (some ⟨g, 0, none⟩)))) := HA4.out.setCell (by show w.heap.size ≤ w.heap.size + 1; omega) _
    have hz : T.nil.cnt = 0 := rfl
    have hcn := HCN.out
    have HN := Lib.hid (note_any (w.heap.size + 1) _ _ _ true 1 (some ⟨g, 0, none⟩) none (T.node k u b l r).cnt 0 (T.node p v true (T.node k u b l r) .nil).cnt _ HP.out (H.out.bel HA5.out).cn (.inl ⟨rfl, rfl⟩) (by omega) (by rw [T.cnt_node _ _ true, hz]))
    clear hz hcn c5 c5f c5l
    go_wp2_with fail
    refine HN.out.mono ?_
    rintro e w6 ⟨rfl, hk6, hc6⟩
    have HB6 : Hid (Below w.heap.size w w6) := HA5.out.trans (hc6.below (fun x e => by rw [e]; omega) HA5.out.size)
    have ht6 : Tr w6 F (T.node k u b l r) (some ⟨g, 0, none⟩) := H.out.bel HB6.out
    have HE : Hid (PutP (.node k u b l r) p v w F (.returned (.pointer (some ⟨w.heap.size + 1, 0, none⟩))) w6) := ⟨_, rfl, by rw [HPT.out]; exact Left.over HF.out HB6.out (by omega) hk6 rfl hp (FL := F) (FR := fun _ => False) ht6 rfl (fun _ e => .inl e) (fun _ e => e.elim) (fun _ _ e => e)⟩
    clear hk6 hc6 ht6
    go_wp2_with fail
    go_ret
    exact HE.out

set_option maxRecDepth 100000 in
set_option maxHeartbeats 2000000 in
theorem put_over_high {k : Key} {u : Int} {b : Bool} {l r : T} (p : Key) (v : Int) (hp : p.length ≤ 32) (F : Foot) (A : Option Addr) (w : World) (h : Tr w F (.node k u b l r) A) (hF : ∀ x, F x → x < w.heap.size) (hc : (T.node k u b l r).cnt < 999990) (h1 : ¬ k <+: p) (h2 : p <+: k) (hne : k ≠ p) (hs : side p k = true) :
    Calls Try.prog 73 #[.pointer A, .agg #[.int .u32 (adr p), .int .i64 p.length], .int .i64 v] w (PutP (.node k u b l r) p v w F) := by
  obtain ⟨g, kl, kr, rfl, hg, hkl, hgF⟩ : ∃ g kl kr, A = some ⟨g, 0, none⟩ ∧ Bk w g 138 (nodeV k u b (T.node k u b l r).cnt kl kr) ∧ k.length ≤ 32 ∧ F g := by
    obtain ⟨g, FL, FR, kl, kr, e, c1, c2, c3, c4, c5, _⟩ := h
    exact ⟨g, kl, kr, e, c1, c2, c5⟩
  have hcl : l.cnt + r.cnt < 999990 := by rw [T.cnt_node] at hc; omega
  have lg := hg.lt
  have q0 := hg.cell 0
  have q1 := hg.cell 1
  have q2 := hg.cell 2
  have q3 := hg.cell 3
  have q5 := hg.cell 5
  have q6 := hg.cell 6
  have qf := fun i => hg.free i
  simp at q0 q1 q2 q3 q5 q6
  have HG := Lib.hid hg
  have H := Lib.hid h
  have HF := Lib.hid hF
  have HCN := Lib.hid hc
  clear hg h hF hc
  have HCv := Lib.hid (covers_any (adr k) k.length (adr p) p.length (adr_lt hkl) (adr_lt hp))
  rw [cover_key hkl hp, decide_eq_false h1] at HCv
  have HCw := Lib.hid (covers_any (adr p) p.length (adr k) k.length (adr_lt hp) (adr_lt hkl))
  rw [cover_key hp hkl, decide_eq_true h2] at HCw
  have hlt := pre_lt h2 (fun e => hne e.symm)
  have HS := Lib.hid (side_any (adr p) p.length (adr k) p.length k.length (adr_lt hkl) (by omega))
  rw [side_num hkl hlt, hs] at HS
  simp only [if_true, if_false, Bool.false_eq_true, Int.natCast_zero, Int.natCast_one] at HS
  have HPT : Hid ((T.node k u b l r).put p v = (T.node p v true .nil (T.node k u b l r))) := by rw [Hid, T.put, if_neg hne, if_neg h1, if_pos h2]; simp [hs]
  have hkk := key_tests hne
  clear h1 h2 hne hlt hs
  rcases hkk with e3 | ⟨e3, e4⟩
  all_goals
    go_enter Try.func73, Try.ntmps73
    go_wp2_with fail
    go_quiet (fail)
    have HA1 : Hid (Below w.heap.size w ((((w.alloc (.cells #[.int .u32 (adr p : Int), .int .i64 (p.length : Int)] 30)).alloc (.cells #[.int .u32 (adr p : Int), .int .i64 (p.length : Int), .int .i64 v, .bool true, .int .i64 1, .pointer none, .pointer none] 138))).drewN nq)) := below_drewN (((Below.refl _ _).alloc (Nat.le_refl _) _).alloc (by simp) _) _
    have lbw1 : w.heap.size < ((((w.alloc (.cells #[.int .u32 (adr p : Int), .int .i64 (p.length : Int)] 30)).alloc (.cells #[.int .u32 (adr p : Int), .int .i64 (p.length : Int), .int .i64 v, .bool true, .int .i64 1, .pointer none, .pointer none] 138))).drewN nq).drew.heap.size := by simp; omega
    have HFr1 : Hid (Bk ((((w.alloc (.cells #[.int .u32 (adr p : Int), .int .i64 (p.length : Int)] 30)).alloc (.cells #[.int .u32 (adr p : Int), .int .i64 (p.length : Int), .int .i64 v, .bool true, .int .i64 1, .pointer none, .pointer none] 138))).drewN nq) (w.heap.size + 1) 138 #[.int .u32 (adr p : Int), .int .i64 (p.length : Int), .int .i64 v, .bool true, .int .i64 1, .pointer none, .pointer none]) := by
      have := Bk.new (w.alloc (.cells #[.int .u32 (adr p : Int), .int .i64 (p.length : Int)] 30)) 138 #[.int .u32 (adr p : Int), .int .i64 (p.length : Int), .int .i64 v, .bool true, .int .i64 1, .pointer none, .pointer none]
      rw [show (w.alloc (.cells #[.int .u32 (adr p : Int), .int .i64 (p.length : Int)] 30)).heap.size = w.heap.size + 1 from by simp] at this
      exact this.drewN nq
    have p0 : ((((w.alloc (.cells #[.int .u32 (adr p : Int), .int .i64 (p.length : Int)] 30)).alloc (.cells #[.int .u32 (adr p : Int), .int .i64 (p.length : Int), .int .i64 v, .bool true, .int .i64 1, .pointer none, .pointer none] 138))).drewN nq).cell? ⟨w.heap.size, 0, none⟩ = some (.int .u32 (adr p : Int)) := by go_simp
    have p1 : ((((w.alloc (.cells #[.int .u32 (adr p : Int), .int .i64 (p.length : Int)] 30)).alloc (.cells #[.int .u32 (adr p : Int), .int .i64 (p.length : Int), .int .i64 v, .bool true, .int .i64 1, .pointer none, .pointer none] 138))).drewN nq).cell? ⟨w.heap.size, 1, none⟩ = some (.int .i64 (p.length : Int)) := by go_simp
    generalize (((w.alloc (.cells #[.int .u32 (adr p : Int), .int .i64 (p.length : Int)] 30)).alloc (.cells #[.int .u32 (adr p : Int), .int .i64 (p.length : Int), .int .i64 v, .bool true, .int .i64 1, .pointer none, .pointer none] 138))).drewN nq = w1 at *
    have lgw1 : g < w1.drew.heap.size := Nat.lt_of_lt_of_le lg HA1.out.size
    have q0 := (HA1.out.cell (p := ⟨g, 0, none⟩) lg).trans q0
    have q1 := (HA1.out.cell (p := ⟨g, 1, none⟩) lg).trans q1
    clear e3
    try clear e4
    go_wp2_with fail
    go_region_held3 (fun w' => w'.cell? ⟨g, 0, none⟩ = some (.int .u32 (adr k : Int)) ∧ w'.cell? ⟨g, 1, none⟩ = some (.int .i64 (k.length : Int)) ∧ w'.cell? ⟨w.heap.size, 0, none⟩ = some (.int .u32 (adr p : Int)) ∧ w'.cell? ⟨w.heap.size, 1, none⟩ = some (.int .i64 (p.length : Int))) (exact ⟨by go_simp, by go_simp, by go_simp, by go_simp⟩) (first
            | (go_at_call 109; refine (HCv.out _).mono ?_; rintro e w2 ⟨rfl, hb⟩; go_must (have HBw2 : Hid (Below w1.heap.size w1 w2) := ((Below.refl _ _).drew).trans hb); go_must (have q0 := (hb.cell (p := ⟨g, 0, none⟩) lgw1).trans q0); go_must (have q1 := (hb.cell (p := ⟨g, 1, none⟩) lgw1).trans q1); go_must (have p0 := (hb.cell (p := ⟨w.heap.size, 0, none⟩) lbw1).trans p0); go_must (have p1 := (hb.cell (p := ⟨w.heap.size, 1, none⟩) lbw1).trans p1); clear hb))
    have HA2 : Hid (Below w.heap.size w w2) := HA1.out.trans (HBw2.out.mono HA1.out.size)
    have lgw2 : g < w2.drew.heap.size := Nat.lt_of_lt_of_le lg HA2.out.size
    have lbw2 : w.heap.size < w2.drew.heap.size := Nat.lt_of_lt_of_le lbw1 HBw2.out.size
    have HFr2 := Lib.hid (HFr1.out.below HBw2.out HFr1.out.lt)
    clear HBw2
    go_wp2_with fail
    go_region_held3 (fun w' => w'.cell? ⟨g, 0, none⟩ = some (.int .u32 (adr k : Int)) ∧ w'.cell? ⟨g, 1, none⟩ = some (.int .i64 (k.length : Int)) ∧ w'.cell? ⟨w.heap.size, 0, none⟩ = some (.int .u32 (adr p : Int)) ∧ w'.cell? ⟨w.heap.size, 1, none⟩ = some (.int .i64 (p.length : Int))) (exact ⟨by go_simp, by go_simp, by go_simp, by go_simp⟩) (first
            | (go_at_call 109; refine (HCw.out _).mono ?_; rintro e w3 ⟨rfl, hb⟩; go_must (have HBw3 : Hid (Below w2.heap.size w2 w3) := ((Below.refl _ _).drew).trans hb); go_must (have q0 := (hb.cell (p := ⟨g, 0, none⟩) lgw2).trans q0); go_must (have q1 := (hb.cell (p := ⟨g, 1, none⟩) lgw2).trans q1); go_must (have p0 := (hb.cell (p := ⟨w.heap.size, 0, none⟩) lbw2).trans p0); go_must (have p1 := (hb.cell (p := ⟨w.heap.size, 1, none⟩) lbw2).trans p1); clear hb))
    have HA3 : Hid (Below w.heap.size w w3) := HA2.out.trans (HBw3.out.mono HA2.out.size)
    have lgw3 : g < w3.drew.heap.size := Nat.lt_of_lt_of_le lg HA3.out.size
    have lbw3 : w.heap.size < w3.drew.heap.size := Nat.lt_of_lt_of_le lbw2 HBw3.out.size
    have HFr3 := Lib.hid (HFr2.out.below HBw3.out HFr2.out.lt)
    clear HBw3
    have c5 := HFr3.out.cell 6
    have c5f := HFr3.out.free 6
    have c5l := HFr3.out.lt
    simp at c5
    go_wp2_with fail
    go_region_held3 (fun w' => w'.cell? ⟨g, 0, none⟩ = some (.int .u32 (adr k : Int)) ∧ w'.cell? ⟨g, 1, none⟩ = some (.int .i64 (k.length : Int)) ∧ w'.cell? ⟨w.heap.size, 0, none⟩ = some (.int .u32 (adr p : Int)) ∧ w'.cell? ⟨w.heap.size, 1, none⟩ = some (.int .i64 (p.length : Int))) (exact ⟨by go_simp, by go_simp, by go_simp, by go_simp⟩) (first
            | (go_at_call 81; refine (HS.out _).mono ?_; rintro e w4 ⟨rfl, hb⟩; go_must (have HBw4 : Hid (Below w3.heap.size w3 w4) := ((Below.refl _ _).drew).trans hb); go_must (have q0 := (hb.cell (p := ⟨g, 0, none⟩) lgw3).trans q0); go_must (have q1 := (hb.cell (p := ⟨g, 1, none⟩) lgw3).trans q1); go_must (have p0 := (hb.cell (p := ⟨w.heap.size, 0, none⟩) lbw3).trans p0); go_must (have p1 := (hb.cell (p := ⟨w.heap.size, 1, none⟩) lbw3).trans p1); clear hb; go_must (have HFr4 := Lib.hid (HFr3.out.below HBw4.out HFr3.out.lt)); go_must (have c5 := HFr4.out.cell 6); go_must (have c5f := HFr4.out.free 6); go_must (have c5l := HFr4.out.lt); simp at c5))
    have HA4 : Hid (Below w.heap.size w w4) := HA3.out.trans (HBw4.out.mono HA3.out.size)
    have HP : Hid (Bk ((w4.setCell ⟨w.heap.size + 1, 6, none⟩ (.pointer (some ⟨g, 0, none⟩)))) (w.heap.size + 1) 138 #[.int .u32 (adr p : Int), .int .i64 (p.length : Int), .int .i64 v, .bool true, .int .i64 1, .pointer none, .pointer (some ⟨g, 0, none⟩)]) := HFr4.out.put 6 (.pointer (some ⟨g, 0, none⟩))
    have HA5 : Hid (Below w.heap.size w (w4.setCell ⟨w.heap.size + 1, 6, none⟩ (.pointer (some ⟨g, 0, none⟩)))) := HA4.out.setCell (by show w.heap.size ≤ w.heap.size + 1; omega) _
    have hz : T.nil.cnt = 0 := rfl
    have hcn := HCN.out
    have HN := Lib.hid (note_any (w.heap.size + 1) _ _ _ true 1 none (some ⟨g, 0, none⟩) 0 (T.node k u b l r).cnt (T.node p v true .nil (T.node k u b l r)).cnt _ HP.out (.inl ⟨rfl, rfl⟩) (H.out.bel HA5.out).cn (by omega) (by rw [T.cnt_node _ _ true, hz]))
    clear hz hcn c5 c5f c5l
    go_wp2_with fail
    refine HN.out.mono ?_
    rintro e w6 ⟨rfl, hk6, hc6⟩
    have HB6 : Hid (Below w.heap.size w w6) := HA5.out.trans (hc6.below (fun x e => by rw [e]; omega) HA5.out.size)
    have ht6 : Tr w6 F (T.node k u b l r) (some ⟨g, 0, none⟩) := H.out.bel HB6.out
    have HE : Hid (PutP (.node k u b l r) p v w F (.returned (.pointer (some ⟨w.heap.size + 1, 0, none⟩))) w6) := ⟨_, rfl, by rw [HPT.out]; exact Left.over HF.out HB6.out (by omega) hk6 rfl hp (FL := fun _ => False) (FR := F) rfl ht6 (fun _ e => e.elim) (fun _ e => .inl e) (fun _ e => e.elim)⟩
    clear hk6 hc6 ht6
    go_wp2_with fail
    go_ret
    exact HE.out

end Go.Proofs.Ytbhhkjkjihenoaa.tri
