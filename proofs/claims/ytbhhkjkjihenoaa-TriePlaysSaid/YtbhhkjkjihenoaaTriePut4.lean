/- What the trie's inner put does where a new node comes above: the walk. Condition: fewer than a million keys. Printed by gen_trieput.py. -/
import Derived.Test.YtbhhkjkjihenoaaTriePut2
namespace Go.Proofs.Ytbhhkjkjihenoaa.tri
open Go.RowKit Go.Proofs.Ytbhhkjkjihenoaa.kit Go.Proofs.Ytbhhkjkjihenoaa.mem Go.Proofs.Ytbhhkjkjihenoaa.foot Go.Proofs.Ytbhhkjkjihenoaa.pfx
set_option linter.unusedVariables false
set_option linter.unusedSimpArgs false

set_option maxRecDepth 100000 in
set_option maxHeartbeats 2000000 in
theorem put_both_low {k : Key} {u : Int} {b : Bool} {l r : T} (p : Key) (v : Int) (hp : p.length ≤ 32) (F : Foot) (A : Option Addr) (w : World) (h : Tr w F (.node k u b l r) A) (hF : ∀ x, F x → x < w.heap.size) (hc : (T.node k u b l r).cnt < 999990) (h1 : ¬ k <+: p) (h2 : ¬ p <+: k) (hne : k ≠ p) (hs : side (lcp k p) p = false) :
    Calls Try.prog 73 #[.pointer A, .agg #[.int .u32 (adr p), .int .i64 p.length], .int .i64 v] w (PutP (.node k u b l r) p v w F) := by
  obtain ⟨g, kl, kr, rfl, hg, hkl, hgF⟩ : ∃ g kl kr, A = some ⟨g, 0, none⟩ ∧ Bk w g 138 (nodeV k u b (T.node k u b l r).cnt kl kr) ∧ k.length ≤ 32 ∧ F g := by
    obtain ⟨g, FL, FR, kl, kr, e, c1, c2, c3, c4, c5, _⟩ := h
    exact ⟨g, kl, kr, e, c1, c2, c5⟩
  have hcl : l.cnt + r.cnt < 999990 := by rw [T.cnt_node] at hc; omega
  have lg := hg.lt
  have q0 := hg.cell 0
  have q1 := hg.cell 1
  have q2 := hg.cell 2
  have q3 := hg.cell 3
  have q5 := hg.cell 5
  have q6 := hg.cell 6
  have qf := fun i => hg.free i
  simp at q0 q1 q2 q3 q5 q6
  have HG := Lib.hid hg
  have H := Lib.hid h
  have HF := Lib.hid hF
  have HCN := Lib.hid hc
  clear hg h hF hc
  have HCv := Lib.hid (covers_any (adr k) k.length (adr p) p.length (adr_lt hkl) (adr_lt hp))
  rw [cover_key hkl hp, decide_eq_false h1] at HCv
  have HCw := Lib.hid (covers_any (adr p) p.length (adr k) k.length (adr_lt hp) (adr_lt hkl))
  rw [cover_key hp hkl, decide_eq_false h2] at HCw
  obtain ⟨n1, n2, n3⟩ := lcp_part h1 h2
  have hs2 : side (lcp k p) k = true := by rw [hs] at n3; simpa using n3
  have hlk := pre_lt (lcp_left k p) n1
  have hlp := pre_lt (lcp_right k p) n2
  have HCm := Lib.hid (common_any k p hkl hp)
  have hcl2 : (lcp k p).length ≤ 32 := by omega
  have HSp := Lib.hid (side_any (adr (lcp k p)) (lcp k p).length (adr p) (lcp k p).length p.length (adr_lt hp) (by omega))
  rw [side_num hp hlp, hs] at HSp
  have HSk := Lib.hid (side_any (adr (lcp k p)) (lcp k p).length (adr k) (lcp k p).length k.length (adr_lt hkl) (by omega))
  rw [side_num hkl hlk, hs2] at HSk
  simp only [if_true, if_false, Bool.false_eq_true, Int.natCast_zero, Int.natCast_one] at HSp HSk
  have HPT : Hid ((T.node k u b l r).put p v = (T.node (lcp k p) 0 false (T.node p v true .nil .nil) (T.node k u b l r))) := by rw [Hid, T.put, if_neg hne, if_neg h1, if_neg h2]; simp [hs]
  have hkk := key_tests hne
  clear h1 h2 hne hs n1 n2 n3 hs2 hlk hlp
  rcases hkk with e3 | ⟨e3, e4⟩
  all_goals
    go_enter Try.func73, Try.ntmps73
    go_wp2_with fail
    go_quiet (fail)
    have HA1 : Hid (Below w.heap.size w ((((w.alloc (.cells #[.int .u32 (adr p : Int), .int .i64 (p.length : Int)] 30)).alloc (.cells #[.int .u32 (adr p : Int), .int .i64 (p.length : Int), .int .i64 v, .bool true, .int .i64 1, .pointer none, .pointer none] 138))).drewN nq)) := below_drewN (((Below.refl _ _).alloc (Nat.le_refl _) _).alloc (by simp) _) _
    have lbw1 : w.heap.size < ((((w.alloc (.cells #[.int .u32 (adr p : Int), .int .i64 (p.length : Int)] 30)).alloc (.cells #[.int .u32 (adr p : Int), .int .i64 (p.length : Int), .int .i64 v, .bool true, .int .i64 1, .pointer none, .pointer none] 138))).drewN nq).drew.heap.size := by simp; omega
    have HFr1 : Hid (Bk ((((w.alloc (.cells #[.int .u32 (adr p : Int), .int .i64 (p.length : Int)] 30)).alloc (.cells #[.int .u32 (adr p : Int), .int .i64 (p.length : Int), .int .i64 v, .bool true, .int .i64 1, .pointer none, .pointer none] 138))).drewN nq) (w.heap.size + 1) 138 #[.int .u32 (adr p : Int), .int .i64 (p.length : Int), .int .i64 v, .bool true, .int .i64 1, .pointer none, .pointer none]) := by
      have := Bk.new (w.alloc (.cells #[.int .u32 (adr p : Int), .int .i64 (p.length : Int)] 30)) 138 #[.int .u32 (adr p : Int), .int .i64 (p.length : Int), .int .i64 v, .bool true, .int .i64 1, .pointer none, .pointer none]
      rw [show (w.alloc (.cells #[.int .u32 (adr p : Int), .int .i64 (p.length : Int)] 30)).heap.size = w.heap.size + 1 from by simp] at this
      exact this.drewN nq
    have p0 : ((((w.alloc (.cells #[.int .u32 (adr p : Int), .int .i64 (p.length : Int)] 30)).alloc (.cells #[.int .u32 (adr p : Int), .int .i64 (p.length : Int), .int .i64 v, .bool true, .int .i64 1, .pointer none, .pointer none] 138))).drewN nq).cell? ⟨w.heap.size, 0, none⟩ = some (.int .u32 (adr p : Int)) := by go_simp
    have p1 : ((((w.alloc (.cells #[.int .u32 (adr p : Int), .int .i64 (p.length : Int)] 30)).alloc (.cells #[.int .u32 (adr p : Int), .int .i64 (p.length : Int), .int .i64 v, .bool true, .int .i64 1, .pointer none, .pointer none] 138))).drewN nq).cell? ⟨w.heap.size, 1, none⟩ = some (.int .i64 (p.length : Int)) := by go_simp
    generalize (((w.alloc (.cells #[.int .u32 (adr p : Int), .int .i64 (p.length : Int)] 30)).alloc (.cells #[.int .u32 (adr p : Int), .int .i64 (p.length : Int), .int .i64 v, .bool true, .int .i64 1, .pointer none, .pointer none] 138))).drewN nq = w1 at *
    have lgw1 : g < w1.drew.heap.size := Nat.lt_of_lt_of_le lg HA1.out.size
    have q0 := (HA1.out.cell (p := ⟨g, 0, none⟩) lg).trans q0
    have q1 := (HA1.out.cell (p := ⟨g, 1, none⟩) lg).trans q1
    clear e3
    try clear e4
    go_wp2_with fail
    go_region_held3 (fun w' => w'.cell? ⟨g, 0, none⟩ = some (.int .u32 (adr k : Int)) ∧ w'.cell? ⟨g, 1, none⟩ = some (.int .i64 (k.length : Int)) ∧ w'.cell? ⟨w.heap.size, 0, none⟩ = some (.int .u32 (adr p : Int)) ∧ w'.cell? ⟨w.heap.size, 1, none⟩ = some (.int .i64 (p.length : Int))) (exact ⟨by go_simp, by go_simp, by go_simp, by go_simp⟩) (first
            | (go_at_call 109; refine (HCv.out _).mono ?_; rintro e w2 ⟨rfl, hb⟩; go_must (have HBw2 : Hid (Below w1.heap.size w1 w2) := ((Below.refl _ _).drew).trans hb); go_must (have q0 := (hb.cell (p := ⟨g, 0, none⟩) lgw1).trans q0); go_must (have q1 := (hb.cell (p := ⟨g, 1, none⟩) lgw1).trans q1); go_must (have p0 := (hb.cell (p := ⟨w.heap.size, 0, none⟩) lbw1).trans p0); go_must (have p1 := (hb.cell (p := ⟨w.heap.size, 1, none⟩) lbw1).trans p1); clear hb))
    have HA2 : Hid (Below w.heap.size w w2) := HA1.out.trans (HBw2.out.mono HA1.out.size)
    have lgw2 : g < w2.drew.heap.size := Nat.lt_of_lt_of_le lg HA2.out.size
    have lbw2 : w.heap.size < w2.drew.heap.size := Nat.lt_of_lt_of_le lbw1 HBw2.out.size
    have HFr2 := Lib.hid (HFr1.out.below HBw2.out HFr1.out.lt)
    clear HBw2
    go_wp2_with fail
    go_region_held3 (fun w' => w'.cell? ⟨g, 0, none⟩ = some (.int .u32 (adr k : Int)) ∧ w'.cell? ⟨g, 1, none⟩ = some (.int .i64 (k.length : Int)) ∧ w'.cell? ⟨w.heap.size, 0, none⟩ = some (.int .u32 (adr p : Int)) ∧ w'.cell? ⟨w.heap.size, 1, none⟩ = some (.int .i64 (p.length : Int))) (exact ⟨by go_simp, by go_simp, by go_simp, by go_simp⟩) (first
            | (go_at_call 109; refine (HCw.out _).mono ?_; rintro e w3 ⟨rfl, hb⟩; go_must (have HBw3 : Hid (Below w2.heap.size w2 w3) := ((Below.refl _ _).drew).trans hb); go_must (have q0 := (hb.cell (p := ⟨g, 0, none⟩) lgw2).trans q0); go_must (have q1 := (hb.cell (p := ⟨g, 1, none⟩) lgw2).trans q1); go_must (have p0 := (hb.cell (p := ⟨w.heap.size, 0, none⟩) lbw2).trans p0); go_must (have p1 := (hb.cell (p := ⟨w.heap.size, 1, none⟩) lbw2).trans p1); clear hb))
    have HA3 : Hid (Below w.heap.size w w3) := HA2.out.trans (HBw3.out.mono HA2.out.size)
    have lgw3 : g < w3.drew.heap.size := Nat.lt_of_lt_of_le lg HA3.out.size
    have lbw3 : w.heap.size < w3.drew.heap.size := Nat.lt_of_lt_of_le lbw2 HBw3.out.size
    have HFr3 := Lib.hid (HFr2.out.below HBw3.out HFr2.out.lt)
    clear HBw3
    go_wp2_with fail
    go_region_held3 (fun w' => w'.cell? ⟨g, 0, none⟩ = some (.int .u32 (adr k : Int)) ∧ w'.cell? ⟨g, 1, none⟩ = some (.int .i64 (k.length : Int)) ∧ w'.cell? ⟨w.heap.size, 0, none⟩ = some (.int .u32 (adr p : Int)) ∧ w'.cell? ⟨w.heap.size, 1, none⟩ = some (.int .i64 (p.length : Int))) (exact ⟨by go_simp, by go_simp, by go_simp, by go_simp⟩) (first
            | (go_at_call 110; refine (HCm.out _).mono ?_; rintro e w4 ⟨rfl, hb⟩; go_must (have HBw4 : Hid (Below w3.heap.size w3 w4) := ((Below.refl _ _).drew).trans hb); go_must (have q0 := (hb.cell (p := ⟨g, 0, none⟩) lgw3).trans q0); go_must (have q1 := (hb.cell (p := ⟨g, 1, none⟩) lgw3).trans q1); go_must (have p0 := (hb.cell (p := ⟨w.heap.size, 0, none⟩) lbw3).trans p0); go_must (have p1 := (hb.cell (p := ⟨w.heap.size, 1, none⟩) lbw3).trans p1); clear hb; go_must (have lgw4 : g < w4.heap.size := Nat.lt_of_lt_of_le lgw3 HBw4.out.size); go_must (have lbw4 : w.heap.size < w4.heap.size := Nat.lt_of_lt_of_le lbw3 HBw4.out.size)))
    have HA4 : Hid (Below w.heap.size w w4) := HA3.out.trans (HBw4.out.mono HA3.out.size)
    have HFr4 := Lib.hid (HFr3.out.below HBw4.out HFr3.out.lt)
    have HA5 : Hid (Below w.heap.size w (w4.alloc (.cells #[.int .u32 (adr (lcp k p) : Int), .int .i64 ((lcp k p).length : Int), .int .i64 0, .bool false, .int .i64 0, .pointer none, .pointer none] 138))) := HA4.out.alloc HA4.out.size _
    have HBw5 : Hid (Below w4.heap.size w4 (w4.alloc (.cells #[.int .u32 (adr (lcp k p) : Int), .int .i64 ((lcp k p).length : Int), .int .i64 0, .bool false, .int .i64 0, .pointer none, .pointer none] 138))) := (Below.refl _ _).alloc (Nat.le_refl _) _
    have HFr5 := Lib.hid (HFr4.out.below HBw5.out HFr4.out.lt)
    have HBo5 : Hid (Bk (w4.alloc (.cells #[.int .u32 (adr (lcp k p) : Int), .int .i64 ((lcp k p).length : Int), .int .i64 0, .bool false, .int .i64 0, .pointer none, .pointer none] 138)) w4.heap.size 138 #[.int .u32 (adr (lcp k p) : Int), .int .i64 ((lcp k p).length : Int), .int .i64 0, .bool false, .int .i64 0, .pointer none, .pointer none]) := Bk.new w4 _ _
    go_wp2_with fail
    generalize w4.alloc (.cells #[.int .u32 (adr (lcp k p) : Int), .int .i64 ((lcp k p).length : Int), .int .i64 0, .bool false, .int .i64 0, .pointer none, .pointer none] 138) = w5 at *
    have b0 := HBo5.out.cell 0
    have b1 := HBo5.out.cell 1
    have lbb : w4.heap.size < w5.heap.size := HBo5.out.lt
    simp at b0 b1
    have q0 := (HBw5.out.cell (p := ⟨g, 0, none⟩) lgw4).trans q0
    have q1 := (HBw5.out.cell (p := ⟨g, 1, none⟩) lgw4).trans q1
    have p0 := (HBw5.out.cell (p := ⟨w.heap.size, 0, none⟩) lbw4).trans p0
    have p1 := (HBw5.out.cell (p := ⟨w.heap.size, 1, none⟩) lbw4).trans p1
    have lgw5 : g < w5.drew.heap.size := Nat.lt_trans lgw4 lbb
    have lbw5 : w.heap.size < w5.drew.heap.size := Nat.lt_trans lbw4 lbb
    go_region_held3 (fun w' => w'.cell? ⟨g, 0, none⟩ = some (.int .u32 (adr k : Int)) ∧ w'.cell? ⟨g, 1, none⟩ = some (.int .i64 (k.length : Int)) ∧ w'.cell? ⟨w.heap.size, 0, none⟩ = some (.int .u32 (adr p : Int)) ∧ w'.cell? ⟨w.heap.size, 1, none⟩ = some (.int .i64 (p.length : Int)) ∧ w'.cell? ⟨w4.heap.size, 0, none⟩ = some (.int .u32 (adr (lcp k p) : Int)) ∧ w'.cell? ⟨w4.heap.size, 1, none⟩ = some (.int .i64 ((lcp k p).length : Int))) (exact ⟨by go_simp, by go_simp, by go_simp, by go_simp, by go_simp, by go_simp⟩) (first
            | (go_at_call_of 81 (Value.int IntKind.u32 (adr p : Int)); refine (HSp.out _).mono ?_; rintro e w6 ⟨rfl, hb⟩; go_must (have HBw6 : Hid (Below w5.heap.size w5 w6) := ((Below.refl _ _).drew).trans hb); go_must (have q0 := (hb.cell (p := ⟨g, 0, none⟩) lgw5).trans q0); go_must (have q1 := (hb.cell (p := ⟨g, 1, none⟩) lgw5).trans q1); go_must (have p0 := (hb.cell (p := ⟨w.heap.size, 0, none⟩) lbw5).trans p0); go_must (have p1 := (hb.cell (p := ⟨w.heap.size, 1, none⟩) lbw5).trans p1); go_must (have b0 := (hb.cell (p := ⟨w4.heap.size, 0, none⟩) lbb).trans b0); go_must (have b1 := (hb.cell (p := ⟨w4.heap.size, 1, none⟩) lbb).trans b1); go_must (have lgw6 : g < w6.heap.size := Nat.lt_of_lt_of_le lgw5 HBw6.out.size); go_must (have lbw6 : w.heap.size < w6.heap.size := Nat.lt_of_lt_of_le lbw5 HBw6.out.size); go_must (have lbb6 : w4.heap.size < w6.heap.size := Nat.lt_of_lt_of_le lbb HBw6.out.size); clear hb)
            | (go_at_call_of 81 (Value.int IntKind.u32 (adr k : Int)); refine (HSk.out _).mono ?_; rintro e w7 ⟨rfl, hb⟩; go_must (have HBw7 : Hid (Below w6.heap.size w6 w7) := hb); go_must (have q0 := (hb.cell (p := ⟨g, 0, none⟩) lgw6).trans q0); go_must (have q1 := (hb.cell (p := ⟨g, 1, none⟩) lgw6).trans q1); go_must (have p0 := (hb.cell (p := ⟨w.heap.size, 0, none⟩) lbw6).trans p0); go_must (have p1 := (hb.cell (p := ⟨w.heap.size, 1, none⟩) lbw6).trans p1); go_must (have b0 := (hb.cell (p := ⟨w4.heap.size, 0, none⟩) lbb6).trans b0); go_must (have b1 := (hb.cell (p := ⟨w4.heap.size, 1, none⟩) lbb6).trans b1); go_must (have HBo7 := Lib.hid ((HBo5.out.below HBw6.out HBo5.out.lt).below HBw7.out lbb6)); go_must (have s5 := HBo7.out.cell 5); go_must (have s6 := HBo7.out.cell 6); go_must (have sf := fun i => HBo7.out.free i); go_must (have sl := HBo7.out.lt); simp at s5 s6; clear hb))
    have hbb : w.heap.size + 1 < w4.heap.size := HFr4.out.lt
    have HA6 : Hid (Below w.heap.size w w6) := HA5.out.trans (HBw6.out.mono HA5.out.size)
    have HA7 : Hid (Below w.heap.size w w7) := HA6.out.trans (HBw7.out.mono HA6.out.size)
    have HP : Hid (Bk ((w7.setCell ⟨w4.heap.size, 5, none⟩ (.pointer (some ⟨w.heap.size + 1, 0, none⟩))).setCell ⟨w4.heap.size, 6, none⟩ (.pointer (some ⟨g, 0, none⟩))) w4.heap.size 138 #[.int .u32 (adr (lcp k p) : Int), .int .i64 ((lcp k p).length : Int), .int .i64 0, .bool false, .int .i64 0, .pointer (some ⟨w.heap.size + 1, 0, none⟩), .pointer (some ⟨g, 0, none⟩)]) := (HBo7.out.put 5 (.pointer (some ⟨w.heap.size + 1, 0, none⟩))).put 6 (.pointer (some ⟨g, 0, none⟩))
    have HA8 : Hid (Below w.heap.size w ((w7.setCell ⟨w4.heap.size, 5, none⟩ (.pointer (some ⟨w.heap.size + 1, 0, none⟩))).setCell ⟨w4.heap.size, 6, none⟩ (.pointer (some ⟨g, 0, none⟩)))) := (HA7.out.setCell (by show w.heap.size ≤ w4.heap.size; omega) _).setCell (by show w.heap.size ≤ w4.heap.size; omega) _
    have HFr7 := Lib.hid ((HFr5.out.below HBw6.out HFr5.out.lt).below HBw7.out (Nat.lt_of_lt_of_le HFr5.out.lt HBw6.out.size))
    have HFr8 : Hid (Bk ((w7.setCell ⟨w4.heap.size, 5, none⟩ (.pointer (some ⟨w.heap.size + 1, 0, none⟩))).setCell ⟨w4.heap.size, 6, none⟩ (.pointer (some ⟨g, 0, none⟩))) (w.heap.size + 1) 138 (nodeV p v true 1 none none)) := (HFr7.out.far (p := ⟨w4.heap.size, 5, none⟩) (by show w.heap.size + 1 ≠ w4.heap.size; omega) _).far (p := ⟨w4.heap.size, 6, none⟩) (by show w.heap.size + 1 ≠ w4.heap.size; omega) _
    have hz : (T.node p v true .nil .nil).cnt = 1 := rfl
    have hcn := HCN.out
    have HN := Lib.hid (note_any w4.heap.size _ _ _ false 0 (some ⟨w.heap.size + 1, 0, none⟩) (some ⟨g, 0, none⟩) 1 (T.node k u b l r).cnt (T.node (lcp k p) 0 false (T.node p v true .nil .nil) (T.node k u b l r)).cnt _ HP.out (.inr ⟨_, _, rfl, HFr8.out, rfl⟩) (H.out.bel HA8.out).cn (by omega) (by rw [T.cnt_node _ _ false, hz]))
    clear hz hcn s5 s6 sf sl b0 b1
    go_wp2_with fail
    refine HN.out.mono ?_
    rintro e w9 ⟨rfl, hk9, hc9⟩
    have HB9 : Hid (Below w.heap.size w w9) := HA8.out.trans (hc9.below (fun x e => by rw [e]; omega) HA8.out.size)
    have ht9 : Tr w9 F (T.node k u b l r) (some ⟨g, 0, none⟩) := H.out.bel HB9.out
    have hf9 : Bk w9 (w.heap.size + 1) 138 (nodeV p v true 1 none none) := HFr8.out.chg hc9 (fun e => by have e' : w.heap.size + 1 = w4.heap.size := e; omega)
    have hl9 : Tr w9 (fun x => x = w.heap.size + 1 ∨ False ∨ False) (T.node p v true .nil .nil) (some ⟨w.heap.size + 1, 0, none⟩) := Tr.mk (FL := fun _ => False) (FR := fun _ => False) hf9 rfl hp rfl rfl (fun e => e) (fun e => e) (fun _ e => e.elim) (fun _ e => e.elim) (fun _ e => e.elim)
    have hlt9 := hf9.lt
    have hnew : ∀ x, (x = w.heap.size + 1 ∨ False ∨ False) → F x ∨ (w.heap.size ≤ x ∧ x ≠ w4.heap.size ∧ x < w9.heap.size) := fun x e => by
      rcases e with e | e | e
      · exact .inr ⟨by omega, by omega, by omega⟩
      · exact e.elim
      · exact e.elim
    have hap : ∀ x, F x → ¬ (x = w.heap.size + 1 ∨ False ∨ False) := fun x hx e => by
      have := HF.out x hx
      rcases e with e | e | e
      · omega
      · exact e
      · exact e
    have HE : Hid (PutP (.node k u b l r) p v w F (.returned (.pointer (some ⟨w4.heap.size, 0, none⟩))) w9) := ⟨_, rfl, by rw [HPT.out]; exact Left.over HF.out HB9.out (by omega) hk9 rfl hcl2 hl9 ht9 hnew (fun _ e => .inl e) (fun x e hx => hap x hx e)⟩
    clear hk9 hc9 ht9 hf9 hl9 hlt9 hnew hap
    go_wp2_with fail
    go_ret
    exact HE.out

set_option maxRecDepth 100000 in
set_option maxHeartbeats 2000000 in
theorem put_both_high {k : Key} {u : Int} {b : Bool} {l r : T} (p : Key) (v : Int) (hp : p.length ≤ 32) (F : Foot) (A : Option Addr) (w : World) (h : Tr w F (.node k u b l r) A) (hF : ∀ x, F x → x < w.heap.size) (hc : (T.node k u b l r).cnt < 999990) (h1 : ¬ k <+: p) (h2 : ¬ p <+: k) (hne : k ≠ p) (hs : side (lcp k p) p = true) :
    Calls Try.prog 73 #[.pointer A, .agg #[.int .u32 (adr p), .int .i64 p.length], .int .i64 v] w (PutP (.node k u b l r) p v w F) := by
  obtain ⟨g, kl, kr, rfl, hg, hkl, hgF⟩ : ∃ g kl kr, A = some ⟨g, 0, none⟩ ∧ Bk w g 138 (nodeV k u b (T.node k u b l r).cnt kl kr) ∧ k.length ≤ 32 ∧ F g := by
    obtain ⟨g, FL, FR, kl, kr, e, c1, c2, c3, c4, c5, _⟩ := h
    exact ⟨g, kl, kr, e, c1, c2, c5⟩
  have hcl : l.cnt + r.cnt < 999990 := by rw [T.cnt_node] at hc; omega
  have lg := hg.lt
  have q0 := hg.cell 0
  have q1 := hg.cell 1
  have q2 := hg.cell 2
  have q3 := hg.cell 3
  have q5 := hg.cell 5
  have q6 := hg.cell 6
  have qf := fun i => hg.free i
  simp at q0 q1 q2 q3 q5 q6
  have HG := Lib.hid hg
  have H := Lib.hid h
  have HF := Lib.hid hF
  have HCN := Lib.hid hc
  clear hg h hF hc
  have HCv := Lib.hid (covers_any (adr k) k.length (adr p) p.length (adr_lt hkl) (adr_lt hp))
  rw [cover_key hkl hp, decide_eq_false h1] at HCv
  have HCw := Lib.hid (covers_any (adr p) p.length (adr k) k.length (adr_lt hp) (adr_lt hkl))
  rw [cover_key hp hkl, decide_eq_false h2] at HCw
  obtain ⟨n1, n2, n3⟩ := lcp_part h1 h2
  have hs2 : side (lcp k p) k = false := by rw [hs] at n3; simpa using n3
  have hlk := pre_lt (lcp_left k p) n1
  have hlp := pre_lt (lcp_right k p) n2
  have HCm := Lib.hid (common_any k p hkl hp)
  have hcl2 : (lcp k p).length ≤ 32 := by omega
  have HSp := Lib.hid (side_any (adr (lcp k p)) (lcp k p).length (adr p) (lcp k p).length p.length (adr_lt hp) (by omega))
  rw [side_num hp hlp, hs] at HSp
  have HSk := Lib.hid (side_any (adr (lcp k p)) (lcp k p).length (adr k) (lcp k p).length k.length (adr_lt hkl) (by omega))
  rw [side_num hkl hlk, hs2] at HSk
  simp only [if_true, if_false, Bool.false_eq_true, Int.natCast_zero, Int.natCast_one] at HSp HSk
  have HPT : Hid ((T.node k u b l r).put p v = (T.node (lcp k p) 0 false (T.node k u b l r) (T.node p v true .nil .nil))) := by rw [Hid, T.put, if_neg hne, if_neg h1, if_neg h2]; simp [hs]
  have hkk := key_tests hne
  clear h1 h2 hne hs n1 n2 n3 hs2 hlk hlp
  rcases hkk with e3 | ⟨e3, e4⟩
  all_goals
    go_enter Try.func73, Try.ntmps73
    go_wp2_with fail
    go_quiet (fail)
    have HA1 : Hid (Below w.heap.size w ((((w.alloc (.cells #[.int .u32 (adr p : Int), .int .i64 (p.length : Int)] 30)).alloc (.cells #[.int .u32 (adr p : Int), .int .i64 (p.length : Int), .int .i64 v, .bool true, .int .i64 1, .pointer none, .pointer none] 138))).drewN nq)) := below_drewN (((Below.refl _ _).alloc (Nat.le_refl _) _).alloc (by simp) _) _
    have lbw1 : w.heap.size < ((((w.alloc (.cells #[.int .u32 (adr p : Int), .int .i64 (p.length : Int)] 30)).alloc (.cells #[.int .u32 (adr p : Int), .int .i64 (p.length : Int), .int .i64 v, .bool true, .int .i64 1, .pointer none, .pointer none] 138))).drewN nq).drew.heap.size := by simp; omega
    have HFr1 : Hid (Bk ((((w.alloc (.cells #[.int .u32 (adr p : Int), .int .i64 (p.length : Int)] 30)).alloc (.cells #[.int .u32 (adr p : Int), .int .i64 (p.length : Int), .int .i64 v, .bool true, .int .i64 1, .pointer none, .pointer none] 138))).drewN nq) (w.heap.size + 1) 138 #[.int .u32 (adr p : Int), .int .i64 (p.length : Int), .int .i64 v, .bool true, .int .i64 1, .pointer none, .pointer none]) := by
      have := Bk.new (w.alloc (.cells #[.int .u32 (adr p : Int), .int .i64 (p.length : Int)] 30)) 138 #[.int .u32 (adr p : Int), .int .i64 (p.length : Int), .int .i64 v, .bool true, .int .i64 1, .pointer none, .pointer none]
      rw [show (w.alloc (.cells #[.int .u32 (adr p : Int), .int .i64 (p.length : Int)] 30)).heap.size = w.heap.size + 1 from by simp] at this
      exact this.drewN nq
    have p0 : ((((w.alloc (.cells #[.int .u32 (adr p : Int), .int .i64 (p.length : Int)] 30)).alloc (.cells #[.int .u32 (adr p : Int), .int .i64 (p.length : Int), .int .i64 v, .bool true, .int .i64 1, .pointer none, .pointer none] 138))).drewN nq).cell? ⟨w.heap.size, 0, none⟩ = some (.int .u32 (adr p : Int)) := by go_simp
    have p1 : ((((w.alloc (.cells #[.int .u32 (adr p : Int), .int .i64 (p.length : Int)] 30)).alloc (.cells #[.int .u32 (adr p : Int), .int .i64 (p.length : Int), .int .i64 v, .bool true, .int .i64 1, .pointer none, .pointer none] 138))).drewN nq).cell? ⟨w.heap.size, 1, none⟩ = some (.int .i64 (p.length : Int)) := by go_simp
    generalize (((w.alloc (.cells #[.int .u32 (adr p : Int), .int .i64 (p.length : Int)] 30)).alloc (.cells #[.int .u32 (adr p : Int), .int .i64 (p.length : Int), .int .i64 v, .bool true, .int .i64 1, .pointer none, .pointer none] 138))).drewN nq = w1 at *
    have lgw1 : g < w1.drew.heap.size := Nat.lt_of_lt_of_le lg HA1.out.size
    have q0 := (HA1.out.cell (p := ⟨g, 0, none⟩) lg).trans q0
    have q1 := (HA1.out.cell (p := ⟨g, 1, none⟩) lg).trans q1
    clear e3
    try clear e4
    go_wp2_with fail
    go_region_held3 (fun w' => w'.cell? ⟨g, 0, none⟩ = some (.int .u32 (adr k : Int)) ∧ w'.cell? ⟨g, 1, none⟩ = some (.int .i64 (k.length : Int)) ∧ w'.cell? ⟨w.heap.size, 0, none⟩ = some (.int .u32 (adr p : Int)) ∧ w'.cell? ⟨w.heap.size, 1, none⟩ = some (.int .i64 (p.length : Int))) (exact ⟨by go_simp, by go_simp, by go_simp, by go_simp⟩) (first
            | (go_at_call 109; refine (HCv.out _).mono ?_; rintro e w2 ⟨rfl, hb⟩; go_must (have HBw2 : Hid (Below w1.heap.size w1 w2) := ((Below.refl _ _).drew).trans hb); go_must (have q0 := (hb.cell (p := ⟨g, 0, none⟩) lgw1).trans q0); go_must (have q1 := (hb.cell (p := ⟨g, 1, none⟩) lgw1).trans q1); go_must (have p0 := (hb.cell (p := ⟨w.heap.size, 0, none⟩) lbw1).trans p0); go_must (have p1 := (hb.cell (p := ⟨w.heap.size, 1, none⟩) lbw1).trans p1); clear hb))
    have HA2 : Hid (Below w.heap.size w w2) := HA1.out.trans (HBw2.out.mono HA1.out.size)
    have lgw2 : g < w2.drew.heap.size := Nat.lt_of_lt_of_le lg HA2.out.size
    have lbw2 : w.heap.size < w2.drew.heap.size := Nat.lt_of_lt_of_le lbw1 HBw2.out.size
    have HFr2 := Lib.hid (HFr1.out.below HBw2.out HFr1.out.lt)
    clear HBw2
    go_wp2_with fail
    go_region_held3 (fun w' => w'.cell? ⟨g, 0, none⟩ = some (.int .u32 (adr k : Int)) ∧ w'.cell? ⟨g, 1, none⟩ = some (.int .i64 (k.length : Int)) ∧ w'.cell? ⟨w.heap.size, 0, none⟩ = some (.int .u32 (adr p : Int)) ∧ w'.cell? ⟨w.heap.size, 1, none⟩ = some (.int .i64 (p.length : Int))) (exact ⟨by go_simp, by go_simp, by go_simp, by go_simp⟩) (first
            | (go_at_call 109; refine (HCw.out _).mono ?_; rintro e w3 ⟨rfl, hb⟩; go_must (have HBw3 : Hid (Below w2.heap.size w2 w3) := ((Below.refl _ _).drew).trans hb); go_must (have q0 := (hb.cell (p := ⟨g, 0, none⟩) lgw2).trans q0); go_must (have q1 := (hb.cell (p := ⟨g, 1, none⟩) lgw2).trans q1); go_must (have p0 := (hb.cell (p := ⟨w.heap.size, 0, none⟩) lbw2).trans p0); go_must (have p1 := (hb.cell (p := ⟨w.heap.size, 1, none⟩) lbw2).trans p1); clear hb))
    have HA3 : Hid (Below w.heap.size w w3) := HA2.out.trans (HBw3.out.mono HA2.out.size)
    have lgw3 : g < w3.drew.heap.size := Nat.lt_of_lt_of_le lg HA3.out.size
    have lbw3 : w.heap.size < w3.drew.heap.size := Nat.lt_of_lt_of_le lbw2 HBw3.out.size
    have HFr3 := Lib.hid (HFr2.out.below HBw3.out HFr2.out.lt)
    clear HBw3
    go_wp2_with fail
    go_region_held3 (fun w' => w'.cell? ⟨g, 0, none⟩ = some (.int .u32 (adr k : Int)) ∧ w'.cell? ⟨g, 1, none⟩ = some (.int .i64 (k.length : Int)) ∧ w'.cell? ⟨w.heap.size, 0, none⟩ = some (.int .u32 (adr p : Int)) ∧ w'.cell? ⟨w.heap.size, 1, none⟩ = some (.int .i64 (p.length : Int))) (exact ⟨by go_simp, by go_simp, by go_simp, by go_simp⟩) (first
            | (go_at_call 110; refine (HCm.out _).mono ?_; rintro e w4 ⟨rfl, hb⟩; go_must (have HBw4 : Hid (Below w3.heap.size w3 w4) := ((Below.refl _ _).drew).trans hb); go_must (have q0 := (hb.cell (p := ⟨g, 0, none⟩) lgw3).trans q0); go_must (have q1 := (hb.cell (p := ⟨g, 1, none⟩) lgw3).trans q1); go_must (have p0 := (hb.cell (p := ⟨w.heap.size, 0, none⟩) lbw3).trans p0); go_must (have p1 := (hb.cell (p := ⟨w.heap.size, 1, none⟩) lbw3).trans p1); clear hb; go_must (have lgw4 : g < w4.heap.size := Nat.lt_of_lt_of_le lgw3 HBw4.out.size); go_must (have lbw4 : w.heap.size < w4.heap.size := Nat.lt_of_lt_of_le lbw3 HBw4.out.size)))
    have HA4 : Hid (Below w.heap.size w w4) := HA3.out.trans (HBw4.out.mono HA3.out.size)
    have HFr4 := Lib.hid (HFr3.out.below HBw4.out HFr3.out.lt)
    have HA5 : Hid (Below w.heap.size w (w4.alloc (.cells #[.int .u32 (adr (lcp k p) : Int), .int .i64 ((lcp k p).length : Int), .int .i64 0, .bool false, .int .i64 0, .pointer none, .pointer none] 138))) := HA4.out.alloc HA4.out.size _
    have HBw5 : Hid (Below w4.heap.size w4 (w4.alloc (.cells #[.int .u32 (adr (lcp k p) : Int), .int .i64 ((lcp k p).length : Int), .int .i64 0, .bool false, .int .i64 0, .pointer none, .pointer none] 138))) := (Below.refl _ _).alloc (Nat.le_refl _) _
    have HFr5 := Lib.hid (HFr4.out.below HBw5.out HFr4.out.lt)
    have HBo5 : Hid (Bk (w4.alloc (.cells #[.int .u32 (adr (lcp k p) : Int), .int .i64 ((lcp k p).length : Int), .int .i64 0, .bool false, .int .i64 0, .pointer none, .pointer none] 138)) w4.heap.size 138 #[.int .u32 (adr (lcp k p) : Int), .int .i64 ((lcp k p).length : Int), .int .i64 0, .bool false, .int .i64 0, .pointer none, .pointer none]) := Bk.new w4 _ _
    go_wp2_with fail
    generalize w4.alloc (.cells #[.int .u32 (adr (lcp k p) : Int), .int .i64 ((lcp k p).length : Int), .int .i64 0, .bool false, .int .i64 0, .pointer none, .pointer none] 138) = w5 at *
    have b0 := HBo5.out.cell 0
    have b1 := HBo5.out.cell 1
    have lbb : w4.heap.size < w5.heap.size := HBo5.out.lt
    simp at b0 b1
    have q0 := (HBw5.out.cell (p := ⟨g, 0, none⟩) lgw4).trans q0
    have q1 := (HBw5.out.cell (p := ⟨g, 1, none⟩) lgw4).trans q1
    have p0 := (HBw5.out.cell (p := ⟨w.heap.size, 0, none⟩) lbw4).trans p0
    have p1 := (HBw5.out.cell (p := ⟨w.heap.size, 1, none⟩) lbw4).trans p1
    have lgw5 : g < w5.drew.heap.size := Nat.lt_trans lgw4 lbb
    have lbw5 : w.heap.size < w5.drew.heap.size := Nat.lt_trans lbw4 lbb
    go_region_held3 (fun w' => w'.cell? ⟨g, 0, none⟩ = some (.int .u32 (adr k : Int)) ∧ w'.cell? ⟨g, 1, none⟩ = some (.int .i64 (k.length : Int)) ∧ w'.cell? ⟨w.heap.size, 0, none⟩ = some (.int .u32 (adr p : Int)) ∧ w'.cell? ⟨w.heap.size, 1, none⟩ = some (.int .i64 (p.length : Int)) ∧ w'.cell? ⟨w4.heap.size, 0, none⟩ = some (.int .u32 (adr (lcp k p) : Int)) ∧ w'.cell? ⟨w4.heap.size, 1, none⟩ = some (.int .i64 ((lcp k p).length : Int))) (exact ⟨by go_simp, by go_simp, by go_simp, by go_simp, by go_simp, by go_simp⟩) (first
            | (go_at_call_of 81 (Value.int IntKind.u32 (adr p : Int)); refine (HSp.out _).mono ?_; rintro e w6 ⟨rfl, hb⟩; go_must (have HBw6 : Hid (Below w5.heap.size w5 w6) := ((Below.refl _ _).drew).trans hb); go_must (have q0 := (hb.cell (p := ⟨g, 0, none⟩) lgw5).trans q0); go_must (have q1 := (hb.cell (p := ⟨g, 1, none⟩) lgw5).trans q1); go_must (have p0 := (hb.cell (p := ⟨w.heap.size, 0, none⟩) lbw5).trans p0); go_must (have p1 := (hb.cell (p := ⟨w.heap.size, 1, none⟩) lbw5).trans p1); go_must (have b0 := (hb.cell (p := ⟨w4.heap.size, 0, none⟩) lbb).trans b0); go_must (have b1 := (hb.cell (p := ⟨w4.heap.size, 1, none⟩) lbb).trans b1); go_must (have lgw6 : g < w6.heap.size := Nat.lt_of_lt_of_le lgw5 HBw6.out.size); go_must (have lbw6 : w.heap.size < w6.heap.size := Nat.lt_of_lt_of_le lbw5 HBw6.out.size); go_must (have lbb6 : w4.heap.size < w6.heap.size := Nat.lt_of_lt_of_le lbb HBw6.out.size); clear hb)
            | (go_at_call_of 81 (Value.int IntKind.u32 (adr k : Int)); refine (HSk.out _).mono ?_; rintro e w7 ⟨rfl, hb⟩; go_must (have HBw7 : Hid (Below w6.heap.size w6 w7) := hb); go_must (have q0 := (hb.cell (p := ⟨g, 0, none⟩) lgw6).trans q0); go_must (have q1 := (hb.cell (p := ⟨g, 1, none⟩) lgw6).trans q1); go_must (have p0 := (hb.cell (p := ⟨w.heap.size, 0, none⟩) lbw6).trans p0); go_must (have p1 := (hb.cell (p := ⟨w.heap.size, 1, none⟩) lbw6).trans p1); go_must (have b0 := (hb.cell (p := ⟨w4.heap.size, 0, none⟩) lbb6).trans b0); go_must (have b1 := (hb.cell (p := ⟨w4.heap.size, 1, none⟩) lbb6).trans b1); go_must (have HBo7 := Lib.hid ((HBo5.out.below HBw6.out HBo5.out.lt).below HBw7.out lbb6)); go_must (have s5 := HBo7.out.cell 5); go_must (have s6 := HBo7.out.cell 6); go_must (have sf := fun i => HBo7.out.free i); go_must (have sl := HBo7.out.lt); simp at s5 s6; clear hb))
    have hbb : w.heap.size + 1 < w4.heap.size := HFr4.out.lt
    have HA6 : Hid (Below w.heap.size w w6) := HA5.out.trans (HBw6.out.mono HA5.out.size)
    have HA7 : Hid (Below w.heap.size w w7) := HA6.out.trans (HBw7.out.mono HA6.out.size)
    have HP : Hid (Bk ((w7.setCell ⟨w4.heap.size, 6, none⟩ (.pointer (some ⟨w.heap.size + 1, 0, none⟩))).setCell ⟨w4.heap.size, 5, none⟩ (.pointer (some ⟨g, 0, none⟩))) w4.heap.size 138 #[.int .u32 (adr (lcp k p) : Int), .int .i64 ((lcp k p).length : Int), .int .i64 0, .bool false, .int .i64 0, .pointer (some ⟨g, 0, none⟩), .pointer (some ⟨w.heap.size + 1, 0, none⟩)]) := (HBo7.out.put 6 (.pointer (some ⟨w.heap.size + 1, 0, none⟩))).put 5 (.pointer (some ⟨g, 0, none⟩))
    have HA8 : Hid (Below w.heap.size w ((w7.setCell ⟨w4.heap.size, 6, none⟩ (.pointer (some ⟨w.heap.size + 1, 0, none⟩))).setCell ⟨w4.heap.size, 5, none⟩ (.pointer (some ⟨g, 0, none⟩)))) := (HA7.out.setCell (by show w.heap.size ≤ w4.heap.size; omega) _).setCell (by show w.heap.size ≤ w4.heap.size; omega) _
    have HFr7 := Lib.hid ((HFr5.out.below HBw6.out HFr5.out.lt).below HBw7.out (Nat.lt_of_lt_of_le HFr5.out.lt HBw6.out.size))
    have HFr8 : Hid (Bk ((w7.setCell ⟨w4.heap.size, 6, none⟩ (.pointer (some ⟨w.heap.size + 1, 0, none⟩))).setCell ⟨w4.heap.size, 5, none⟩ (.pointer (some ⟨g, 0, none⟩))) (w.heap.size + 1) 138 (nodeV p v true 1 none none)) := (HFr7.out.far (p := ⟨w4.heap.size, 6, none⟩) (by show w.heap.size + 1 ≠ w4.heap.size; omega) _).far (p := ⟨w4.heap.size, 5, none⟩) (by show w.heap.size + 1 ≠ w4.heap.size; omega) _
    have hz : (T.node p v true .nil .nil).cnt = 1 := rfl
    have hcn := HCN.out
    have HN := Lib.hid (note_any w4.heap.size _ _ _ false 0 (some ⟨g, 0, none⟩) (some ⟨w.heap.size + 1, 0, none⟩) (T.node k u b l r).cnt 1 (T.node (lcp k p) 0 false (T.node k u b l r) (T.node p v true .nil .nil)).cnt _ HP.out (H.out.bel HA8.out).cn (.inr ⟨_, _, rfl, HFr8.out, rfl⟩) (by omega) (by rw [T.cnt_node _ _ false, hz]))
    clear hz hcn s5 s6 sf sl b0 b1
    go_wp2_with fail
    refine HN.out.mono ?_
    rintro e w9 ⟨rfl, hk9, hc9⟩
    have HB9 : Hid (Below w.heap.size w w9) := HA8.out.trans (hc9.below (fun x e => by rw [e]; omega) HA8.out.size)
    have ht9 : Tr w9 F (T.node k u b l r) (some ⟨g, 0, none⟩) := H.out.bel HB9.out
    have hf9 : Bk w9 (w.heap.size + 1) 138 (nodeV p v true 1 none none) := HFr8.out.chg hc9 (fun e => by have e' : w.heap.size + 1 = w4.heap.size := e; omega)
    have hl9 : Tr w9 (fun x => x = w.heap.size + 1 ∨ False ∨ False) (T.node p v true .nil .nil) (some ⟨w.heap.size + 1, 0, none⟩) := Tr.mk (FL := fun _ => False) (FR := fun _ => False) hf9 rfl hp rfl rfl (fun e => e) (fun e => e) (fun _ e => e.elim) (fun _ e => e.elim) (fun _ e => e.elim)
    have hlt9 := hf9.lt
    have hnew : ∀ x, (x = w.heap.size + 1 ∨ False ∨ False) → F x ∨ (w.heap.size ≤ x ∧ x ≠ w4.heap.size ∧ x < w9.heap.size) := fun x e => by
      rcases e with e | e | e
      · exact .inr ⟨by omega, by omega, by omega⟩
      · exact e.elim
      · exact e.elim
    have hap : ∀ x, F x → ¬ (x = w.heap.size + 1 ∨ False ∨ False) := fun x hx e => by
      have := HF.out x hx
      rcases e with e | e | e
      · omega
      · exact e
      · exact e
    have HE : Hid (PutP (.node k u b l r) p v w F (.returned (.pointer (some ⟨w4.heap.size, 0, none⟩))) w9) := ⟨_, rfl, by rw [HPT.out]; exact Left.over HF.out HB9.out (by omega) hk9 rfl hcl2 ht9 hl9 (fun _ e => .inl e) hnew hap⟩
    clear hk9 hc9 ht9 hf9 hl9 hlt9 hnew hap
    go_wp2_with fail
    go_ret
    exact HE.out
end Go.Proofs.Ytbhhkjkjihenoaa.tri
