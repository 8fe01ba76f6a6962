/- What confluenceref14.Put returns. Condition: good keys, at most a million rows. -/
import Derived.Test.YtbhhkjkjihenoaaTrieRefPut
namespace Go.Proofs.Ytbhhkjkjihenoaa.tri
open Go.RowKit Go.Proofs.Ytbhhkjkjihenoaa.kit Go.Proofs.Ytbhhkjkjihenoaa.mem Go.Proofs.Ytbhhkjkjihenoaa.foot Go.Proofs.Ytbhhkjkjihenoaa.pfx
set_option linter.unusedVariables false
set_option linter.unusedSimpArgs false

theorem _root_.Go.Proofs.Ytbhhkjkjihenoaa.mem.Bk.rg1 {w : World} {g : Nat} {t : TypeId} {a b c : Value} (h : Bk w g t #[a, b, c]) : Rg w (fun k => k = g) 3 (some ⟨g, 0, none⟩) 1 [a, b, c] :=
  ⟨rfl, fun _ => ⟨g, 0, rfl, rfl, h.lt, fun j u hu => by rw [h.cell, Nat.zero_add]; simpa using hu⟩⟩
theorem _root_.Go.Proofs.Ytbhhkjkjihenoaa.foot.Acc.eqw {w w1 w2 : World} {e : TypeId} {size n c : Nat} {A : Option Addr} {xs : List Value} (h : Acc w e size w1 A n c xs) (h1 : w2.heap = w1.heap) (h2 : w2.os = w1.os) (h3 : w2.tape = w1.tape) (h4 : w2.output = w1.output) : Acc w e size w2 A n c xs :=
  h.go ⟨h2, h3, h4, by rw [h1]; exact Nat.le_refl _, fun k _ => by rw [h1]⟩
theorem _root_.Go.Proofs.Ytbhhkjkjihenoaa.foot.Acc.ap {w w0 w1 w2 : World} {e : TypeId} {size n m c c' : Nat} {A A' : Option Addr} {xs news : List Value} (hc : Chg (sf A) w0 w2) (hf : Fresh w0 (sf A) (sf A')) (ho : Own w2 e size A' m c' news) (h : Acc w e size w1 A n c xs) (h1 : w0.heap = w1.heap) (h2 : w0.os = w1.os) (h3 : w0.tape = w1.tape) (h4 : w0.output = w1.output) : Acc w e size w2 A' m c' news :=
  (h.eqw h1 h2 h3 h4).app ho hc hf
theorem sf_ne (g k : Nat) (h : g ≠ k) : ¬ sf (some ⟨g, 0, none⟩) k := by rw [sf_some]; exact h

theorem _root_.Go.Proofs.Ytbhhkjkjihenoaa.mem.Bk.ap {w0 w1 w2 : World} {g0 g : Nat} {t : TypeId} {cs : Array Value} (hc : Chg (sf (some ⟨g0, 0, none⟩)) w0 w2) (h : Bk w1 g t cs) (h1 : w0.heap = w1.heap) (hn : g0 ≠ g) : Bk w2 g t cs :=
  Bk.chg (w := w0) (by unfold Bk; rw [h1]; exact h) hc (sf_ne _ _ hn)

set_option maxRecDepth 100000 in
set_option maxHeartbeats 8000000 in
theorem refPut_none (B : Nat) (l : Rows) (A : Option Addr) (c : Nat) (p : Key) (v : Int) (w : World) (hl : l.length ≤ 1000000) (hs : Short l) (hp : p.length ≤ 32) (hi : idx l (some p) = none) (hr : Row3 B w 3 A l.length c (rv l)) (hB : B ≤ w.heap.size) :
    Calls Try.prog 67 #[.slice A l.length c, .agg #[.int .u32 (adr p), .int .i64 p.length], .int .i64 v] w (RowsP B w A (l.take (before l p) ++ (p, v) :: l.drop (before l p))) := by
  obtain ⟨wB, hwB⟩ : ∃ wB, wB = w.alloc (.cells #[.int .u32 (adr p : Int), .int .i64 (p.length : Int)] 30) := ⟨_, rfl⟩
  have HB0 : Hid (Below w.heap.size w wB) := by rw [hwB]; exact (Below.refl _ _).alloc (Nat.le_refl _) _
  have hzB : wB.heap.size = w.heap.size + 1 := by rw [hwB]; simp
  have HX0 : Hid (Bk wB w.heap.size 30 #[.int .u32 (adr p : Int), .int .i64 (p.length : Int)]) := by rw [hwB]; exact Bk.new w _ _
  have HAt := Lib.hid (At_any B l A c (adr p) p.length (some p) (-1) wB hl hs (adr_lt hp) (kyOf_adr hp).symm (by rw [atI, hi]) (hr.bel HB0.out))
  obtain ⟨i0, hi0, hz0, hz1, hz2⟩ := info_parts info_row
  have Hi := Lib.hid hi0
  have Hz0 := Lib.hid hz0
  have Hz1 := Lib.hid hz1
  have Hz2 := Lib.hid hz2
  have HR := Lib.hid (hr.bel HB0.out)
  have hne : ∀ k (hk : k < l.length), l[k].1 ≠ p := fun k hk e => by
    have := List.findIdx?_eq_none_iff.1 (show l.findIdx? (fun r => r.1 == p) = none from hi) l[k] (List.getElem_mem hk)
    rw [e] at this; simp at this
  have hT := before_le l p
  have klo := rcut_lo A c l.length (before l p) hr.nil hr.cap hr.max hT
  obtain ⟨A5, c5, h5a, h5b, h5c, khi, h5r⟩ := rcut_hi A c l.length (before l p) hr.nil hr.cap hr.max hT
  have H5 := Lib.hid h5a
  have H5r := Lib.hid h5r
  have HBl := Lib.hid (fun k (h : k < before l p) (hk : k < l.length) => before_lt l p h hk)
  have HBa := Lib.hid (before_at l p)
  have HE : Hid (∀ w' A' c', Acc wB 47 3 w' A' (before l p + 1 + (l.length - before l p)) c' ([] ++ (rv l).take (before l p * 3) ++ r3 (p, v) ++ (rv l).drop (before l p * 3)) → RowsP B w A (l.take (before l p) ++ (p, v) :: l.drop (before l p)) (.returned (.slice A' (before l p + 1 + (l.length - before l p)) c')) w') := fun w' A' c' h => by
    have h2 : Acc w 47 3 w' A' _ c' _ := ⟨h.own, HB0.out.trans (h.bel.mono HB0.out.size), fun x hx => by have := h.low x hx; omega⟩
    exact h2.rows hB (by simp; omega) (by rw [rv_app, rv_cons, rv_take, rv_drop]; simp)
  have HSh := Lib.hid hs
  have HNe := Lib.hid hne
  clear hr hi hs h5a h5b h5c h5r hi0 hz0 hz1 hz2 hne
  generalize RowsP B w A (l.take (before l p) ++ (p, v) :: l.drop (before l p)) = Q at *
  generalize hTT : before l p = T0 at *
  clear hTT
  go_enter Try.func67, Try.ntmps67
  go_wp2_with fail
  rw [← hwB]
  refine HAt.out.mono ?_; rintro e w1 ⟨rfl, hb1⟩
  have HB1 := Lib.hid hb1
  clear hb1
  go_wp2_with fail
  go_loopw [9] (fun i wr => ∃ k : Nat, k ≤ T0 ∧ i = .int .i64 k ∧ Below wB.heap.size wB wr) (fun i _ => T0 - (intOf i).toNat)
  case atStart => exact ⟨0, Nat.zero_le _, rfl, HB1.out⟩
  case round =>
    obtain ⟨k, hk, rfl, hbr⟩ := hrel
    have HBr := Lib.hid hbr
    have hx := HX0.out.below hbr (by omega)
    have p0 := hx.cell 0
    have p1 := hx.cell 1
    have lb : w.heap.size < wr.drew.heap.size := hx.lt
    simp at p0 p1
    clear hbr hx HB1
    by_cases hlt : k < T0
    · have hkl : k < l.length := by omega
      obtain ⟨x0, x1, _⟩ := rv_at l k hkl
      obtain ⟨b, off, rfl, hb, _, c0⟩ := HR.out.cell hkl (by omega) x0
      obtain ⟨b', off', e', _, _, c1⟩ := HR.out.cell hkl (by omega) x1
      cases e'
      have q0 := (HBr.out.cell (p := ⟨b, off + k * 3, none⟩) hb).trans c0
      have q1 := (HBr.out.cell (p := ⟨b, off + k * 3 + 1, none⟩) hb).trans c1
      have lq : b < wr.drew.heap.size := Nat.lt_of_lt_of_le hb HBr.out.size
      have hsh := HSh.out l[k] (List.getElem_mem hkl)
      have HC := Lib.hid (fun w => Cmp_any l[k].1 p (-1) hsh hp (by rw [cmpZ, if_pos (HBl.out k hlt hkl)]) w)
      have hki : (k : Int) < (l.length : Int) := by omega
      clear x0 x1 c0 c1 hb hsh
      go_wp2_with fail
      go_region_held3 (fun w' => w'.cell? ⟨b, off + k * 3, none⟩ = some (.int .u32 (adr l[k].1 : Int)) ∧ w'.cell? ⟨b, off + k * 3 + 1, none⟩ = some (.int .i64 (l[k].1.length : Int)) ∧ w'.cell? ⟨w.heap.size, 0, none⟩ = some (.int .u32 (adr p : Int)) ∧ w'.cell? ⟨w.heap.size, 1, none⟩ = some (.int .i64 (p.length : Int))) (exact ⟨by go_simp, by go_simp, by go_simp, by go_simp⟩) (first
        | (go_at_call 106; refine (HC.out _).mono ?_; rintro e w2 ⟨rfl, hb⟩; go_must (have HB2 : Hid (Below wr.heap.size wr w2) := ((Below.refl _ _).drew).trans hb); go_must (have q0 := (hb.cell (p := ⟨b, off + k * 3, none⟩) lq).trans q0); go_must (have q1 := (hb.cell (p := ⟨b, off + k * 3 + 1, none⟩) lq).trans q1); go_must (have p0 := (hb.cell (p := ⟨w.heap.size, 0, none⟩) lb).trans p0); go_must (have p1 := (hb.cell (p := ⟨w.heap.size, 1, none⟩) lb).trans p1); clear hb))
      go_wp2_with fail
      go_roundw
      case rel => exact ⟨k + 1, by omega, by go_num, HBr.out.trans (HB2.out.mono HBr.out.size)⟩
      case measure => simp [intOf]; omega
    · obtain rfl : k = T0 := by omega
      have hl1 : (l.length : Int) ≤ 1000000 := by omega
      clear hlt hk
      by_cases hkl : k < l.length
      case' pos =>
        obtain ⟨x0, x1, _⟩ := rv_at l k hkl
        obtain ⟨b, off, rfl, hb, _, c0⟩ := HR.out.cell hkl (by omega) x0
        obtain ⟨b', off', e', _, _, c1⟩ := HR.out.cell hkl (by omega) x1
        cases e'
        have q0 := (HBr.out.cell (p := ⟨b, off + k * 3, none⟩) hb).trans c0
        have q1 := (HBr.out.cell (p := ⟨b, off + k * 3 + 1, none⟩) hb).trans c1
        have lq : b < wr.drew.heap.size := Nat.lt_of_lt_of_le hb HBr.out.size
        have hsh := HSh.out l[k] (List.getElem_mem hkl)
        have HC := Lib.hid (fun w => Cmp_any l[k].1 p 1 hsh hp (by rw [cmpZ, HBa.out hkl, if_neg (by simp), if_neg (HNe.out k hkl)]) w)
        have hki : (k : Int) < (l.length : Int) := by omega
        clear x0 x1 c0 c1 hb hsh
        go_wp2_with fail
        go_region_held3 (fun w' => w'.cell? ⟨b, off + k * 3, none⟩ = some (.int .u32 (adr l[k].1 : Int)) ∧ w'.cell? ⟨b, off + k * 3 + 1, none⟩ = some (.int .i64 (l[k].1.length : Int)) ∧ w'.cell? ⟨w.heap.size, 0, none⟩ = some (.int .u32 (adr p : Int)) ∧ w'.cell? ⟨w.heap.size, 1, none⟩ = some (.int .i64 (p.length : Int))) (exact ⟨by go_simp, by go_simp, by go_simp, by go_simp⟩) (first
          | (go_at_call 106; refine (HC.out _).mono ?_; rintro e w2 ⟨rfl, hb⟩; go_must (have HB2 : Hid (Below wr.heap.size wr w2) := ((Below.refl _ _).drew).trans hb); go_must (have q0 := (hb.cell (p := ⟨b, off + k * 3, none⟩) lq).trans q0); go_must (have q1 := (hb.cell (p := ⟨b, off + k * 3 + 1, none⟩) lq).trans q1); go_must (have p0 := (hb.cell (p := ⟨w.heap.size, 0, none⟩) lb).trans p0); go_must (have p1 := (hb.cell (p := ⟨w.heap.size, 1, none⟩) lb).trans p1); clear hb))
        have HBw : Hid (Below wB.heap.size wB w2) := HBr.out.trans (HB2.out.mono HBr.out.size)
        clear HB2 q0 q1 lq HC hki
        go_wp2_with fail
      case' neg =>
        have hke : Hid (k = l.length) := by rw [Hid]; omega
        have dk : decide ((k : Int) < (l.length : Int)) = false := by simp; omega
        go_wp2_with fail
        go_quiet (fail)
        have HBw : Hid (Below wB.heap.size wB (wr.drewN nq)) := below_drewN HBr.out _
        have hxx := HX0.out.below HBw.out (by omega)
        have p0 : (wr.drewN nq).cell? ⟨w.heap.size, 0, none⟩ = some (.int .u32 (adr p : Int)) := (hxx.cell 0).trans (by simp)
        have p1 : (wr.drewN nq).cell? ⟨w.heap.size, 1, none⟩ = some (.int .i64 (p.length : Int)) := (hxx.cell 1).trans (by simp)
        clear hxx
        generalize wr.drewN nq = w2 at *
        go_wp2_with fail
      all_goals
        first | (generalize hTk : k = T0 at *; clear hTk) | skip
        have lB : w.heap.size < wB.heap.size := by omega
        have lb2 : w.heap.size < w2.heap.size := by have := HBw.out.size; omega
        have pB0 : Hid (wB.cell? ⟨w.heap.size, 0, none⟩ = some (.int .u32 (adr p : Int))) := HX0.out.cell 0
        have pB1 : Hid (wB.cell? ⟨w.heap.size, 1, none⟩ = some (.int .i64 (p.length : Int))) := HX0.out.cell 1
        have HA0a : Hid (Acc wB 47 3 (w2.alloc (.cells #[] 47)) (some ⟨w2.heap.size, 0, none⟩) 0 0 []) := Acc.start (HBw.out.alloc HBw.out.size _) (Bk.new w2 _ _) HBw.out.size
        have HA0b : Hid (Acc wB 47 3 ((w2.alloc (.cells #[] 47)).alloc (.cells #[.int .u32 (adr p : Int), .int .i64 (p.length : Int), .int .i64 v] 47)) (some ⟨w2.heap.size, 0, none⟩) 0 0 []) := HA0a.out.go ((Below.refl _ _).alloc (Nat.le_refl _) _)
        have HR0b : Hid (Bk ((w2.alloc (.cells #[] 47)).alloc (.cells #[.int .u32 (adr p : Int), .int .i64 (p.length : Int), .int .i64 v] 47)) (w2.heap.size + 1) 47 #[.int .u32 (adr p : Int), .int .i64 (p.length : Int), .int .i64 v]) := by have := Bk.new (w2.alloc (.cells #[] 47)) 47 #[.int .u32 (adr p : Int), .int .i64 (p.length : Int), .int .i64 v]; rwa [World.size_alloc] at this
        have HA0c : Hid (Acc wB 47 3 ((w2.alloc (.cells #[.int .u32 (adr p : Int), .int .i64 (p.length : Int), .int .i64 v] 47)).alloc (.cells #[] 47)) (some ⟨w2.heap.size + 1, 0, none⟩) 0 0 []) := by
          have hb : Below wB.heap.size wB (w2.alloc (.cells #[.int .u32 (adr p : Int), .int .i64 (p.length : Int), .int .i64 v] 47)) := HBw.out.alloc HBw.out.size _
          have := Acc.start (e := 47) (size := 3) (hb.alloc hb.size (.cells #[] 47)) (Bk.new _ _ _) hb.size
          rwa [World.size_alloc] at this
        have HR0c : Hid (Bk ((w2.alloc (.cells #[.int .u32 (adr p : Int), .int .i64 (p.length : Int), .int .i64 v] 47)).alloc (.cells #[] 47)) w2.heap.size 47 #[.int .u32 (adr p : Int), .int .i64 (p.length : Int), .int .i64 v]) := (Bk.new w2 _ _).alloc _
        go_region_held3 (fun w' => w'.cell? ⟨w.heap.size, 0, none⟩ = some (.int .u32 (adr p : Int)) ∧ w'.cell? ⟨w.heap.size, 1, none⟩ = some (.int .i64 (p.length : Int))) (exact ⟨by go_simp, by go_simp⟩) (first
          | (refine step_app _ (by rfl) (.tmp 40) (.tmp 43) _ (by rfl) 47 i0 _ 3 24 Try.underlying25 Hi.out Hz0.out Hz1.out Hz2.out rfl (by omega) (some ⟨w2.heap.size, 0, none⟩) 0 0 [] (by rfl) HA0a.out.own _ _ T0 c HR.out.nil ((rv l).take (T0 * 3)) (by rfl) (HA0a.out.rg (HR.out.rg.take (by omega))) (fun u hu => rv_one l u (List.mem_of_mem_take hu)) (by unfold maxLen; omega) (by omega) ?_; intro A3 c3 w3 ho3 hc3 hf3; go_must (rw [Nat.zero_add T0] at ho3 ⊢); go_must (have HA3 := Lib.hid (Acc.ap hc3 hf3 ho3 HA0a.out rfl rfl rfl rfl)); go_must (have p0 := (HA3.out.bel.cell (p := ⟨w.heap.size, 0, none⟩) lB).trans pB0.out); go_must (have p1 := (HA3.out.bel.cell (p := ⟨w.heap.size, 1, none⟩) lB).trans pB1.out); go_must (have lb3 : w.heap.size < w3.heap.size := Nat.lt_of_lt_of_le lB HA3.out.bel.size); clear ho3 hc3 hf3)
          | (refine step_app _ (by rfl) (.tmp 40) (.tmp 43) _ (by rfl) 47 i0 _ 3 24 Try.underlying25 Hi.out Hz0.out Hz1.out Hz2.out rfl (by omega) (some ⟨w2.heap.size, 0, none⟩) 0 0 [] (by rfl) HA0b.out.own _ _ T0 c HR.out.nil ((rv l).take (T0 * 3)) (by rfl) (HA0b.out.rg (HR.out.rg.take (by omega))) (fun u hu => rv_one l u (List.mem_of_mem_take hu)) (by unfold maxLen; omega) (by omega) ?_; intro A3 c3 w3 ho3 hc3 hf3; go_must (rw [Nat.zero_add T0] at ho3 ⊢); go_must (have HA3 := Lib.hid (Acc.ap hc3 hf3 ho3 HA0b.out rfl rfl rfl rfl)); go_must (have p0 := (HA3.out.bel.cell (p := ⟨w.heap.size, 0, none⟩) lB).trans pB0.out); go_must (have p1 := (HA3.out.bel.cell (p := ⟨w.heap.size, 1, none⟩) lB).trans pB1.out); go_must (have lb3 : w.heap.size < w3.heap.size := Nat.lt_of_lt_of_le lB HA3.out.bel.size); go_must (have HR3 := Lib.hid (Bk.ap hc3 HR0b.out rfl (by omega))); clear ho3 hc3 hf3)
          | (refine step_app _ (by rfl) (.tmp 40) (.tmp 43) _ (by rfl) 47 i0 _ 3 24 Try.underlying25 Hi.out Hz0.out Hz1.out Hz2.out rfl (by omega) (some ⟨(w2.heap.size + 1), 0, none⟩) 0 0 [] (by rfl) HA0c.out.own _ _ T0 c HR.out.nil ((rv l).take (T0 * 3)) (by rfl) (HA0c.out.rg (HR.out.rg.take (by omega))) (fun u hu => rv_one l u (List.mem_of_mem_take hu)) (by unfold maxLen; omega) (by omega) ?_; intro A3 c3 w3 ho3 hc3 hf3; go_must (rw [Nat.zero_add T0] at ho3 ⊢); go_must (have HA3 := Lib.hid (Acc.ap hc3 hf3 ho3 HA0c.out rfl rfl rfl rfl)); go_must (have p0 := (HA3.out.bel.cell (p := ⟨w.heap.size, 0, none⟩) lB).trans pB0.out); go_must (have p1 := (HA3.out.bel.cell (p := ⟨w.heap.size, 1, none⟩) lB).trans pB1.out); go_must (have lb3 : w.heap.size < w3.heap.size := Nat.lt_of_lt_of_le lB HA3.out.bel.size); go_must (have HR3 := Lib.hid (Bk.ap hc3 HR0c.out rfl (by omega))); clear ho3 hc3 hf3)
          | ((have HA3x : Hid (Acc wB 47 3 (w3.alloc (.cells #[.int .u32 (adr p : Int), .int .i64 (p.length : Int), .int .i64 v] 47)) A3 T0 c3 ([] ++ ((rv l).take (T0 * 3)))) := HA3.out.go ((Below.refl _ _).alloc (Nat.le_refl _) _)); refine step_app _ (by rfl) (.tmp 44) (.tmp 48) _ (by rfl) 47 i0 _ 3 24 Try.underlying25 Hi.out Hz0.out Hz1.out Hz2.out rfl (by omega) A3 T0 c3 ([] ++ ((rv l).take (T0 * 3))) (by rfl) HA3x.out.own _ (some ⟨w3.heap.size, 0, none⟩) 1 1 (by intro h; cases h) [.int .u32 (adr p : Int), .int .i64 (p.length : Int), .int .i64 v] (by rfl) (Bk.new w3 _ _).rg1 (by intro u hu; simp at hu; rcases hu with rfl | rfl | rfl <;> rfl) (by unfold maxLen; omega) (by omega) ?_; intro A4 c4 w4 ho4 hc4 hf4; go_must (have HA4 : Hid (Acc wB 47 3 w4 A4 (T0 + 1) c4 ([] ++ ((rv l).take (T0 * 3)) ++ [.int .u32 (adr p : Int), .int .i64 (p.length : Int), .int .i64 v])) := Acc.ap hc4 hf4 ho4 HA3x.out rfl rfl rfl rfl); go_must (have p0 := (HA4.out.bel.cell (p := ⟨w.heap.size, 0, none⟩) lB).trans pB0.out); go_must (have p1 := (HA4.out.bel.cell (p := ⟨w.heap.size, 1, none⟩) lB).trans pB1.out); go_must (have lb4 : w.heap.size < w4.heap.size := Nat.lt_of_lt_of_le lB HA4.out.bel.size); clear ho4 hc4 hf4)
          | (refine step_app _ (by rfl) (.tmp 44) (.tmp 48) _ (by rfl) 47 i0 _ 3 24 Try.underlying25 Hi.out Hz0.out Hz1.out Hz2.out rfl (by omega) A3 T0 c3 ([] ++ ((rv l).take (T0 * 3))) (by rfl) HA3.out.own _ (some ⟨w2.heap.size + 1, 0, none⟩) 1 1 (by intro h; cases h) [.int .u32 (adr p : Int), .int .i64 (p.length : Int), .int .i64 v] (by rfl) HR3.out.rg1 (by intro u hu; simp at hu; rcases hu with rfl | rfl | rfl <;> rfl) (by unfold maxLen; omega) (by omega) ?_; intro A4 c4 w4 ho4 hc4 hf4; go_must (have HA4 : Hid (Acc wB 47 3 w4 A4 (T0 + 1) c4 ([] ++ ((rv l).take (T0 * 3)) ++ [.int .u32 (adr p : Int), .int .i64 (p.length : Int), .int .i64 v])) := Acc.ap hc4 hf4 ho4 HA3.out rfl rfl rfl rfl); go_must (have p0 := (HA4.out.bel.cell (p := ⟨w.heap.size, 0, none⟩) lB).trans pB0.out); go_must (have p1 := (HA4.out.bel.cell (p := ⟨w.heap.size, 1, none⟩) lB).trans pB1.out); go_must (have lb4 : w.heap.size < w4.heap.size := Nat.lt_of_lt_of_le lB HA4.out.bel.size); clear ho4 hc4 hf4)
          | (refine step_app _ (by rfl) (.tmp 44) (.tmp 48) _ (by rfl) 47 i0 _ 3 24 Try.underlying25 Hi.out Hz0.out Hz1.out Hz2.out rfl (by omega) A3 T0 c3 ([] ++ ((rv l).take (T0 * 3))) (by rfl) HA3.out.own _ (some ⟨w2.heap.size, 0, none⟩) 1 1 (by intro h; cases h) [.int .u32 (adr p : Int), .int .i64 (p.length : Int), .int .i64 v] (by rfl) HR3.out.rg1 (by intro u hu; simp at hu; rcases hu with rfl | rfl | rfl <;> rfl) (by unfold maxLen; omega) (by omega) ?_; intro A4 c4 w4 ho4 hc4 hf4; go_must (have HA4 : Hid (Acc wB 47 3 w4 A4 (T0 + 1) c4 ([] ++ ((rv l).take (T0 * 3)) ++ [.int .u32 (adr p : Int), .int .i64 (p.length : Int), .int .i64 v])) := Acc.ap hc4 hf4 ho4 HA3.out rfl rfl rfl rfl); go_must (have p0 := (HA4.out.bel.cell (p := ⟨w.heap.size, 0, none⟩) lB).trans pB0.out); go_must (have p1 := (HA4.out.bel.cell (p := ⟨w.heap.size, 1, none⟩) lB).trans pB1.out); go_must (have lb4 : w.heap.size < w4.heap.size := Nat.lt_of_lt_of_le lB HA4.out.bel.size); clear ho4 hc4 hf4)
          | (refine step_app _ (by rfl) (.tmp 49) (.tmp 52) _ (by rfl) 47 i0 _ 3 24 Try.underlying25 Hi.out Hz0.out Hz1.out Hz2.out rfl (by omega) A4 (T0 + 1) c4 ([] ++ ((rv l).take (T0 * 3)) ++ [.int .u32 (adr p : Int), .int .i64 (p.length : Int), .int .i64 v]) (by rfl) HA4.out.own _ A5 (l.length - T0) c5 H5.out ((rv l).drop (T0 * 3)) (by rfl) (H5r.out _ _ _ (HA4.out.rg HR.out.rg)) (fun u hu => rv_one l u (List.mem_of_mem_drop hu)) (by unfold maxLen; omega) (by omega) ?_; intro A5 c5 w5 ho5 hc5 hf5; go_must (have HA5 := Lib.hid (Acc.ap hc5 hf5 ho5 HA4.out rfl rfl rfl rfl)); go_must (have p0 := (HA5.out.bel.cell (p := ⟨w.heap.size, 0, none⟩) lB).trans pB0.out); go_must (have p1 := (HA5.out.bel.cell (p := ⟨w.heap.size, 1, none⟩) lB).trans pB1.out); go_must (have lb5 : w.heap.size < w5.heap.size := Nat.lt_of_lt_of_le lB HA5.out.bel.size); clear ho5 hc5 hf5))
        all_goals
          go_wp2_with fail
          exact HE.out _ _ _ HA5.out
end Go.Proofs.Ytbhhkjkjihenoaa.tri
