/- What confluenceref08.Same returns. Condition: at most 10^6 pieces and numbers together. -/
import Derived.Test.YtaeeeinpelfppaaGreatAttrAll
import Derived.Test.YtaeeeinpelfppaaGreatRefAsn
namespace Go.Proofs.YtaeeeinpelfppaaGreat.attr
open Go.RowKit Go.Proofs.YtaeeeinpelfppaaGreat.kit Go.Proofs.YtaeeeinpelfppaaGreat.mem Go.Proofs.YtaeeeinpelfppaaGreat.foot Go.Proofs.YtaeeeinpelfppaaGreat.nums Go.Proofs.YtaeeeinpelfppaaGreat.asn Go.Proofs.YtaeeeinpelfppaaGreat.pth
set_option linter.unusedVariables false
set_option linter.unusedSimpArgs false
set_option maxRecDepth 100000 in
set_option maxHeartbeats 8000000 in
theorem refSame_any (a b : Atr) (Ap Ac Bp Bc : Option Addr) (cp cc dp dc : Nat) (G H : Foot) (w : World) (z : Bool) (hz : z = true ↔ a = b) (hm : Am w G a Ap cp Ac cc) (hn : Am w H b Bp dp Bc dc) (hp : nsz a.path ≤ 1000000) (hq : nsz b.path ≤ 1000000) (hcm : a.comms.length ≤ 1000000) (hdm : b.comms.length ≤ 1000000) :
    Calls Tryz.prog 34 #[.agg (atc a Ap cp Ac cc).toArray, .agg (atc b Bp dp Bc dc).toArray] w fun e w' => e = .returned (.bool z) ∧ Below w.heap.size w w' := by
  have HPs : Hid (∀ w', Below w.heap.size w w' → Calls Tryz.prog 67 #[.slice Ap a.path.length cp, .slice Bp b.path.length dp] w' fun e w2 => e = .returned (.bool (decide (a.path = b.path))) ∧ Below w'.heap.size w' w2) := fun w' hb => (refSame04_q Ap Bp cp dp a.path b.path G H w' hp hq (hm.sp.els.bel keeps_seg hb) (hn.sp.els.bel keeps_seg hb)).mono fun _ _ h => ⟨h.1, h.2.bel⟩
  have HEq : Hid (∀ w', Below w.heap.size w w' → Calls Tryz.prog 68 #[.slice Ac a.comms.length cc, .slice Bc b.comms.length dc] w' fun e w2 => e = .returned (.bool (decide (a.comms = b.comms))) ∧ Below w'.heap.size w' w2) := fun w' hb => refSame02_any Ac Bc cc dc a.comms b.comms G H w' hcm (Rg.bel hm.sn.us hb) (Rg.bel hn.sn.us hb)
  have HZ := Lib.hid hz
  have HNe : Hid ((a.has ≠ b.has ∨ a.orig ≠ b.orig ∨ a.path ≠ b.path ∨ a.hop ≠ b.hop ∨ a.med ≠ b.med ∨ a.pref ≠ b.pref ∨ a.aas ≠ b.aas ∨ a.aid ≠ b.aid ∨ a.comms ≠ b.comms) → z = false) := fun h => by
    rw [← Bool.not_eq_true, HZ.out]
    rintro rfl
    simp at h
  have HEe : Hid ((a.has = b.has ∧ a.orig = b.orig ∧ a.hop = b.hop ∧ a.med = b.med ∧ a.pref = b.pref ∧ a.aas = b.aas ∧ a.aid = b.aid) → z = (decide (a.path = b.path) && decide (a.comms = b.comms))) := fun ⟨h0, h1, h3, h4, h5, h6, h7⟩ => by
    rw [Bool.eq_iff_iff, HZ.out, Bool.and_eq_true, decide_eq_true_iff, decide_eq_true_iff]
    exact ⟨fun e => by subst e; exact ⟨rfl, rfl⟩, fun h => atr_ext h0 h1 h.1 h3 h4 h5 h6 h7 h.2⟩
  clear hz hm hn HZ
  have HB : Hid (Below w.heap.size w ((w.alloc (.cells (atc a Ap cp Ac cc).toArray 29)).alloc (.cells (atc b Bp dp Bc dc).toArray 29))) := ((Below.refl _ _).alloc (Nat.le_refl _) _).alloc (by simp) _
  have hb1 : Bk ((w.alloc (.cells (atc a Ap cp Ac cc).toArray 29)).alloc (.cells (atc b Bp dp Bc dc).toArray 29)) w.heap.size 29 (atc a Ap cp Ac cc).toArray := (Bk.new w _ _).alloc _
  have hb2 : Bk ((w.alloc (.cells (atc a Ap cp Ac cc).toArray 29)).alloc (.cells (atc b Bp dp Bc dc).toArray 29)) (w.heap.size + 1) 29 (atc b Bp dp Bc dc).toArray := by
    have h := Bk.new (w.alloc (.cells (atc a Ap cp Ac cc).toArray 29)) 29 (atc b Bp dp Bc dc).toArray
    have e2 : (w.alloc (.cells (atc a Ap cp Ac cc).toArray 29)).heap.size = w.heap.size + 1 := by simp
    rwa [e2] at h
  have p0 : ((w.alloc (.cells (atc a Ap cp Ac cc).toArray 29)).alloc (.cells (atc b Bp dp Bc dc).toArray 29)).cell? ⟨w.heap.size, 0, none⟩ = some (.int .i64 a.has) := by rw [hb1.cell]; rfl
  have q0 : ((w.alloc (.cells (atc a Ap cp Ac cc).toArray 29)).alloc (.cells (atc b Bp dp Bc dc).toArray 29)).cell? ⟨w.heap.size + 1, 0, none⟩ = some (.int .i64 b.has) := by rw [hb2.cell]; rfl
  have p1 : ((w.alloc (.cells (atc a Ap cp Ac cc).toArray 29)).alloc (.cells (atc b Bp dp Bc dc).toArray 29)).cell? ⟨w.heap.size, 1, none⟩ = some (.int .i64 a.orig) := by rw [hb1.cell]; rfl
  have q1 : ((w.alloc (.cells (atc a Ap cp Ac cc).toArray 29)).alloc (.cells (atc b Bp dp Bc dc).toArray 29)).cell? ⟨w.heap.size + 1, 1, none⟩ = some (.int .i64 b.orig) := by rw [hb2.cell]; rfl
  have p2 : ((w.alloc (.cells (atc a Ap cp Ac cc).toArray 29)).alloc (.cells (atc b Bp dp Bc dc).toArray 29)).cell? ⟨w.heap.size, 2, none⟩ = some (.slice Ap a.path.length cp) := by rw [hb1.cell]; rfl
  have q2 : ((w.alloc (.cells (atc a Ap cp Ac cc).toArray 29)).alloc (.cells (atc b Bp dp Bc dc).toArray 29)).cell? ⟨w.heap.size + 1, 2, none⟩ = some (.slice Bp b.path.length dp) := by rw [hb2.cell]; rfl
  have p3 : ((w.alloc (.cells (atc a Ap cp Ac cc).toArray 29)).alloc (.cells (atc b Bp dp Bc dc).toArray 29)).cell? ⟨w.heap.size, 3, none⟩ = some (.int .u32 a.hop) := by rw [hb1.cell]; rfl
  have q3 : ((w.alloc (.cells (atc a Ap cp Ac cc).toArray 29)).alloc (.cells (atc b Bp dp Bc dc).toArray 29)).cell? ⟨w.heap.size + 1, 3, none⟩ = some (.int .u32 b.hop) := by rw [hb2.cell]; rfl
  have p4 : ((w.alloc (.cells (atc a Ap cp Ac cc).toArray 29)).alloc (.cells (atc b Bp dp Bc dc).toArray 29)).cell? ⟨w.heap.size, 4, none⟩ = some (.int .u32 a.med) := by rw [hb1.cell]; rfl
  have q4 : ((w.alloc (.cells (atc a Ap cp Ac cc).toArray 29)).alloc (.cells (atc b Bp dp Bc dc).toArray 29)).cell? ⟨w.heap.size + 1, 4, none⟩ = some (.int .u32 b.med) := by rw [hb2.cell]; rfl
  have p5 : ((w.alloc (.cells (atc a Ap cp Ac cc).toArray 29)).alloc (.cells (atc b Bp dp Bc dc).toArray 29)).cell? ⟨w.heap.size, 5, none⟩ = some (.int .u32 a.pref) := by rw [hb1.cell]; rfl
  have q5 : ((w.alloc (.cells (atc a Ap cp Ac cc).toArray 29)).alloc (.cells (atc b Bp dp Bc dc).toArray 29)).cell? ⟨w.heap.size + 1, 5, none⟩ = some (.int .u32 b.pref) := by rw [hb2.cell]; rfl
  have p6 : ((w.alloc (.cells (atc a Ap cp Ac cc).toArray 29)).alloc (.cells (atc b Bp dp Bc dc).toArray 29)).cell? ⟨w.heap.size, 6, none⟩ = some (.int .u32 a.aas) := by rw [hb1.cell]; rfl
  have q6 : ((w.alloc (.cells (atc a Ap cp Ac cc).toArray 29)).alloc (.cells (atc b Bp dp Bc dc).toArray 29)).cell? ⟨w.heap.size + 1, 6, none⟩ = some (.int .u32 b.aas) := by rw [hb2.cell]; rfl
  have p7 : ((w.alloc (.cells (atc a Ap cp Ac cc).toArray 29)).alloc (.cells (atc b Bp dp Bc dc).toArray 29)).cell? ⟨w.heap.size, 7, none⟩ = some (.int .u32 a.aid) := by rw [hb1.cell]; rfl
  have q7 : ((w.alloc (.cells (atc a Ap cp Ac cc).toArray 29)).alloc (.cells (atc b Bp dp Bc dc).toArray 29)).cell? ⟨w.heap.size + 1, 7, none⟩ = some (.int .u32 b.aid) := by rw [hb2.cell]; rfl
  have p8 : ((w.alloc (.cells (atc a Ap cp Ac cc).toArray 29)).alloc (.cells (atc b Bp dp Bc dc).toArray 29)).cell? ⟨w.heap.size, 8, none⟩ = some (.slice Ac a.comms.length cc) := by rw [hb1.cell]; rfl
  have q8 : ((w.alloc (.cells (atc a Ap cp Ac cc).toArray 29)).alloc (.cells (atc b Bp dp Bc dc).toArray 29)).cell? ⟨w.heap.size + 1, 8, none⟩ = some (.slice Bc b.comms.length dc) := by rw [hb2.cell]; rfl
  obtain ⟨w1, hw1⟩ : ∃ w1, w1 = (w.alloc (.cells (atc a Ap cp Ac cc).toArray 29)).alloc (.cells (atc b Bp dp Bc dc).toArray 29) := ⟨_, rfl⟩
  rw [← hw1] at hb1 hb2 HB p0 p1 p2 p3 p4 p5 p6 p7 p8 q0 q1 q2 q3 q4 q5 q6 q7 q8
  have HK1 := Lib.hid hb1
  have HK2 := Lib.hid hb2
  clear hb1 hb2
  generalize a.path.length = na at *
  generalize b.path.length = nb at *
  generalize a.comms.length = ma at *
  generalize b.comms.length = mb at *
  generalize atc a Ap cp Ac cc = ca at *
  generalize atc b Bp dp Bc dc = cb at *
  have HY1 : Hid (decide (a.path = b.path) = false → a.path ≠ b.path) := fun h => of_decide_eq_false h
  generalize decide (a.path = b.path) = y1 at *
  generalize decide (a.comms = b.comms) = y2 at *
  generalize a.has = a0 at *
  generalize b.has = b0 at *
  generalize a.orig = a1 at *
  generalize b.orig = b1 at *
  generalize a.hop = a3 at *
  generalize b.hop = b3 at *
  generalize a.med = a4 at *
  generalize b.med = b4 at *
  generalize a.pref = a5 at *
  generalize b.pref = b5 at *
  generalize a.aas = a6 at *
  generalize b.aas = b6 at *
  generalize a.aid = a7 at *
  generalize b.aid = b7 at *
  clear hp hq hcm hdm
  go_enter Tryz.func34, Tryz.ntmps34
  go_upto_region 1 with fail
  rw [← hw1]
  clear hw1
  have HU : Hid (∀ w', Below w1.heap.size w1 w' → w'.cell? ⟨w.heap.size, 3, none⟩ = w1.cell? ⟨w.heap.size, 3, none⟩ ∧ w'.cell? ⟨w.heap.size + 1, 3, none⟩ = w1.cell? ⟨w.heap.size + 1, 3, none⟩ ∧ w'.cell? ⟨w.heap.size, 4, none⟩ = w1.cell? ⟨w.heap.size, 4, none⟩ ∧ w'.cell? ⟨w.heap.size + 1, 4, none⟩ = w1.cell? ⟨w.heap.size + 1, 4, none⟩ ∧ w'.cell? ⟨w.heap.size, 5, none⟩ = w1.cell? ⟨w.heap.size, 5, none⟩ ∧ w'.cell? ⟨w.heap.size + 1, 5, none⟩ = w1.cell? ⟨w.heap.size + 1, 5, none⟩ ∧ w'.cell? ⟨w.heap.size, 6, none⟩ = w1.cell? ⟨w.heap.size, 6, none⟩ ∧ w'.cell? ⟨w.heap.size + 1, 6, none⟩ = w1.cell? ⟨w.heap.size + 1, 6, none⟩ ∧ w'.cell? ⟨w.heap.size, 7, none⟩ = w1.cell? ⟨w.heap.size, 7, none⟩ ∧ w'.cell? ⟨w.heap.size + 1, 7, none⟩ = w1.cell? ⟨w.heap.size + 1, 7, none⟩ ∧ w'.cell? ⟨w.heap.size, 8, none⟩ = w1.cell? ⟨w.heap.size, 8, none⟩ ∧ w'.cell? ⟨w.heap.size + 1, 8, none⟩ = w1.cell? ⟨w.heap.size + 1, 8, none⟩) := fun w' hb => ⟨hb.cell (p := ⟨w.heap.size, 3, none⟩) HK1.out.lt, hb.cell (p := ⟨w.heap.size + 1, 3, none⟩) HK2.out.lt, hb.cell (p := ⟨w.heap.size, 4, none⟩) HK1.out.lt, hb.cell (p := ⟨w.heap.size + 1, 4, none⟩) HK2.out.lt, hb.cell (p := ⟨w.heap.size, 5, none⟩) HK1.out.lt, hb.cell (p := ⟨w.heap.size + 1, 5, none⟩) HK2.out.lt, hb.cell (p := ⟨w.heap.size, 6, none⟩) HK1.out.lt, hb.cell (p := ⟨w.heap.size + 1, 6, none⟩) HK2.out.lt, hb.cell (p := ⟨w.heap.size, 7, none⟩) HK1.out.lt, hb.cell (p := ⟨w.heap.size + 1, 7, none⟩) HK2.out.lt, hb.cell (p := ⟨w.heap.size, 8, none⟩) HK1.out.lt, hb.cell (p := ⟨w.heap.size + 1, 8, none⟩) HK2.out.lt⟩
  have HP1 := Lib.hid (HPs.out w1 HB.out)
  by_cases h : a0 = b0
  case' neg =>
    have HZf := Lib.hid (HNe.out (.inl h))
    have d0 : (a0 == b0) = false := by rw [beq_eq_false_iff_ne]; exact h
    clear HEe
    go_wp2_with fail
    go_ret
    exact ⟨by rw [HZf.out]; rfl, HB.out⟩
  case' pos =>
  subst h
  by_cases h : a1 = b1
  case' neg =>
    have HZf := Lib.hid (HNe.out (.inr (.inl h)))
    have d1 : (a1 == b1) = false := by rw [beq_eq_false_iff_ne]; exact h
    clear HEe
    go_wp2_with fail
    go_ret
    exact ⟨by rw [HZf.out]; rfl, HB.out⟩
  case' pos =>
  subst h
  have HPf : Hid (y1 = false → z = false) := fun h => HNe.out (.inr (.inr (.inl (HY1.out h))))
  rcases y1 with _ | _
  · have HZf := Lib.hid (HPf.out rfl)
    go_wp2_with (go_at_call 67; refine HP1.out.mono ?_; rintro e w2 ⟨rfl, hb2⟩; have HB2 := Lib.hid (HB.out.trans (hb2.mono HB.out.size)); obtain ⟨u3, v3, u4, v4, u5, v5, u6, v6, u7, v7, u8, v8⟩ := HU.out w2 hb2; replace u3 := u3.trans p3; replace v3 := v3.trans q3; replace u4 := u4.trans p4; replace v4 := v4.trans q4; replace u5 := u5.trans p5; replace v5 := v5.trans q5; replace u6 := u6.trans p6; replace v6 := v6.trans q6; replace u7 := u7.trans p7; replace v7 := v7.trans q7; replace u8 := u8.trans p8; replace v8 := v8.trans q8; clear hb2)
    go_ret
    exact ⟨by rw [HZf.out]; rfl, HB2.out⟩
  by_cases h : a3 = b3
  case' neg =>
    have HZf := Lib.hid (HNe.out (.inr (.inr (.inr (.inl h)))))
    have d3 : (a3 == b3) = false := by rw [beq_eq_false_iff_ne]; exact h
    clear HEe
    go_wp2_with (go_at_call 67; refine HP1.out.mono ?_; rintro e w2 ⟨rfl, hb2⟩; have HB2 := Lib.hid (HB.out.trans (hb2.mono HB.out.size)); obtain ⟨u3, v3, u4, v4, u5, v5, u6, v6, u7, v7, u8, v8⟩ := HU.out w2 hb2; replace u3 := u3.trans p3; replace v3 := v3.trans q3; replace u4 := u4.trans p4; replace v4 := v4.trans q4; replace u5 := u5.trans p5; replace v5 := v5.trans q5; replace u6 := u6.trans p6; replace v6 := v6.trans q6; replace u7 := u7.trans p7; replace v7 := v7.trans q7; replace u8 := u8.trans p8; replace v8 := v8.trans q8; clear hb2)
    go_ret
    exact ⟨by rw [HZf.out]; rfl, HB2.out⟩
  case' pos =>
  subst h
  by_cases h : a4 = b4
  case' neg =>
    have HZf := Lib.hid (HNe.out (.inr (.inr (.inr (.inr (.inl h))))))
    have d4 : (a4 == b4) = false := by rw [beq_eq_false_iff_ne]; exact h
    clear HEe
    go_wp2_with (go_at_call 67; refine HP1.out.mono ?_; rintro e w2 ⟨rfl, hb2⟩; have HB2 := Lib.hid (HB.out.trans (hb2.mono HB.out.size)); obtain ⟨u3, v3, u4, v4, u5, v5, u6, v6, u7, v7, u8, v8⟩ := HU.out w2 hb2; replace u3 := u3.trans p3; replace v3 := v3.trans q3; replace u4 := u4.trans p4; replace v4 := v4.trans q4; replace u5 := u5.trans p5; replace v5 := v5.trans q5; replace u6 := u6.trans p6; replace v6 := v6.trans q6; replace u7 := u7.trans p7; replace v7 := v7.trans q7; replace u8 := u8.trans p8; replace v8 := v8.trans q8; clear hb2)
    go_ret
    exact ⟨by rw [HZf.out]; rfl, HB2.out⟩
  case' pos =>
  subst h
  by_cases h : a5 = b5
  case' neg =>
    have HZf := Lib.hid (HNe.out (.inr (.inr (.inr (.inr (.inr (.inl h)))))))
    have d5 : (a5 == b5) = false := by rw [beq_eq_false_iff_ne]; exact h
    clear HEe
    go_wp2_with (go_at_call 67; refine HP1.out.mono ?_; rintro e w2 ⟨rfl, hb2⟩; have HB2 := Lib.hid (HB.out.trans (hb2.mono HB.out.size)); obtain ⟨u3, v3, u4, v4, u5, v5, u6, v6, u7, v7, u8, v8⟩ := HU.out w2 hb2; replace u3 := u3.trans p3; replace v3 := v3.trans q3; replace u4 := u4.trans p4; replace v4 := v4.trans q4; replace u5 := u5.trans p5; replace v5 := v5.trans q5; replace u6 := u6.trans p6; replace v6 := v6.trans q6; replace u7 := u7.trans p7; replace v7 := v7.trans q7; replace u8 := u8.trans p8; replace v8 := v8.trans q8; clear hb2)
    go_ret
    exact ⟨by rw [HZf.out]; rfl, HB2.out⟩
  case' pos =>
  subst h
  by_cases h : a6 = b6
  case' neg =>
    have HZf := Lib.hid (HNe.out (.inr (.inr (.inr (.inr (.inr (.inr (.inl h))))))))
    have d6 : (a6 == b6) = false := by rw [beq_eq_false_iff_ne]; exact h
    clear HEe
    go_wp2_with (go_at_call 67; refine HP1.out.mono ?_; rintro e w2 ⟨rfl, hb2⟩; have HB2 := Lib.hid (HB.out.trans (hb2.mono HB.out.size)); obtain ⟨u3, v3, u4, v4, u5, v5, u6, v6, u7, v7, u8, v8⟩ := HU.out w2 hb2; replace u3 := u3.trans p3; replace v3 := v3.trans q3; replace u4 := u4.trans p4; replace v4 := v4.trans q4; replace u5 := u5.trans p5; replace v5 := v5.trans q5; replace u6 := u6.trans p6; replace v6 := v6.trans q6; replace u7 := u7.trans p7; replace v7 := v7.trans q7; replace u8 := u8.trans p8; replace v8 := v8.trans q8; clear hb2)
    go_ret
    exact ⟨by rw [HZf.out]; rfl, HB2.out⟩
  case' pos =>
  subst h
  by_cases h : a7 = b7
  case' neg =>
    have HZf := Lib.hid (HNe.out (.inr (.inr (.inr (.inr (.inr (.inr (.inr (.inl h)))))))))
    have d7 : (a7 == b7) = false := by rw [beq_eq_false_iff_ne]; exact h
    clear HEe
    go_wp2_with (go_at_call 67; refine HP1.out.mono ?_; rintro e w2 ⟨rfl, hb2⟩; have HB2 := Lib.hid (HB.out.trans (hb2.mono HB.out.size)); obtain ⟨u3, v3, u4, v4, u5, v5, u6, v6, u7, v7, u8, v8⟩ := HU.out w2 hb2; replace u3 := u3.trans p3; replace v3 := v3.trans q3; replace u4 := u4.trans p4; replace v4 := v4.trans q4; replace u5 := u5.trans p5; replace v5 := v5.trans q5; replace u6 := u6.trans p6; replace v6 := v6.trans q6; replace u7 := u7.trans p7; replace v7 := v7.trans q7; replace u8 := u8.trans p8; replace v8 := v8.trans q8; clear hb2)
    go_ret
    exact ⟨by rw [HZf.out]; rfl, HB2.out⟩
  case' pos =>
  subst h
  have HZe := Lib.hid (HEe.out ⟨rfl, rfl, rfl, rfl, rfl, rfl, rfl⟩)
  clear HEe HNe
  go_wp2_with (first
    | (go_at_call 67; refine HP1.out.mono ?_; rintro e w2 ⟨rfl, hb2⟩; have HB2 := Lib.hid (HB.out.trans (hb2.mono HB.out.size)); obtain ⟨u3, v3, u4, v4, u5, v5, u6, v6, u7, v7, u8, v8⟩ := HU.out w2 hb2; replace u3 := u3.trans p3; replace v3 := v3.trans q3; replace u4 := u4.trans p4; replace v4 := v4.trans q4; replace u5 := u5.trans p5; replace v5 := v5.trans q5; replace u6 := u6.trans p6; replace v6 := v6.trans q6; replace u7 := u7.trans p7; replace v7 := v7.trans q7; replace u8 := u8.trans p8; replace v8 := v8.trans q8; clear hb2)
    | (go_at_call 68; refine (HEq.out _ HB2.out).mono ?_; rintro e w3 ⟨rfl, hb3⟩; have HB3 := Lib.hid (HB2.out.trans (hb3.mono HB2.out.size)); clear hb3))
  go_ret
  exact ⟨by rw [HZe.out]; simp, HB3.out⟩
end Go.Proofs.YtaeeeinpelfppaaGreat.attr
