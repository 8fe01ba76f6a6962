/- The walk of a tree's under: of a good prefix, and of one that is not. Conditions as each lemma states. -/
import Derived.Test.YtbhhkjkjihenoaaTrieUnder
namespace Go.Proofs.Ytbhhkjkjihenoaa.tri
open Go.RowKit Go.Proofs.Ytbhhkjkjihenoaa.kit Go.Proofs.Ytbhhkjkjihenoaa.mem Go.Proofs.Ytbhhkjkjihenoaa.foot Go.Proofs.Ytbhhkjkjihenoaa.pfx
set_option linter.unusedVariables false
set_option linter.unusedSimpArgs false

set_option maxRecDepth 100000 in
set_option maxHeartbeats 2000000 in
theorem under_any {F : Foot} {tr : Nat} {t : T} (p : Key) (w : World) (hp : p.length ≤ 32) (h : Tri w F tr t) (hw : t.Wf []) :
    Calls Try.prog 82 #[.pointer (some ⟨tr, 0, none⟩), .agg #[.int .u32 (adr p), .int .i64 p.length]] w (UnderP w F (t.under p)) := by
  have HB0 : Hid (Below w.heap.size w (w.alloc (.cells #[.int .u32 (adr p : Int), .int .i64 (p.length : Int)] 30))) := (Below.refl _ _).alloc (Nat.le_refl _) _
  have HT := Lib.hid (top_any _ (h.bel HB0.out))
  have HLt := Lib.hid h.lt
  have HW := Lib.hid hw
  clear h hw
  go_enter Try.func82, Try.ntmps82
  go_wp2_with fail
  refine HT.out.mono ?_; rintro e w' ⟨⟨A, G, rfl, _, hT, _, hG⟩, rfl⟩
  have HJ0 : Hid (UnJ w F t p t A (w.alloc (.cells #[.int .u32 (adr p : Int), .int .i64 (p.length : Int)] 30))) := ⟨⟨G, hT, hG, [], HW.out⟩, rfl, Below.refl _ _⟩
  clear hT hG HT
  go_wp2_with fail
  go_loopw [5] (fun v wr => ∃ s A, v = .pointer A ∧ UnJ w F t p s A wr) (fun v wr => ptrM v wr)
  case atStart => exact ⟨t, A, rfl, HJ0.out⟩
  case round =>
    obtain ⟨s, A1, rfl, hJ⟩ := hrel
    have HJ := Lib.hid hJ
    clear hJ HJ0
    rcases s with _ | ⟨k, u, b, l, r⟩
    · have hA : A1 = none := HJ.out.sub.nil_
      subst hA
      have HE : Hid (∀ w', Below wr.heap.size wr w' → UnderP w F (t.under p) (.returned (.pointer none)) w') := fun w' hb => ⟨none, rfl, (HJ.out.go hb).below, by rw [HJ.out.eq]; exact HJ.out.sub.bel hb⟩
      clear HJ
      go_wp2_with fail
      go_quiet (fail)
      go_wp2_with fail
      go_quiet (fail)
      go_wp2_with fail
      go_ret
      exact HE.out _ (below_drewN (below_drewN (Below.refl _ _) _) _)
    · obtain ⟨g, kl, kr, rfl, hg, hkl, hgF, hl, hr, hml, hmr⟩ := HJ.out.sub.node
      have hbx := HJ.out.box
      have q0 := hg.cell 0
      have q1 := hg.cell 1
      have q5 := hg.cell 5
      have q6 := hg.cell 6
      have p0 := hbx.cell 0
      have p1 := hbx.cell 1
      have lg := hg.lt
      have lb := hbx.lt
      simp at q0 q1 q5 q6 p0 p1
      have HWi := Lib.hid (within_any (adr p) p.length (adr k) k.length (adr_lt hp) (adr_lt hkl))
      rw [within_key hkl hp] at HWi
      have HGb := Lib.hid hg
      have HSl := Lib.hid hl
      have HSr := Lib.hid hr
      have HMm := Lib.hid (And.intro hml hmr)
      clear hg hbx hl hr hml hmr
      by_cases h1 : k <+: p ∧ k ≠ p
      · rw [decide_eq_true h1] at HWi
        have hlt := pre_lt h1.1 h1.2
        have HS := Lib.hid (side_any (adr k) k.length (adr p) k.length p.length (adr_lt hp) (by omega))
        rw [side_num hp hlt] at HS
        have HU : Hid ((T.node k u b l r).under p = if side k p = true then r.under p else l.under p) := by rw [Hid, T.under, if_pos h1]
        clear h1 hlt
        go_wp2_with fail
        go_region_held3 (fun w' => w'.cell? ⟨g, 0, none⟩ = some (.int .u32 (adr k : Int)) ∧ w'.cell? ⟨g, 1, none⟩ = some (.int .i64 (k.length : Int)) ∧ w'.cell? ⟨w.heap.size, 0, none⟩ = some (.int .u32 (adr p : Int)) ∧ w'.cell? ⟨w.heap.size, 1, none⟩ = some (.int .i64 (p.length : Int))) (exact ⟨by go_simp, by go_simp, by go_simp, by go_simp⟩) (first
            | (go_at_call 80; refine (HWi.out _).mono ?_; rintro e w2 ⟨rfl, hb⟩; go_must (have HBw2 : Hid (Below wr.heap.size wr w2) := ((Below.refl _ _).drew).trans hb); go_must (have q0' := (hb.cell (p := ⟨g, 0, none⟩) lg).trans q0); go_must (have q1' := (hb.cell (p := ⟨g, 1, none⟩) lg).trans q1); go_must (have p0' := (hb.cell (p := ⟨w.heap.size, 0, none⟩) lb).trans p0); go_must (have p1' := (hb.cell (p := ⟨w.heap.size, 1, none⟩) lb).trans p1); clear hb))
        have HB2 := HBw2
        clear q0' q1' p0' p1' HBw2
        have q0 := (HB2.out.cell (p := ⟨g, 0, none⟩) lg).trans q0
        have q1 := (HB2.out.cell (p := ⟨g, 1, none⟩) lg).trans q1
        have q5 := (HB2.out.cell (p := ⟨g, 5, none⟩) lg).trans q5
        have q6 := (HB2.out.cell (p := ⟨g, 6, none⟩) lg).trans q6
        have p0 := (HB2.out.cell (p := ⟨w.heap.size, 0, none⟩) lb).trans p0
        have p1 := (HB2.out.cell (p := ⟨w.heap.size, 1, none⟩) lb).trans p1
        have lg2 : g < w2.drew.heap.size := Nat.lt_of_lt_of_le lg HB2.out.size
        have lb2 : w.heap.size < w2.drew.heap.size := Nat.lt_of_lt_of_le lb HB2.out.size
        rcases hs : side k p with _ | _
        all_goals
          rw [hs] at HS HU
          simp only [if_true, if_false, Bool.false_eq_true, Int.natCast_zero, Int.natCast_one] at HS HU
          clear hs
          go_wp2_with fail
          go_region_held3 (fun w' => w'.cell? ⟨g, 0, none⟩ = some (.int .u32 (adr k : Int)) ∧ w'.cell? ⟨g, 1, none⟩ = some (.int .i64 (k.length : Int)) ∧ w'.cell? ⟨w.heap.size, 0, none⟩ = some (.int .u32 (adr p : Int)) ∧ w'.cell? ⟨w.heap.size, 1, none⟩ = some (.int .i64 (p.length : Int)) ∧ w'.cell? ⟨g, 5, none⟩ = some (.pointer kl) ∧ w'.cell? ⟨g, 6, none⟩ = some (.pointer kr)) (exact ⟨by go_simp, by go_simp, by go_simp, by go_simp, by go_simp, by go_simp⟩) (first
            | (go_at_call 81; refine (HS.out _).mono ?_; rintro e w3 ⟨rfl, hb⟩; go_must (have HBw3 : Hid (Below w2.heap.size w2 w3) := ((Below.refl _ _).drew).trans hb); go_must (have q0 := (hb.cell (p := ⟨g, 0, none⟩) lg2).trans q0); go_must (have q1 := (hb.cell (p := ⟨g, 1, none⟩) lg2).trans q1); go_must (have p0 := (hb.cell (p := ⟨w.heap.size, 0, none⟩) lb2).trans p0); go_must (have p1 := (hb.cell (p := ⟨w.heap.size, 1, none⟩) lb2).trans p1); go_must (have q5 := (hb.cell (p := ⟨g, 5, none⟩) lg2).trans q5); go_must (have q6 := (hb.cell (p := ⟨g, 6, none⟩) lg2).trans q6); clear hb))
          have HB3 : Hid (Below wr.heap.size wr w3) := HB2.out.trans (HBw3.out.mono HB2.out.size)
          have HM1 : Hid (ptrM (.pointer (some ⟨g, 0, none⟩)) wr = msz (.node k u b l r)) := ptrM_eq HJ.out.sub
          go_wp2_with fail
          go_roundw
          case rel => first
            | exact ⟨l, kl, rfl, ⟨HSl.out.bel HB3.out, by rw [HJ.out.eq, HU.out], (HJ.out.go HB3.out).bel⟩⟩
            | exact ⟨r, kr, rfl, ⟨HSr.out.bel HB3.out, by rw [HJ.out.eq, HU.out], (HJ.out.go HB3.out).bel⟩⟩
          case measure => first
            | (have := HMm.out.1; rw [HM1.out, ptrM_eq (HSl.out.bel HB3.out)]; exact this)
            | (have := HMm.out.2; rw [HM1.out, ptrM_eq (HSr.out.bel HB3.out)]; exact this)
      · rw [decide_eq_false h1] at HWi
        have HC := Lib.hid (covers_any (adr p) p.length (adr k) k.length (adr_lt hp) (adr_lt hkl))
        rw [cover_key hp hkl] at HC
        have HU : Hid ((T.node k u b l r).under p = if p <+: k then .node k u b l r else .nil) := by rw [Hid, T.under, if_neg h1]
        clear h1
        go_wp2_with fail
        go_region_held3 (fun w' => w'.cell? ⟨g, 0, none⟩ = some (.int .u32 (adr k : Int)) ∧ w'.cell? ⟨g, 1, none⟩ = some (.int .i64 (k.length : Int)) ∧ w'.cell? ⟨w.heap.size, 0, none⟩ = some (.int .u32 (adr p : Int)) ∧ w'.cell? ⟨w.heap.size, 1, none⟩ = some (.int .i64 (p.length : Int))) (exact ⟨by go_simp, by go_simp, by go_simp, by go_simp⟩) (first
            | (go_at_call 80; refine (HWi.out _).mono ?_; rintro e w2 ⟨rfl, hb⟩; go_must (have HBw2 : Hid (Below wr.heap.size wr w2) := ((Below.refl _ _).drew).trans hb); go_must (have q0' := (hb.cell (p := ⟨g, 0, none⟩) lg).trans q0); go_must (have q1' := (hb.cell (p := ⟨g, 1, none⟩) lg).trans q1); go_must (have p0' := (hb.cell (p := ⟨w.heap.size, 0, none⟩) lb).trans p0); go_must (have p1' := (hb.cell (p := ⟨w.heap.size, 1, none⟩) lb).trans p1); clear hb))
        have HB2 := HBw2
        clear q0' q1' p0' p1' HBw2
        have q0 := (HB2.out.cell (p := ⟨g, 0, none⟩) lg).trans q0
        have q1 := (HB2.out.cell (p := ⟨g, 1, none⟩) lg).trans q1
        have p0 := (HB2.out.cell (p := ⟨w.heap.size, 0, none⟩) lb).trans p0
        have p1 := (HB2.out.cell (p := ⟨w.heap.size, 1, none⟩) lb).trans p1
        have lg2 : g < w2.drew.heap.size := Nat.lt_of_lt_of_le lg HB2.out.size
        have lb2 : w.heap.size < w2.drew.heap.size := Nat.lt_of_lt_of_le lb HB2.out.size
        by_cases h2 : p <+: k
        · rw [decide_eq_true h2] at HC
          rw [if_pos h2] at HU
          have HE : Hid (∀ w', Below wr.heap.size wr w' → UnderP w F (t.under p) (.returned (.pointer (some ⟨g, 0, none⟩))) w') := fun w' hb => ⟨_, rfl, (HJ.out.go hb).below, by rw [HJ.out.eq, HU.out]; exact HJ.out.sub.bel hb⟩
          clear h2
          go_wp2_with fail
          go_region_held3 (fun w' => w'.cell? ⟨g, 0, none⟩ = some (.int .u32 (adr k : Int)) ∧ w'.cell? ⟨g, 1, none⟩ = some (.int .i64 (k.length : Int)) ∧ w'.cell? ⟨w.heap.size, 0, none⟩ = some (.int .u32 (adr p : Int)) ∧ w'.cell? ⟨w.heap.size, 1, none⟩ = some (.int .i64 (p.length : Int))) (exact ⟨by go_simp, by go_simp, by go_simp, by go_simp⟩) (first
            | (go_at_call 109; refine (HC.out _).mono ?_; rintro e w3 ⟨rfl, hb⟩; go_must (have HBw3 : Hid (Below w2.heap.size w2 w3) := ((Below.refl _ _).drew).trans hb); go_must (have q0 := (hb.cell (p := ⟨g, 0, none⟩) lg2).trans q0); go_must (have q1 := (hb.cell (p := ⟨g, 1, none⟩) lg2).trans q1); go_must (have p0 := (hb.cell (p := ⟨w.heap.size, 0, none⟩) lb2).trans p0); go_must (have p1 := (hb.cell (p := ⟨w.heap.size, 1, none⟩) lb2).trans p1); clear hb))
          go_wp2_with fail
          go_ret
          exact HE.out _ (HB2.out.trans (HBw3.out.mono HB2.out.size))
        · rw [decide_eq_false h2] at HC
          rw [if_neg h2] at HU
          have HE : Hid (∀ w', Below wr.heap.size wr w' → UnderP w F (t.under p) (.returned (.pointer none)) w') := fun w' hb => ⟨_, rfl, (HJ.out.go hb).below, by rw [HJ.out.eq, HU.out]; exact ⟨fun _ => False, rfl, fun _ e => e.elim, [], trivial⟩⟩
          clear h2
          go_wp2_with fail
          go_region_held3 (fun w' => w'.cell? ⟨g, 0, none⟩ = some (.int .u32 (adr k : Int)) ∧ w'.cell? ⟨g, 1, none⟩ = some (.int .i64 (k.length : Int)) ∧ w'.cell? ⟨w.heap.size, 0, none⟩ = some (.int .u32 (adr p : Int)) ∧ w'.cell? ⟨w.heap.size, 1, none⟩ = some (.int .i64 (p.length : Int))) (exact ⟨by go_simp, by go_simp, by go_simp, by go_simp⟩) (first
            | (go_at_call 109; refine (HC.out _).mono ?_; rintro e w3 ⟨rfl, hb⟩; go_must (have HBw3 : Hid (Below w2.heap.size w2 w3) := ((Below.refl _ _).drew).trans hb); go_must (have q0 := (hb.cell (p := ⟨g, 0, none⟩) lg2).trans q0); go_must (have q1 := (hb.cell (p := ⟨g, 1, none⟩) lg2).trans q1); go_must (have p0 := (hb.cell (p := ⟨w.heap.size, 0, none⟩) lb2).trans p0); go_must (have p1 := (hb.cell (p := ⟨w.heap.size, 1, none⟩) lb2).trans p1); clear hb))
          go_wp2_with fail
          go_ret
          exact HE.out _ (HB2.out.trans (HBw3.out.mono HB2.out.size))
end Go.Proofs.Ytbhhkjkjihenoaa.tri
