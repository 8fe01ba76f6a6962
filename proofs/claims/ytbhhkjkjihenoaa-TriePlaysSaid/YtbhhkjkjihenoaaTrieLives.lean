/- What confluencelaw14.lives returns: true. No condition. -/
import Derived.Test.YtbhhkjkjihenoaaTrieSound
namespace Go.Proofs.Ytbhhkjkjihenoaa.tri
open Go.RowKit Go.Proofs.Ytbhhkjkjihenoaa.kit Go.Proofs.Ytbhhkjkjihenoaa.mem Go.Proofs.Ytbhhkjkjihenoaa.foot Go.Proofs.Ytbhhkjkjihenoaa.pfx
set_option linter.unusedVariables false
set_option linter.unusedSimpArgs false

def ka : Key := bitsOf 167772160 8
def kb : Key := bitsOf 167837696 16
def t2 : T := (T.nil.put ka 1).put kb 2
theorem t2_above : t2.above kb = [ka] := by decide +kernel
theorem t2_got : (t2.find kb).got = some 2 := by decide +kernel
theorem t2_cnt : t2.cnt = 2 := by decide +kernel
theorem adr_ka : ((adr ka : Nat) : Int) = 167772160 := by decide +kernel
theorem len_ka : ((ka.length : Nat) : Int) = 8 := by decide +kernel
theorem adr_kb : ((adr kb : Nat) : Int) = 167837696 := by decide +kernel
theorem len_kb : ((kb.length : Nat) : Int) = 16 := by decide +kernel
theorem t1_wf : (T.nil.put ka 1).Wf [] := T.put_wf (c := []) trivial List.nil_prefix
theorem t2_wf : t2.Wf [] := T.put_wf t1_wf List.nil_prefix
theorem Stood.low {w w0 w' : World} {F : Foot} {tr B : Nat} {t : T} (h : Stood w F tr t w') (hF : ∀ x, F x → B ≤ x) (hb : B ≤ w.heap.size) : ∃ F', Tri w' F' tr t ∧ (∀ x, F' x → B ≤ x) ∧ Below B w w' := by
  obtain ⟨F', h1, h2, h3⟩ := h
  exact ⟨F', h1, fun x hx => by rcases h3 x hx with e | e; exact hF x e; omega, h2.below hF hb⟩

set_option maxRecDepth 100000 in
set_option maxHeartbeats 1000000 in
theorem lives_any (w : World) : Calls Try.prog 18 #[] w fun e w' => e = .returned (.bool true) ∧ Below w.heap.size w w' := by
  have HN := Lib.hid (New_any w)
  go_enter Try.func18, Try.ntmps18
  go_wp2_with fail
  refine HN.out.mono ?_; rintro e w1 ⟨tr, F, rfl, hT, hF, hb1⟩
  have HB1 := Lib.hid hb1
  have hbx : Below w1.heap.size w1 ((w1.alloc (.cells #[.int .u32 167772160, .int .i64 8] 30)).alloc (.cells #[.int .u32 167837696, .int .i64 16] 30)) := Go.Joins.below_alloc2 w1 _ _
  have HBx := Lib.hid hbx
  have K0 := Lib.hid ((Bk.new w1 30 #[.int .u32 167772160, .int .i64 8]).alloc (.cells #[.int .u32 167837696, .int .i64 16] 30))
  have K1 : Hid (Bk ((w1.alloc (.cells #[.int .u32 167772160, .int .i64 8] 30)).alloc (.cells #[.int .u32 167837696, .int .i64 16] 30)) (w1.heap.size + 1) 30 #[.int .u32 167837696, .int .i64 16]) := by
    have := Bk.new (w1.alloc (.cells #[.int .u32 167772160, .int .i64 8] 30)) 30 #[.int .u32 167837696, .int .i64 16]
    simpa [Hid] using this
  have hP := Put_any ka 1 _ (by decide) (hT.bel hbx) (by trivial) (by simp [T.cnt, T.rows])
  rw [adr_ka, len_ka] at hP
  have HP := Lib.hid hP
  have HFl := Lib.hid hF
  have HFlt := Lib.hid hT.lt
  clear hT hF hb1 hbx hP HN
  go_wp2_with fail
  refine HP.out.mono ?_; rintro e w2 ⟨rfl, hS⟩
  have hsz := HBx.out.size
  have hne0 : ¬ F w1.heap.size := fun e => by have := HFlt.out _ e; omega
  have hne1 : ¬ F (w1.heap.size + 1) := fun e => by have := HFlt.out _ e; omega
  obtain ⟨F2, hT2, hC2, hX2⟩ := hS
  have HK0 := Lib.hid (K0.out.chg hC2 hne0)
  have HK1 := Lib.hid (K1.out.chg hC2 hne1)
  have hz1 := HB1.out.size
  have HB2 : Hid (Below w.heap.size w w2) := (HB1.out.trans (HBx.out.mono hz1)).trans (hC2.below HFl.out (by omega))
  have HF2 : Hid ((∀ x, F2 x → w.heap.size ≤ x) ∧ ¬ F2 w1.heap.size ∧ ¬ F2 (w1.heap.size + 1)) := by
    refine ⟨fun x hx => ?_, fun e => ?_, fun e => ?_⟩
    · rcases hX2 x hx with e | e
      · exact HFl.out x e
      · omega
    · rcases hX2 _ e with e | e
      · exact hne0 e
      · have := K0.out.lt; omega
    · rcases hX2 _ e with e | e
      · exact hne1 e
      · have := K1.out.lt; omega
  have hP := Put_any kb 2 w2 (by decide) hT2 t1_wf (by decide +kernel)
  rw [adr_kb, len_kb] at hP
  have HP := Lib.hid hP
  have q0 := HK1.out.cell 0
  have q1 := HK1.out.cell 1
  simp at q0 q1
  clear hT2 hC2 hX2 hP hne0 hne1 hsz hz1
  generalize wasV T.nil ka = v0
  generalize hadB T.nil ka = v1
  go_wp2_with fail
  refine HP.out.mono ?_; rintro e w3 ⟨rfl, hS⟩
  obtain ⟨F3, hT3, hC3, hX3⟩ := hS
  have hT3 : Tri w3 F3 tr t2 := hT3
  have HK30 := Lib.hid (HK0.out.chg hC3 HF2.out.2.1)
  have HK31 := Lib.hid (HK1.out.chg hC3 HF2.out.2.2)
  have hz2 := HB2.out.size
  have HB3 : Hid (Below w.heap.size w w3) := HB2.out.trans (hC3.below HF2.out.1 hz2)
  have HF3 : Hid ((∀ x, F3 x → w.heap.size ≤ x) ∧ ¬ F3 w1.heap.size) := by
    refine ⟨fun x hx => ?_, fun e => ?_⟩
    · rcases hX3 x hx with e | e
      · exact HF2.out.1 x e
      · omega
    · rcases hX3 _ e with e | e
      · exact HF2.out.2.1 e
      · have := HK0.out.lt; omega
  have hA := above_any kb w3 (by decide) hT3 t2_wf (by rw [t2_cnt]; omega)
  rw [t2_above, adr_kb, len_kb] at hA
  have HA := Lib.hid hA
  have HT3 := Lib.hid hT3
  have q0 := HK31.out.cell 0
  have q1 := HK31.out.cell 1
  simp at q0 q1
  clear hT3 hC3 hX3 hA HP hz2
  generalize wasV (T.nil.put ka 1) kb = v2
  generalize hadB (T.nil.put ka 1) kb = v3
  go_wp2_with fail
  refine HA.out.mono ?_; rintro e w4 ⟨A4, c4, rfl, hN⟩
  have hl1 : ([ka] : List Key).length = 1 := rfl
  obtain ⟨bb, off, rfl, hbb, hcells⟩ := hN.rd.2 (by rw [hl1]; omega)
  have c0 := hcells 0 (.int .u32 167772160) (by simp [kv, pv, pk, adr_ka])
  have c1 := hcells 1 (.int .i64 8) (by simp [kv, pv, pk, len_ka])
  rw [Nat.add_zero] at c0
  have hnew := hN.new _ rfl
  have hT4 := HT3.out.bel hN.bel
  have hG := Get_any kb w4 (by decide) hT4 t2_wf
  have hw : wasV t2 kb = 2 ∧ hadB t2 kb = true := by unfold wasV hadB; rw [t2_got]; exact ⟨rfl, rfl⟩
  rw [hw.1, hw.2, adr_kb, len_kb] at hG
  have HG := Lib.hid hG
  have HB4 := Lib.hid hN.bel
  have k4 := HK31.out.below hN.bel HK31.out.lt
  have q0 := k4.cell 0
  have q1 := k4.cell 1
  simp at q0 q1
  have HNew := Lib.hid hnew
  clear hN hcells hT4 hG hw k4 hnew hl1
  go_wp2_with fail
  refine HG.out.mono ?_; rintro e w5 ⟨rfl, hb5⟩
  have HB5 : Hid (Below w3.heap.size w3 w5) := HB4.out.trans (hb5.mono HB4.out.size)
  have c0 := (hb5.cell (p := ⟨bb, off, none⟩) hbb).trans c0
  have c1 := (hb5.cell (p := ⟨bb, off + 1, none⟩) hbb).trans c1
  have hbb5 : bb < w5.heap.size := Nat.lt_of_lt_of_le hbb hb5.size
  have k5 := HK30.out.below HB5.out HK30.out.lt
  have p0 := k5.cell 0
  have p1 := k5.cell 1
  have pl := k5.lt
  simp at p0 p1
  have HCk := Lib.hid (fun (w6 : World) (hb : Below w5.heap.size w5 w6) => Check_any w6 (HT3.out.bel (HB5.out.trans (hb.mono HB5.out.size))) t2_wf (by rw [t2_cnt]; omega))
  have HFb : Hid (¬ F3 bb ∧ ¬ F3 w1.heap.size) := ⟨fun e => by have := HT3.out.lt _ e; have h2 : w3.heap.size ≤ bb := HNew.out; omega, HF3.out.2⟩
  clear hb5 k5 hbb q0 q1
  go_wp2_with fail
  go_region_held3 (fun w' => w'.cell? ⟨bb, off, none⟩ = some (.int .u32 167772160) ∧ w'.cell? ⟨bb, off + 1, none⟩ = some (.int .i64 8) ∧ w'.cell? ⟨w1.heap.size, 0, none⟩ = some (.int .u32 167772160) ∧ w'.cell? ⟨w1.heap.size, 1, none⟩ = some (.int .i64 8)) (exact ⟨by go_simp, by go_simp, by go_simp, by go_simp⟩) (first
    | (go_at_call 16; refine (HCk.out _ ((Below.refl _ _).drew)).mono ?_; rintro e w6 ⟨rfl, hT6, hC6⟩; go_must (have c0 := (World.cell?_of_block (a := ⟨bb, off, none⟩) (hC6.block bb hbb5 HFb.out.1)).trans c0); go_must (have c1 := (World.cell?_of_block (a := ⟨bb, off + 1, none⟩) (hC6.block bb hbb5 HFb.out.1)).trans c1); go_must (have p0 := (World.cell?_of_block (a := ⟨w1.heap.size, 0, none⟩) (hC6.block w1.heap.size pl HFb.out.2)).trans p0); go_must (have p1 := (World.cell?_of_block (a := ⟨w1.heap.size, 1, none⟩) (hC6.block w1.heap.size pl HFb.out.2)).trans p1); go_must (have HC6 := Lib.hid hC6); clear hT6 hC6))
  go_wp2_with fail
  go_ret
  have h5 : Below w.heap.size w w5 := HB3.out.trans (HB5.out.mono HB3.out.size)
  exact ⟨rfl, (h5.drew).trans (HC6.out.below HF3.out.1 h5.size)⟩
end Go.Proofs.Ytbhhkjkjihenoaa.tri
