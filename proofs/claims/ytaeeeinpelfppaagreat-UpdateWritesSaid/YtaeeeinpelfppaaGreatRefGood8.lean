/- What confluenceref08.Good returns. Condition: at most 10^5 pieces and numbers together. Printed by gen_refgood8.py. -/
import Derived.Test.YtaeeeinpelfppaaGreatRefNorm8
import Derived.Test.YtaeeeinpelfppaaGreatRefSame8
import Derived.Test.YtaeeeinpelfppaaGreatRefWays8
import Derived.Test.YtaeeeinpelfppaaGreatRefAttr
import Derived.Test.YtaeeeinpelfppaaGreatMv
namespace Go.Proofs.YtaeeeinpelfppaaGreat.attr
open Go.RowKit Go.Proofs.YtaeeeinpelfppaaGreat.kit Go.Proofs.YtaeeeinpelfppaaGreat.mem Go.Proofs.YtaeeeinpelfppaaGreat.foot Go.Proofs.YtaeeeinpelfppaaGreat.nums Go.Proofs.YtaeeeinpelfppaaGreat.asn Go.Proofs.YtaeeeinpelfppaaGreat.pth Go.Proofs.YtaeeeinpelfppaaGreat.mv
set_option linter.unusedVariables false
set_option linter.unusedSimpArgs false
set_option maxRecDepth 100000 in
set_option maxHeartbeats 8000000 in
theorem refGood_any (a : Atr) (Ap Ac : Option Addr) (cp cc : Nat) (G : Foot) (w : World) (z : Bool) (hz : z = true ↔ GoodA a) (hm : Am w G a Ap cp Ac cc) (hp : nsz a.path ≤ 100000) (hcm : a.comms.length ≤ 999990) :
    Calls Tryz.prog 45 #[.agg (atc a Ap cp Ac cc).toArray] w fun e w' => e = .returned (.bool z) ∧ Below w.heap.size w w' := by
  obtain ⟨z1, hz1⟩ := bool_of (normA a = a)
  obtain ⟨z2, hz2⟩ := bool_of (WaysS a.path)
  have HNm : Hid (∀ w', Below w.heap.size w w' → Calls Tryz.prog 66 #[.agg (atc a Ap cp Ac cc).toArray] w' fun e w2 => ∃ r : Array Value, e = .returned (.agg r) ∧ Below w'.heap.size w' w2 ∧ ∀ w3, Below w2.heap.size w2 w3 → Calls Tryz.prog 34 #[.agg r, .agg (atc a Ap cp Ac cc).toArray] w3 fun e w4 => e = .returned (.bool z1) ∧ Below w3.heap.size w3 w4) := fun w' hb => by
    refine (refNorm_any a Ap Ac cp cc G w' (hm.bel hb) hp hcm).mono ?_
    rintro e w2 ⟨Bp, dp, Bc, dc, rfl, hA, hb2⟩
    refine ⟨_, rfl, hb2, fun w3 hb3 => ?_⟩
    have h1 := nsz_normA a
    have h2 := comms_normA a
    exact refSame_any (normA a) a Bp Bc Ap Ac dp dc cp cc _ G w3 z1 hz1 (hA.bel hb3) ((hm.bel (hb.trans (hb2.mono hb.size))).bel hb3) (by omega) (by omega) (by omega) (by omega)
  have HHs : Hid (∀ w', Calls Tryz.prog 32 #[.agg (atc a Ap cp Ac cc).toArray, .int .i64 3] w' fun e w2 => e = .returned (.bool (bitI a.has 3)) ∧ Below w'.heap.size w' w2) := fun w' => refHas_any a Ap Ac cp cc 3 (by omega) w'
  have HHp : Hid (∀ w', Calls Tryz.prog 87 #[.int .u32 a.hop] w' fun e w2 => e = .returned (.bool (hopB a.hop)) ∧ w' = w2) := fun w' => refHop_any a.hop hm.wf.hop w'
  have HWy : Hid (∀ w', Below w.heap.size w w' → Calls Tryz.prog 86 #[.slice Ap a.path.length cp] w' fun e w2 => e = .returned (.bool z2) ∧ Below w'.heap.size w' w2) := fun w' hb => refWays_any Ap cp a.path G w' z2 hz2 (by omega) (hm.sp.els.bel keeps_seg hb)
  have HV : Hid (z = (z1 && (decide (0 ≤ a.orig) && (decide (a.orig ≤ 2) && (z2 && ((!(bitI a.has 3) || hopB a.hop) && decide ((a.comms.length : Int) ≤ 255))))))) := by
    rw [Hid, Bool.eq_iff_iff, hz]
    simp only [Bool.and_eq_true, Bool.or_eq_true, Bool.not_eq_true', decide_eq_true_iff, hz1, hz2]
    constructor
    · intro h
      refine ⟨h.norm, h.lo, h.hi, h.ways, ?_, by have := h.few; omega⟩
      cases hb : bitI a.has 3
      · exact .inl rfl
      · exact .inr (h.hop hb)
    · rintro ⟨h1, h2, h3, h4, h5, h6⟩
      refine ⟨h1, h2, h3, by omega, fun hb => ?_, h4⟩
      rcases h5 with h5 | h5
      · rw [hb] at h5; cases h5
      · exact h5
  clear hz hz1 hz2 hm hp hcm
  have e : (atc a Ap cp Ac cc).toArray = #[.int .i64 a.has, .int .i64 a.orig, .slice Ap a.path.length cp, .int .u32 a.hop, .int .u32 a.med, .int .u32 a.pref, .int .u32 a.aas, .int .u32 a.aid, .slice Ac a.comms.length cc] := rfl
  rw [e] at HNm HHs ⊢
  clear e
  generalize bitI a.has 3 = b3 at *
  generalize hopB a.hop = bh at *
  generalize a.path.length = na at *
  generalize a.comms.length = nc at *
  generalize a.has = a0 at *
  generalize a.orig = a1 at *
  generalize a.hop = a3 at *
  generalize a.med = a4 at *
  generalize a.pref = a5 at *
  generalize a.aas = a6 at *
  generalize a.aid = a7 at *
  obtain ⟨g1, d1⟩ : ∃ g : Bool, decide (0 ≤ a1) = g := ⟨_, rfl⟩
  obtain ⟨g2, d2⟩ : ∃ g : Bool, decide (a1 ≤ 2) = g := ⟨_, rfl⟩
  obtain ⟨g3, d3⟩ : ∃ g : Bool, decide ((nc : Int) ≤ 255) = g := ⟨_, rfl⟩
  rw [d1, d2, d3] at HV
  have HB : Hid (Below w.heap.size w (w.alloc (.cells #[.int .i64 a0, .int .i64 a1, .slice Ap na cp, .int .u32 a3, .int .u32 a4, .int .u32 a5, .int .u32 a6, .int .u32 a7, .slice Ac nc cc] 29))) := (Below.refl _ _).alloc (Nat.le_refl _) _
  have HK : Hid (Bk (w.alloc (.cells #[.int .i64 a0, .int .i64 a1, .slice Ap na cp, .int .u32 a3, .int .u32 a4, .int .u32 a5, .int .u32 a6, .int .u32 a7, .slice Ac nc cc] 29)) w.heap.size 29 #[.int .i64 a0, .int .i64 a1, .slice Ap na cp, .int .u32 a3, .int .u32 a4, .int .u32 a5, .int .u32 a6, .int .u32 a7, .slice Ac nc cc]) := Bk.new w _ _
  obtain ⟨w1, hw1⟩ : ∃ w1, w1 = w.alloc (.cells #[.int .i64 a0, .int .i64 a1, .slice Ap na cp, .int .u32 a3, .int .u32 a4, .int .u32 a5, .int .u32 a6, .int .u32 a7, .slice Ac nc cc] 29) := ⟨_, rfl⟩
  rw [← hw1] at HB HK
  have HU : Hid (∀ w', Below w1.heap.size w1 w' → w'.cell? ⟨w.heap.size, 0, none⟩ = some (.int .i64 a0) ∧ w'.cell? ⟨w.heap.size, 1, none⟩ = some (.int .i64 a1) ∧ w'.cell? ⟨w.heap.size, 2, none⟩ = some (.slice Ap na cp) ∧ w'.cell? ⟨w.heap.size, 3, none⟩ = some (.int .u32 a3) ∧ w'.cell? ⟨w.heap.size, 4, none⟩ = some (.int .u32 a4) ∧ w'.cell? ⟨w.heap.size, 5, none⟩ = some (.int .u32 a5) ∧ w'.cell? ⟨w.heap.size, 6, none⟩ = some (.int .u32 a6) ∧ w'.cell? ⟨w.heap.size, 7, none⟩ = some (.int .u32 a7) ∧ w'.cell? ⟨w.heap.size, 8, none⟩ = some (.slice Ac nc cc)) := fun w' hb => by
    have h := HK.out.below hb HK.out.lt
    exact ⟨(h.cell 0).trans rfl, (h.cell 1).trans rfl, (h.cell 2).trans rfl, (h.cell 3).trans rfl, (h.cell 4).trans rfl, (h.cell 5).trans rfl, (h.cell 6).trans rfl, (h.cell 7).trans rfl, (h.cell 8).trans rfl⟩
  have HBd : Hid (Below w1.heap.size w1 w1.drew) := (Below.refl _ _).drew
  have HSd := Lib.hid (HU.out _ HBd.out)
  have HNd := Lib.hid (HNm.out w1.drew (HB.out.drew))
  go_enter Tryz.func45, Tryz.ntmps45
  go_upto_region 1 with fail
  rw [← hw1]
  clear hw1
  refine region_mv (S := fun w' => w'.cell? ⟨w.heap.size, 0, none⟩ = some (.int .i64 a0) ∧ w'.cell? ⟨w.heap.size, 1, none⟩ = some (.int .i64 a1) ∧ w'.cell? ⟨w.heap.size, 2, none⟩ = some (.slice Ap na cp) ∧ w'.cell? ⟨w.heap.size, 3, none⟩ = some (.int .u32 a3) ∧ w'.cell? ⟨w.heap.size, 4, none⟩ = some (.int .u32 a4) ∧ w'.cell? ⟨w.heap.size, 5, none⟩ = some (.int .u32 a5) ∧ w'.cell? ⟨w.heap.size, 6, none⟩ = some (.int .u32 a6) ∧ w'.cell? ⟨w.heap.size, 7, none⟩ = some (.int .u32 a7) ∧ w'.cell? ⟨w.heap.size, 8, none⟩ = some (.slice Ac nc cc)) (A := List.range 36) (sq := [.p 0, .p 2, .c 1, .c 3, .p 4, .p 5, .p 6, .p 7, .p 8, .p 9, .p 10, .p 11, .p 12, .p 13, .p 14, .p 15, .p 16, .c 17, .p 18, .p 19, .p 20, .c 21, .p 22, .p 23, .p 24, .p 25, .c 26, .p 27, .p 28, .p 29, .p 30, .p 31, .p 32, .p 33, .p 34, .p 35]) (by kernel_rfl) (by kernel_rfl) ?_ (fun hHeld => ?_)
  · exact HSd.out
  repeat (first
    | ((with_reducible refine mv_at ?_); (first
      | (refine ⟨_, ?_, rfl, Or.inl ⟨by rfl, ?_⟩, ?_⟩; rotate_left; · (intro w hSw; (try dsimp only at hSw); go_simp <;> with_reducible rfl))
      | (refine ⟨_, undef, rfl, Or.inr ⟨by rfl, rfl⟩, ?_⟩)); try simp only [Act.put, List.getElem_toArray, List.getElem_cons_succ, List.getElem_cons_zero, List.setIfInBounds_toArray, List.set_cons_zero, List.set_cons_succ])
    | ((with_reducible refine mv_cu ?_); refine ⟨_, rfl, by rfl, by assumption, ?_⟩; try simp only [Act.put, List.getElem_toArray, List.getElem_cons_succ, List.getElem_cons_zero, List.setIfInBounds_toArray, List.set_cons_zero, List.set_cons_succ]))
  refine mv_c (o := _) rfl (fun K hK => ?_)
  go_simp
  go_at_call 66
  refine HNd.out.mono ?_
  rintro e w3 ⟨r, rfl, hb3, hs3⟩
  have HB3 := Lib.hid (HBd.out.trans (hb3.mono HBd.out.size))
  have HS3 := Lib.hid (HU.out w3 HB3.out)
  have HSm := Lib.hid (hs3 w3 (Below.refl _ _))
  clear hb3 hs3
  refine hK.out _ _ ?_ (fun hHeld => ?_)
  · exact HS3.out
  clear hK K
  try simp only [Act.put, List.getElem_toArray, List.getElem_cons_succ, List.getElem_cons_zero, List.setIfInBounds_toArray, List.set_cons_zero, List.set_cons_succ]
  refine mv_c (o := _) rfl (fun K hK => ?_)
  go_simp
  go_at_call 34
  refine HSm.out.mono ?_
  rintro e w4 ⟨rfl, hb4⟩
  have HB4 := Lib.hid (HB3.out.trans (hb4.mono HB3.out.size))
  have HS4 := Lib.hid (HU.out w4 HB4.out)
  have HB4w := Lib.hid (HB.out.trans (HB4.out.mono HB.out.size))
  clear hb4
  refine hK.out _ _ ?_ (fun hHeld => ?_)
  · exact HS4.out
  clear hK K
  try simp only [Act.put, List.getElem_toArray, List.getElem_cons_succ, List.getElem_cons_zero, List.setIfInBounds_toArray, List.set_cons_zero, List.set_cons_succ]
  repeat (first
    | ((with_reducible refine mv_at ?_); (first
      | (refine ⟨_, ?_, rfl, Or.inl ⟨by rfl, ?_⟩, ?_⟩; rotate_left; · (intro w hSw; (try dsimp only at hSw); go_simp <;> with_reducible rfl))
      | (refine ⟨_, undef, rfl, Or.inr ⟨by rfl, rfl⟩, ?_⟩)); try simp only [Act.put, List.getElem_toArray, List.getElem_cons_succ, List.getElem_cons_zero, List.setIfInBounds_toArray, List.set_cons_zero, List.set_cons_succ])
    | ((with_reducible refine mv_cu ?_); refine ⟨_, rfl, by rfl, by assumption, ?_⟩; try simp only [Act.put, List.getElem_toArray, List.getElem_cons_succ, List.getElem_cons_zero, List.setIfInBounds_toArray, List.set_cons_zero, List.set_cons_succ]))
  rcases z1 with _ | _
  · repeat (first
      | ((with_reducible refine mv_at ?_); (first
        | (refine ⟨_, ?_, rfl, Or.inl ⟨by rfl, ?_⟩, ?_⟩; rotate_left; · (intro w hSw; (try dsimp only at hSw); go_simp <;> with_reducible rfl))
        | (refine ⟨_, undef, rfl, Or.inr ⟨by rfl, rfl⟩, ?_⟩)); try simp only [Act.put, List.getElem_toArray, List.getElem_cons_succ, List.getElem_cons_zero, List.setIfInBounds_toArray, List.set_cons_zero, List.set_cons_succ])
      | ((with_reducible refine mv_cu ?_); refine ⟨_, rfl, by rfl, by assumption, ?_⟩; try simp only [Act.put, List.getElem_toArray, List.getElem_cons_succ, List.getElem_cons_zero, List.setIfInBounds_toArray, List.set_cons_zero, List.set_cons_succ]))
    refine mv_end ?_
    go_wp2_with fail
    go_ret
    exact ⟨by rw [HV.out]; rfl, HB4w.out⟩
  · repeat (first
      | ((with_reducible refine mv_at ?_); (first
        | (refine ⟨_, ?_, rfl, Or.inl ⟨by rfl, ?_⟩, ?_⟩; rotate_left; · (intro w hSw; (try dsimp only at hSw); go_simp <;> with_reducible rfl))
        | (refine ⟨_, undef, rfl, Or.inr ⟨by rfl, rfl⟩, ?_⟩)); try simp only [Act.put, List.getElem_toArray, List.getElem_cons_succ, List.getElem_cons_zero, List.setIfInBounds_toArray, List.set_cons_zero, List.set_cons_succ])
      | ((with_reducible refine mv_cu ?_); refine ⟨_, rfl, by rfl, by assumption, ?_⟩; try simp only [Act.put, List.getElem_toArray, List.getElem_cons_succ, List.getElem_cons_zero, List.setIfInBounds_toArray, List.set_cons_zero, List.set_cons_succ]))
    rcases g1 with _ | _
    · repeat (first
        | ((with_reducible refine mv_at ?_); (first
          | (refine ⟨_, ?_, rfl, Or.inl ⟨by rfl, ?_⟩, ?_⟩; rotate_left; · (intro w hSw; (try dsimp only at hSw); go_simp <;> with_reducible rfl))
          | (refine ⟨_, undef, rfl, Or.inr ⟨by rfl, rfl⟩, ?_⟩)); try simp only [Act.put, List.getElem_toArray, List.getElem_cons_succ, List.getElem_cons_zero, List.setIfInBounds_toArray, List.set_cons_zero, List.set_cons_succ])
        | ((with_reducible refine mv_cu ?_); refine ⟨_, rfl, by rfl, by assumption, ?_⟩; try simp only [Act.put, List.getElem_toArray, List.getElem_cons_succ, List.getElem_cons_zero, List.setIfInBounds_toArray, List.set_cons_zero, List.set_cons_succ]))
      refine mv_end ?_
      go_wp2_with fail
      go_ret
      exact ⟨by rw [HV.out]; rfl, HB4w.out⟩
    · repeat (first
        | ((with_reducible refine mv_at ?_); (first
          | (refine ⟨_, ?_, rfl, Or.inl ⟨by rfl, ?_⟩, ?_⟩; rotate_left; · (intro w hSw; (try dsimp only at hSw); go_simp <;> with_reducible rfl))
          | (refine ⟨_, undef, rfl, Or.inr ⟨by rfl, rfl⟩, ?_⟩)); try simp only [Act.put, List.getElem_toArray, List.getElem_cons_succ, List.getElem_cons_zero, List.setIfInBounds_toArray, List.set_cons_zero, List.set_cons_succ])
        | ((with_reducible refine mv_cu ?_); refine ⟨_, rfl, by rfl, by assumption, ?_⟩; try simp only [Act.put, List.getElem_toArray, List.getElem_cons_succ, List.getElem_cons_zero, List.setIfInBounds_toArray, List.set_cons_zero, List.set_cons_succ]))
      rcases g2 with _ | _
      · repeat (first
          | ((with_reducible refine mv_at ?_); (first
            | (refine ⟨_, ?_, rfl, Or.inl ⟨by rfl, ?_⟩, ?_⟩; rotate_left; · (intro w hSw; (try dsimp only at hSw); go_simp <;> with_reducible rfl))
            | (refine ⟨_, undef, rfl, Or.inr ⟨by rfl, rfl⟩, ?_⟩)); try simp only [Act.put, List.getElem_toArray, List.getElem_cons_succ, List.getElem_cons_zero, List.setIfInBounds_toArray, List.set_cons_zero, List.set_cons_succ])
          | ((with_reducible refine mv_cu ?_); refine ⟨_, rfl, by rfl, by assumption, ?_⟩; try simp only [Act.put, List.getElem_toArray, List.getElem_cons_succ, List.getElem_cons_zero, List.setIfInBounds_toArray, List.set_cons_zero, List.set_cons_succ]))
        refine mv_end ?_
        go_wp2_with fail
        go_ret
        exact ⟨by rw [HV.out]; rfl, HB4w.out⟩
      · repeat (first
          | ((with_reducible refine mv_at ?_); (first
            | (refine ⟨_, ?_, rfl, Or.inl ⟨by rfl, ?_⟩, ?_⟩; rotate_left; · (intro w hSw; (try dsimp only at hSw); go_simp <;> with_reducible rfl))
            | (refine ⟨_, undef, rfl, Or.inr ⟨by rfl, rfl⟩, ?_⟩)); try simp only [Act.put, List.getElem_toArray, List.getElem_cons_succ, List.getElem_cons_zero, List.setIfInBounds_toArray, List.set_cons_zero, List.set_cons_succ])
          | ((with_reducible refine mv_cu ?_); refine ⟨_, rfl, by rfl, by assumption, ?_⟩; try simp only [Act.put, List.getElem_toArray, List.getElem_cons_succ, List.getElem_cons_zero, List.setIfInBounds_toArray, List.set_cons_zero, List.set_cons_succ]))
        refine mv_c (o := _) rfl (fun K hK => ?_)
        go_simp
        go_at_call 86
        refine (HWy.out w4 HB4w.out).mono ?_
        rintro e w5 ⟨rfl, hb5⟩
        have HB5 := Lib.hid (HB4.out.trans (hb5.mono HB4.out.size))
        have HS5 := Lib.hid (HU.out w5 HB5.out)
        have HB5w := Lib.hid (HB.out.trans (HB5.out.mono HB.out.size))
        clear hb5
        refine hK.out _ _ ?_ (fun hHeld => ?_)
        · exact HS5.out
        clear hK K
        try simp only [Act.put, List.getElem_toArray, List.getElem_cons_succ, List.getElem_cons_zero, List.setIfInBounds_toArray, List.set_cons_zero, List.set_cons_succ]
        repeat (first
          | ((with_reducible refine mv_at ?_); (first
            | (refine ⟨_, ?_, rfl, Or.inl ⟨by rfl, ?_⟩, ?_⟩; rotate_left; · (intro w hSw; (try dsimp only at hSw); go_simp <;> with_reducible rfl))
            | (refine ⟨_, undef, rfl, Or.inr ⟨by rfl, rfl⟩, ?_⟩)); try simp only [Act.put, List.getElem_toArray, List.getElem_cons_succ, List.getElem_cons_zero, List.setIfInBounds_toArray, List.set_cons_zero, List.set_cons_succ])
          | ((with_reducible refine mv_cu ?_); refine ⟨_, rfl, by rfl, by assumption, ?_⟩; try simp only [Act.put, List.getElem_toArray, List.getElem_cons_succ, List.getElem_cons_zero, List.setIfInBounds_toArray, List.set_cons_zero, List.set_cons_succ]))
        rcases z2 with _ | _
        · repeat (first
            | ((with_reducible refine mv_at ?_); (first
              | (refine ⟨_, ?_, rfl, Or.inl ⟨by rfl, ?_⟩, ?_⟩; rotate_left; · (intro w hSw; (try dsimp only at hSw); go_simp <;> with_reducible rfl))
              | (refine ⟨_, undef, rfl, Or.inr ⟨by rfl, rfl⟩, ?_⟩)); try simp only [Act.put, List.getElem_toArray, List.getElem_cons_succ, List.getElem_cons_zero, List.setIfInBounds_toArray, List.set_cons_zero, List.set_cons_succ])
            | ((with_reducible refine mv_cu ?_); refine ⟨_, rfl, by rfl, by assumption, ?_⟩; try simp only [Act.put, List.getElem_toArray, List.getElem_cons_succ, List.getElem_cons_zero, List.setIfInBounds_toArray, List.set_cons_zero, List.set_cons_succ]))
          refine mv_end ?_
          go_wp2_with fail
          go_ret
          exact ⟨by rw [HV.out]; rfl, HB5w.out⟩
        · repeat (first
            | ((with_reducible refine mv_at ?_); (first
              | (refine ⟨_, ?_, rfl, Or.inl ⟨by rfl, ?_⟩, ?_⟩; rotate_left; · (intro w hSw; (try dsimp only at hSw); go_simp <;> with_reducible rfl))
              | (refine ⟨_, undef, rfl, Or.inr ⟨by rfl, rfl⟩, ?_⟩)); try simp only [Act.put, List.getElem_toArray, List.getElem_cons_succ, List.getElem_cons_zero, List.setIfInBounds_toArray, List.set_cons_zero, List.set_cons_succ])
            | ((with_reducible refine mv_cu ?_); refine ⟨_, rfl, by rfl, by assumption, ?_⟩; try simp only [Act.put, List.getElem_toArray, List.getElem_cons_succ, List.getElem_cons_zero, List.setIfInBounds_toArray, List.set_cons_zero, List.set_cons_succ]))
          refine mv_c (o := _) rfl (fun K hK => ?_)
          go_simp
          go_at_call 32
          refine (HHs.out w5).mono ?_
          rintro e w6 ⟨rfl, hb6⟩
          have HB6 := Lib.hid (HB5.out.trans (hb6.mono HB5.out.size))
          have HS6 := Lib.hid (HU.out w6 HB6.out)
          have HB6w := Lib.hid (HB.out.trans (HB6.out.mono HB.out.size))
          clear hb6
          refine hK.out _ _ ?_ (fun hHeld => ?_)
          · exact HS6.out
          clear hK K
          try simp only [Act.put, List.getElem_toArray, List.getElem_cons_succ, List.getElem_cons_zero, List.setIfInBounds_toArray, List.set_cons_zero, List.set_cons_succ]
          repeat (first
            | ((with_reducible refine mv_at ?_); (first
              | (refine ⟨_, ?_, rfl, Or.inl ⟨by rfl, ?_⟩, ?_⟩; rotate_left; · (intro w hSw; (try dsimp only at hSw); go_simp <;> with_reducible rfl))
              | (refine ⟨_, undef, rfl, Or.inr ⟨by rfl, rfl⟩, ?_⟩)); try simp only [Act.put, List.getElem_toArray, List.getElem_cons_succ, List.getElem_cons_zero, List.setIfInBounds_toArray, List.set_cons_zero, List.set_cons_succ])
            | ((with_reducible refine mv_cu ?_); refine ⟨_, rfl, by rfl, by assumption, ?_⟩; try simp only [Act.put, List.getElem_toArray, List.getElem_cons_succ, List.getElem_cons_zero, List.setIfInBounds_toArray, List.set_cons_zero, List.set_cons_succ]))
          rcases b3 with _ | _
          · repeat (first
              | ((with_reducible refine mv_at ?_); (first
                | (refine ⟨_, ?_, rfl, Or.inl ⟨by rfl, ?_⟩, ?_⟩; rotate_left; · (intro w hSw; (try dsimp only at hSw); go_simp <;> with_reducible rfl))
                | (refine ⟨_, undef, rfl, Or.inr ⟨by rfl, rfl⟩, ?_⟩)); try simp only [Act.put, List.getElem_toArray, List.getElem_cons_succ, List.getElem_cons_zero, List.setIfInBounds_toArray, List.set_cons_zero, List.set_cons_succ])
              | ((with_reducible refine mv_cu ?_); refine ⟨_, rfl, by rfl, by assumption, ?_⟩; try simp only [Act.put, List.getElem_toArray, List.getElem_cons_succ, List.getElem_cons_zero, List.setIfInBounds_toArray, List.set_cons_zero, List.set_cons_succ]))
            refine mv_end ?_
            go_wp2_with fail
            go_ret
            exact ⟨by rw [HV.out]; rfl, HB6w.out⟩
          · repeat (first
              | ((with_reducible refine mv_at ?_); (first
                | (refine ⟨_, ?_, rfl, Or.inl ⟨by rfl, ?_⟩, ?_⟩; rotate_left; · (intro w hSw; (try dsimp only at hSw); go_simp <;> with_reducible rfl))
                | (refine ⟨_, undef, rfl, Or.inr ⟨by rfl, rfl⟩, ?_⟩)); try simp only [Act.put, List.getElem_toArray, List.getElem_cons_succ, List.getElem_cons_zero, List.setIfInBounds_toArray, List.set_cons_zero, List.set_cons_succ])
              | ((with_reducible refine mv_cu ?_); refine ⟨_, rfl, by rfl, by assumption, ?_⟩; try simp only [Act.put, List.getElem_toArray, List.getElem_cons_succ, List.getElem_cons_zero, List.setIfInBounds_toArray, List.set_cons_zero, List.set_cons_succ]))
            refine mv_c (o := _) rfl (fun K hK => ?_)
            go_simp
            go_at_call 87
            refine (HHp.out w6).mono ?_
            rintro e w7 ⟨rfl, rfl⟩
            refine hK.out _ _ ?_ (fun hHeld => ?_)
            · exact HS6.out
            clear hK K
            try simp only [Act.put, List.getElem_toArray, List.getElem_cons_succ, List.getElem_cons_zero, List.setIfInBounds_toArray, List.set_cons_zero, List.set_cons_succ]
            repeat (first
              | ((with_reducible refine mv_at ?_); (first
                | (refine ⟨_, ?_, rfl, Or.inl ⟨by rfl, ?_⟩, ?_⟩; rotate_left; · (intro w hSw; (try dsimp only at hSw); go_simp <;> with_reducible rfl))
                | (refine ⟨_, undef, rfl, Or.inr ⟨by rfl, rfl⟩, ?_⟩)); try simp only [Act.put, List.getElem_toArray, List.getElem_cons_succ, List.getElem_cons_zero, List.setIfInBounds_toArray, List.set_cons_zero, List.set_cons_succ])
              | ((with_reducible refine mv_cu ?_); refine ⟨_, rfl, by rfl, by assumption, ?_⟩; try simp only [Act.put, List.getElem_toArray, List.getElem_cons_succ, List.getElem_cons_zero, List.setIfInBounds_toArray, List.set_cons_zero, List.set_cons_succ]))
            rcases bh with _ | _
            · repeat (first
                | ((with_reducible refine mv_at ?_); (first
                  | (refine ⟨_, ?_, rfl, Or.inl ⟨by rfl, ?_⟩, ?_⟩; rotate_left; · (intro w hSw; (try dsimp only at hSw); go_simp <;> with_reducible rfl))
                  | (refine ⟨_, undef, rfl, Or.inr ⟨by rfl, rfl⟩, ?_⟩)); try simp only [Act.put, List.getElem_toArray, List.getElem_cons_succ, List.getElem_cons_zero, List.setIfInBounds_toArray, List.set_cons_zero, List.set_cons_succ])
                | ((with_reducible refine mv_cu ?_); refine ⟨_, rfl, by rfl, by assumption, ?_⟩; try simp only [Act.put, List.getElem_toArray, List.getElem_cons_succ, List.getElem_cons_zero, List.setIfInBounds_toArray, List.set_cons_zero, List.set_cons_succ]))
              refine mv_end ?_
              go_wp2_with fail
              go_ret
              exact ⟨by rw [HV.out]; rfl, HB6w.out⟩
            · repeat (first
                | ((with_reducible refine mv_at ?_); (first
                  | (refine ⟨_, ?_, rfl, Or.inl ⟨by rfl, ?_⟩, ?_⟩; rotate_left; · (intro w hSw; (try dsimp only at hSw); go_simp <;> with_reducible rfl))
                  | (refine ⟨_, undef, rfl, Or.inr ⟨by rfl, rfl⟩, ?_⟩)); try simp only [Act.put, List.getElem_toArray, List.getElem_cons_succ, List.getElem_cons_zero, List.setIfInBounds_toArray, List.set_cons_zero, List.set_cons_succ])
                | ((with_reducible refine mv_cu ?_); refine ⟨_, rfl, by rfl, by assumption, ?_⟩; try simp only [Act.put, List.getElem_toArray, List.getElem_cons_succ, List.getElem_cons_zero, List.setIfInBounds_toArray, List.set_cons_zero, List.set_cons_succ]))
              refine mv_end ?_
              go_wp2_with fail
              go_ret
              exact ⟨by rw [HV.out]; rfl, HB6w.out⟩
end Go.Proofs.YtaeeeinpelfppaaGreat.attr
