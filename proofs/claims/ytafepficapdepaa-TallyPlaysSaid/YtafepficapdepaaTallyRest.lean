/- What follows the switch in a round of confluencelaw05.TallyPlays. Conditions as the lemma states. Printed by gen_tallyarms.py. -/
import Derived.Test.YtafepficapdepaaTallyPJ
namespace Go.Proofs.Ytafepficapdepaa.tallyPlays
open Go.RowKit Go.Proofs.Ytafepficapdepaa.flt Go.Proofs.Ytafepficapdepaa.kit Go.Proofs.Ytafepficapdepaa.mem Go.Proofs.Ytafepficapdepaa.foot Go.Proofs.Ytafepficapdepaa.maps Go.Proofs.Ytafepficapdepaa.nums Go.Proofs.Ytafepficapdepaa.tally Go.Proofs.Ytafepficapdepaa.code
set_option linter.unusedVariables false
set_option linter.unusedSimpArgs false
set_option maxRecDepth 100000 in
set_option maxHeartbeats 4000000 in
theorem rest {W wa : World} {B t i n0 c0 c : Nat} {F : Foot} {A0 A : Option Addr} {R : KC} {ask : Int} (Q : Exit → Act → World → Prop)
    (hi2 : i < 60) (hask : (Lit.int .u32 ask).wf = true) (HJa : Hid (PJ W B F t R A c (i + 1) wa)) (u2 u3 u4 u7 u9 u10 u11 u12 u13 u14 u15 u16 u17 u18 u19 u20 u21 u22 u23 u24 u25 u26 u27 u28 u29 u30 u31 u32 u33 u34 u35 u36 u37 u38 u39 u40 u41 u42 u43 u44 u45 u46 u47 u48 u49 u50 u51 u52 u53 u54 u55 u56 u57 u58 u59 u60 u61 u62 u63 u64 u65 u66 u67 u68 u69 u70 u71 u72 u73 u74 u75 u76 u77 u78 u79 u80 u81 u82 u83 u84 u85 u86 u87 u88 u89 u90 u91 u92 u93 u94 u95 u96 u97 u98 u99 u100 u101 u102 u103 u104 u105 u106 u107 u108 u109 u110 u111 u112 u113 u114 u115 u116 u117 u118 u119 u120 u121 u122 u123 u124 u125 u126 u127 u128 u129 u130 u131 u132 u133 u134 u135 u136 u137 u138 u139 u140 u141 u142 u143 u144 u145 u146 u147 u148 u149 u150 u151 u152 u153 u154 u155 u156 u157 u158 u159 u160 u161 u162 u163 u164 u165 u166 u167 u168 u169 u170 u171 u172 u173 u174 u175 u176 u177 u178 u179 u180 u181 u182 u183 u184 u185 u186 u187 u188 u189 u190 u191 u192 u193 u194 u195 u196 u197 u198 u199 u200 u201 u202 u203 u204 u205 u206 u207 u208 u209 u210 u211 u212 u213 u214 u215 u216 u217 u218 u219 u220 u221 u222 u223 u224 : Value)
    (hQ : ∀ (v4 v14 v15 v16 v17 v18 v19 v20 v21 v22 v23 v134 v135 v136 v137 v138 v139 v140 v141 v142 v143 v144 v145 v146 v147 v148 v149 v150 v151 v152 v153 v154 v155 v156 v157 v158 v159 v160 v161 v162 v163 v164 v165 v166 v167 v168 v169 v170 v171 v172 v173 v174 v175 v176 v177 v178 v179 v180 v181 v182 v183 v184 v185 v186 v187 v188 v189 v190 v191 v192 v193 v194 v195 v196 v197 v198 v199 v200 v201 v202 v203 v204 v205 v206 v207 v208 v209 v210 v211 v212 v213 v214 v215 v216 v217 v218 v219 v220 v221 v222 v223 : Value) (wx : World), PJ W B F t R A c (i + 1) wx → Q .normal { tmps := #[.slice A0 n0 c0, .int .u32 ask, u2, u3, v4, .pointer (some ⟨t, 0, none⟩), .slice A R.length c, u7, .int .i64 i, u9, u10, u11, u12, u13, v14, v15, v16, v17, v18, v19, v20, v21, v22, v23, u24, u25, u26, u27, u28, u29, u30, u31, u32, u33, u34, u35, u36, u37, u38, u39, u40, u41, u42, u43, u44, u45, u46, u47, u48, u49, u50, u51, u52, u53, u54, u55, u56, u57, u58, u59, u60, u61, u62, u63, u64, u65, u66, u67, u68, u69, u70, u71, u72, u73, u74, u75, u76, u77, u78, u79, u80, u81, u82, u83, u84, u85, u86, u87, u88, u89, u90, u91, u92, u93, u94, u95, u96, u97, u98, u99, u100, u101, u102, u103, u104, u105, u106, u107, u108, u109, u110, u111, u112, u113, u114, u115, u116, u117, u118, u119, u120, u121, u122, u123, u124, u125, u126, u127, u128, u129, u130, u131, u132, u133, v134, v135, v136, v137, v138, v139, v140, v141, v142, v143, v144, v145, v146, v147, v148, v149, v150, v151, v152, v153, v154, v155, v156, v157, v158, v159, v160, v161, v162, v163, v164, v165, v166, v167, v168, v169, v170, v171, v172, v173, v174, v175, v176, v177, v178, v179, v180, v181, v182, v183, v184, v185, v186, v187, v188, v189, v190, v191, v192, v193, v194, v195, v196, v197, v198, v199, v200, v201, v202, v203, v204, v205, v206, v207, v208, v209, v210, v211, v212, v213, v214, v215, v216, v217, v218, v219, v220, v221, v222, v223, u224], defers := [] } wx) :
    Code.wp Try.prog (right (right (right (inner (left (right (inner (inner (right (left (right (right (bodyOf Try.f4))))))))))))) Q { tmps := #[.slice A0 n0 c0, .int .u32 ask, u2, u3, u4, .pointer (some ⟨t, 0, none⟩), .slice A R.length c, u7, .int .i64 i, u9, u10, u11, u12, u13, u14, u15, u16, u17, u18, u19, u20, u21, u22, u23, u24, u25, u26, u27, u28, u29, u30, u31, u32, u33, u34, u35, u36, u37, u38, u39, u40, u41, u42, u43, u44, u45, u46, u47, u48, u49, u50, u51, u52, u53, u54, u55, u56, u57, u58, u59, u60, u61, u62, u63, u64, u65, u66, u67, u68, u69, u70, u71, u72, u73, u74, u75, u76, u77, u78, u79, u80, u81, u82, u83, u84, u85, u86, u87, u88, u89, u90, u91, u92, u93, u94, u95, u96, u97, u98, u99, u100, u101, u102, u103, u104, u105, u106, u107, u108, u109, u110, u111, u112, u113, u114, u115, u116, u117, u118, u119, u120, u121, u122, u123, u124, u125, u126, u127, u128, u129, u130, u131, u132, u133, u134, u135, u136, u137, u138, u139, u140, u141, u142, u143, u144, u145, u146, u147, u148, u149, u150, u151, u152, u153, u154, u155, u156, u157, u158, u159, u160, u161, u162, u163, u164, u165, u166, u167, u168, u169, u170, u171, u172, u173, u174, u175, u176, u177, u178, u179, u180, u181, u182, u183, u184, u185, u186, u187, u188, u189, u190, u191, u192, u193, u194, u195, u196, u197, u198, u199, u200, u201, u202, u203, u204, u205, u206, u207, u208, u209, u210, u211, u212, u213, u214, u215, u216, u217, u218, u219, u220, u221, u222, u223, u224], defers := [] } wa := by
  have HQ := Lib.hid hQ
  obtain ⟨rs, ht, hs⟩ := HJa.out.tl
  have hR := HJa.out.ris
  have hlen := HJa.out.len
  have hrl := hs.len
  have h0 : ∀ r ∈ rs, 0 ≤ r.1 := fun r hr => (wf_u32 (HJa.out.key (r.1, r.2.2) (hs.subset (List.mem_map.2 ⟨r, hr, rfl⟩)))).1
  have HKy : Hid (Calls Try.prog 26 #[.pointer (some ⟨t, 0, none⟩)] wa fun e w' => ∃ (L : List Nat) (A5 : Option Addr) (c5 : Nat), (L.map fun n : Nat => (n : Int)) = R.map (·.1) ∧ e = .returned (.slice A5 R.length c5) ∧ foot.Own w' 22 1 A5 R.length c5 (uv L) ∧ Below wa.heap.size wa w') := by
    refine (Keys_any wa (by omega) h0 ht).mono ?_
    rintro e w' ⟨L, hp, hle, A5, c5, rfl, ho, hlo, hb⟩
    have hL := hs.keys hR hp hle
    have hll : L.length = R.length := by have := congrArg List.length hL; simpa using this
    rw [hll] at ho
    exact ⟨L, A5, c5, hL, by rw [hll], ho, hb⟩
  have HOf : Hid (∀ w' k, Below wa.heap.size wa w' → (Lit.int .u32 k).wf = true → Calls Try.prog 27 #[.pointer (some ⟨t, 0, none⟩), .int .u32 k] w' fun e w2 => e = .returned (.tuple #[.int .i64 (rVal R k).1, .int .i64 (rVal R k).2]) ∧ w' = w2) := fun w' k hb hk => by
    have := Of_any k w' hk (ht.bel hb)
    rw [hs.val hR] at this
    exact this
  have HSu : Hid (∀ w', Below wa.heap.size wa w' → Calls Try.prog 28 #[.pointer (some ⟨t, 0, none⟩)] w' fun e w2 => e = .returned (.tuple #[.int .i64 (sumR R).1, .int .i64 (sumR R).2]) ∧ Below w'.heap.size w' w2) := fun w' hb => by
    have := Sum_any w' (by omega) (ht.bel hb)
    rw [hs.sum] at this
    exact this
  have HAt := Lib.hid (fun w' (hb : Below wa.heap.size wa w') => refAt_any B R A c ask w' (by omega) (HJa.out.bl hb).row)
  have HUp := Lib.hid HJa.out.up
  have HWf : Hid (∀ w' k (hk : k < R.length), Below wa.heap.size wa w' → ∃ b off, A = some ⟨b, off, none⟩ ∧ w'.cell? ⟨b, off + k * 3, none⟩ = some (.int .u32 R[k].1) ∧ w'.cell? ⟨b, off + k * 3 + 1, none⟩ = some (.int .i64 R[k].2.1) ∧ w'.cell? ⟨b, off + k * 3 + 2, none⟩ = some (.int .i64 R[k].2.2)) := fun w' k hk hb => by
    obtain ⟨b, off, e, hbl, x0, x1, x2⟩ := row_cell (HJa.out.bl hb).row hk
    exact ⟨b, off, e, x0, x1, x2⟩
  have HVa : Hid (∀ k (hk : k < R.length), rVal R R[k].1 = R[k].2) := fun k hk => rVal_mem hR hk
  have HRw : Hid (∀ k (hk : k < R.length), (Lit.int .u32 R[k].1).wf = true) := fun k hk => HJa.out.key _ (List.getElem_mem hk)
  have HAsk := Lib.hid hask
  have hl60 : R.length ≤ 60 := by omega
  clear hQ ht hs hrl h0 hask hlen hR
  simp only [left, right, inner, yes, no, bodyOf, Try.f4]
  go_wp2_with fail
  refine HKy.out.mono ?_; rintro e w1 ⟨L, A5, c5, hL, rfl, ho, hb1⟩
  have HL := Lib.hid hL
  have HO := Lib.hid ho
  have HB1 := Lib.hid hb1
  clear hL ho hb1 HKy
  go_wp2_with fail
  go_loopw [15, 16, 17] (fun v15 v16 v17 wr => ∃ k : Nat, k ≤ R.length ∧ v17 = .int .i64 k ∧ v15 = .int .i64 (sumR (R.take k)).1 ∧ v16 = .int .i64 (sumR (R.take k)).2 ∧ Below w1.heap.size w1 wr) (fun _ _ v17 _ => R.length - (intOf v17).toNat)
  case atStart => exact ⟨0, by omega, rfl, rfl, rfl, Below.refl _ _⟩
  case round =>
    obtain ⟨k, hk, rfl, rfl, rfl, hbr⟩ := hrel
    have HBr := Lib.hid hbr
    have HBw := Lib.hid (HB1.out.trans (hbr.mono HB1.out.size))
    have HOw := Lib.hid (foot.Own.bel HO.out hbr)
    clear hbr HO HB1
    by_cases hlt : k < R.length
    · obtain ⟨b, off, rfl, x0, x1, x2⟩ := HWf.out _ k hlt HBw.out
      have HOk := Lib.hid (HOf.out _ R[k].1 HBw.out (HRw.out k hlt))
      rw [HVa.out k hlt] at HOk
      obtain ⟨g, o5, rfl⟩ := foot.Own.form HOw.out (by omega)
      obtain ⟨q0, _, _⟩ := foot.Own.at_ HOw.out k (u := .int .u32 R[k].1) (nums_at HL.out hlt)
      have hlt' : (k : Int) < (R.length : Int) := by omega
      have HZ := Lib.hid (sum_step (R := R) hlt)
      obtain ⟨z3, z4⟩ := sum_wrap (HUp.out.mono (n := 64424509440) (by omega)) hl60 hlt
      generalize sumR (R.take k) = s1 at *
      generalize R[k].1 = y0 at *
      generalize R[k].2.1 = y1 at *
      generalize R[k].2.2 = y2 at *
      go_wp2_with (go_at_call 27; refine HOk.out.mono ?_; rintro e w2 ⟨rfl, rfl⟩)
      go_region_held3 (fun w' => w'.cell? ⟨g, o5 + k, none⟩ = some (.int .u32 y0) ∧ w'.cell? ⟨b, off + k * 3, none⟩ = some (.int .u32 y0) ∧ w'.cell? ⟨b, off + k * 3 + 1, none⟩ = some (.int .i64 y1) ∧ w'.cell? ⟨b, off + k * 3 + 2, none⟩ = some (.int .i64 y2)) (exact ⟨by go_simp, by go_simp, by go_simp, by go_simp⟩) (fail)
      go_wp2_with fail
      go_roundw
      case rel => exact ⟨k + 1, by omega, by go_num, by rw [HZ.out.1], by rw [HZ.out.2], by first | exact HBr.out | exact HBr.out.drew⟩
      case measure => simp [intOf]; omega
    · obtain rfl : k = R.length := by omega
      rw [List.take_length]
      have HOa := Lib.hid (fun w' h => HOf.out w' ask h HAsk.out)
      rcases hx : rIdx R ask with _ | j
      case' none =>
        have ez : rAt R ask = -1 := by unfold rAt; rw [hx]
        rw [rVal_none hx] at HOa
      case' some =>
        have ez : rAt R ask = j := by unfold rAt; rw [hx]
        generalize rVal R ask = y at *
      all_goals
        rw [ez] at HAt
        clear ez hx HOf HWf HVa HRw HUp HL HOw
        generalize sumR R = s at *
        go_wp2_with fail
        refine (HSu.out _ HBw.out).mono ?_; rintro e w3 ⟨rfl, hb3⟩
        have HB3 := Lib.hid (HBw.out.trans (hb3.mono HBw.out.size))
        clear hb3
        go_wp2_with fail
        refine (HOa.out _ HB3.out).mono ?_; rintro e w4 ⟨rfl, rfl⟩
        go_wp2_with fail
        refine (HAt.out _ HB3.out).mono ?_; rintro e w5 ⟨rfl, hb5⟩
        have HB5 := Lib.hid (HB3.out.trans (hb5.mono HB3.out.size))
        clear hb5
        go_wp2_with fail
        exact HQ.out _ _ _ _ _ _ _ _ _ _ _ _ _ _ _ _ _ _ _ _ _ _ _ _ _ _ _ _ _ _ _ _ _ _ _ _ _ _ _ _ _ _ _ _ _ _ _ _ _ _ _ _ _ _ _ _ _ _ _ _ _ _ _ _ _ _ _ _ _ _ _ _ _ _ _ _ _ _ _ _ _ _ _ _ _ _ _ _ _ _ _ _ _ _ _ _ _ _ _ _ _ _ (HJa.out.bl HB5.out)
end Go.Proofs.Ytafepficapdepaa.tallyPlays
