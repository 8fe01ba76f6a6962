/- The arm 2 of the switch in confluencelaw23.ClockPlays. Conditions as the lemma states. Printed by gen_clockarms.py. -/
import Derived.Test.YtbhhkjkjihenoaaClockSwitch
namespace Go.Proofs.Ytbhhkjkjihenoaa.clockPlays
open Go.RowKit Go.Proofs.Ytbhhkjkjihenoaa.kit Go.Proofs.Ytbhhkjkjihenoaa.mem Go.Proofs.Ytbhhkjkjihenoaa.foot Go.Proofs.Ytbhhkjkjihenoaa.maps Go.Proofs.Ytbhhkjkjihenoaa.clk Go.Proofs.Ytbhhkjkjihenoaa.code
set_option linter.unusedVariables false
set_option linter.unusedSimpArgs false
set_option maxRecDepth 100000 in
set_option maxHeartbeats 4000000 in
theorem arm2 {W wa : World} {B t g i n0 c0 c : Nat} {F : Foot} {A0 A : Option Addr} {R : KV} {now ask kind key n : Int} (Q : Exit → Act → World → Prop)
    (hl2 : i < 50) (hn0 : 0 ≤ now) (hn1 : now ≤ 300 * i) (hRl : R.length ≤ i) (hkey : (Lit.int .i64 key).wf = true) (hn : (Lit.int .i64 n).wf = true) (HJa : Hid (PJ W B F t now R A c wa))
    (HU : Hid (∀ w', Chg F wa w' → w'.cell? ⟨g, 0, none⟩ = some (.int .i64 kind) ∧ w'.cell? ⟨g, 1, none⟩ = some (.int .i64 key) ∧ w'.cell? ⟨g, 2, none⟩ = some (.int .i64 n))) (hgl : g < wa.heap.size) (u2 u3 u4 u10 u11 u12 u13 u14 u15 u16 u17 u18 u19 u20 u21 u22 u23 u24 u25 u26 u27 u28 u29 u30 u31 u32 u33 u34 u35 u36 u37 u38 u39 u40 u41 u42 u43 u44 u45 u46 u47 u48 u49 u50 u51 u52 u53 u54 u55 u56 u57 u58 u59 u60 u61 u62 u63 u64 u65 u66 u67 u68 u69 u70 u71 u72 u73 u74 u75 u76 u77 u78 u79 u80 u81 u82 u83 u84 u85 u86 u87 u88 u89 u90 u91 u92 u93 u94 u95 u96 u97 u98 u99 u100 u101 u102 u103 u104 u105 u106 u107 u108 u109 u110 u111 u112 u113 u114 u115 u116 u117 u118 u119 u120 u121 u122 u123 u124 u125 u126 u127 u128 u129 u130 u131 u132 u133 u134 u135 u136 u137 u138 u139 u140 u141 u142 u143 u144 u145 u146 u147 u148 u149 u150 u151 u152 u153 u154 u155 u156 u157 u158 u159 u160 u161 u162 u163 u164 u165 u166 u167 u168 u169 u170 u171 u172 u173 u174 u175 u176 u177 u178 u179 u180 u181 u182 u183 u184 u185 u186 u187 u188 u189 u190 u191 u192 u193 u194 u195 u196 u197 u198 u199 u200 u201 u202 u203 u204 u205 u206 u207 u208 u209 u210 u211 u212 u213 u214 u215 u216 u217 u218 u219 u220 u221 u222 u223 u224 u225 u226 u227 u228 u229 u230 u231 u232 u233 u234 u235 u236 u237 u238 u239 u240 u241 u242 u243 u244 u245 u246 : Value)
    (hQ : ∀ (R' : KV) (now' : Int) (A' : Option Addr) (c' : Nat) (v4 v10 v11 v12 v13 v14 v15 v16 v17 v18 v19 v20 v47 v48 v49 v50 v51 v52 v53 v54 v55 v56 v57 v58 v59 v60 v61 v62 v63 v64 v65 v66 v67 v68 v69 v70 v71 v72 v73 v74 v75 v76 v77 v78 v79 v80 v81 v82 v83 v84 v85 v86 v87 v88 v89 v90 v91 v92 v93 v94 v95 v96 v97 v98 v99 v100 v101 v102 v103 v104 v105 v106 v107 v108 v109 v110 v111 v112 v113 v114 v115 v116 v117 v118 v119 v120 v121 v122 v123 v124 v125 v126 v127 v128 v129 v130 v131 v132 v133 v134 v135 v136 v137 v138 v139 v140 v141 v142 v143 v144 v145 v146 v147 v148 v149 v150 v151 : Value) (wx : World), 0 ≤ now' → now' ≤ 300 * (i + 1 : Nat) → R'.length ≤ i + 1 → PJ W B F t now' R' A' c' wx → Q .normal { tmps := #[.slice A0 n0 c0, .int .i64 ask, u2, u3, v4, .pointer (some ⟨t, 0, none⟩), .slice A' R'.length c', .int .i64 now', .int .i64 i, .pointer (some ⟨g, 0, none⟩), v10, v11, v12, v13, v14, v15, v16, v17, v18, v19, v20, u21, u22, u23, u24, u25, u26, u27, u28, u29, u30, u31, u32, u33, u34, u35, u36, u37, u38, u39, u40, u41, u42, u43, u44, u45, u46, v47, v48, v49, v50, v51, v52, v53, v54, v55, v56, v57, v58, v59, v60, v61, v62, v63, v64, v65, v66, v67, v68, v69, v70, v71, v72, v73, v74, v75, v76, v77, v78, v79, v80, v81, v82, v83, v84, v85, v86, v87, v88, v89, v90, v91, v92, v93, v94, v95, v96, v97, v98, v99, v100, v101, v102, v103, v104, v105, v106, v107, v108, v109, v110, v111, v112, v113, v114, v115, v116, v117, v118, v119, v120, v121, v122, v123, v124, v125, v126, v127, v128, v129, v130, v131, v132, v133, v134, v135, v136, v137, v138, v139, v140, v141, v142, v143, v144, v145, v146, v147, v148, v149, v150, v151, u152, u153, u154, u155, u156, u157, u158, u159, u160, u161, u162, u163, u164, u165, u166, u167, u168, u169, u170, u171, u172, u173, u174, u175, u176, u177, u178, u179, u180, u181, u182, u183, u184, u185, u186, u187, u188, u189, u190, u191, u192, u193, u194, u195, u196, u197, u198, u199, u200, u201, u202, u203, u204, u205, u206, u207, u208, u209, u210, u211, u212, u213, u214, u215, u216, u217, u218, u219, u220, u221, u222, u223, u224, u225, u226, u227, u228, u229, u230, u231, u232, u233, u234, u235, u236, u237, u238, u239, u240, u241, u242, u243, u244, u245, u246], defers := [] } wx) :
    Code.wp Try.prog (yes (right (no (right (inner (right (left (right (inner (left (right (inner (inner (right (left (right (right (bodyOf Try.f11)))))))))))))))))) Q { tmps := #[.slice A0 n0 c0, .int .i64 ask, u2, u3, u4, .pointer (some ⟨t, 0, none⟩), .slice A R.length c, .int .i64 now, .int .i64 i, .pointer (some ⟨g, 0, none⟩), u10, u11, u12, u13, u14, u15, u16, u17, u18, u19, u20, u21, u22, u23, u24, u25, u26, u27, u28, u29, u30, u31, u32, u33, u34, u35, u36, u37, u38, u39, u40, u41, u42, u43, u44, u45, u46, u47, u48, u49, u50, u51, u52, u53, u54, u55, u56, u57, u58, u59, u60, u61, u62, u63, u64, u65, u66, u67, u68, u69, u70, u71, u72, u73, u74, u75, u76, u77, u78, u79, u80, u81, u82, u83, u84, u85, u86, u87, u88, u89, u90, u91, u92, u93, u94, u95, u96, u97, u98, u99, u100, u101, u102, u103, u104, u105, u106, u107, u108, u109, u110, u111, u112, u113, u114, u115, u116, u117, u118, u119, u120, u121, u122, u123, u124, u125, u126, u127, u128, u129, u130, u131, u132, u133, u134, u135, u136, u137, u138, u139, u140, u141, u142, u143, u144, u145, u146, u147, u148, u149, u150, u151, u152, u153, u154, u155, u156, u157, u158, u159, u160, u161, u162, u163, u164, u165, u166, u167, u168, u169, u170, u171, u172, u173, u174, u175, u176, u177, u178, u179, u180, u181, u182, u183, u184, u185, u186, u187, u188, u189, u190, u191, u192, u193, u194, u195, u196, u197, u198, u199, u200, u201, u202, u203, u204, u205, u206, u207, u208, u209, u210, u211, u212, u213, u214, u215, u216, u217, u218, u219, u220, u221, u222, u223, u224, u225, u226, u227, u228, u229, u230, u231, u232, u233, u234, u235, u236, u237, u238, u239, u240, u241, u242, u243, u244, u245, u246], defers := [] } wa := by
  have HQ := Lib.hid hQ
  obtain ⟨q0, q1, q2⟩ := HU.out _ (Chg.refl _ _)
  clear hQ
  simp only [left, right, inner, yes, no, bodyOf, Try.f11]
  go_upto_region 16 with fail
  have HRT := Lib.hid (refTick_any B R A c wa (by omega) HJa.out.lef HJa.out.row HJa.out.size)
  have HTi := Lib.hid (fun w' hk => Tick_any w' (by omega) (by rw [ab_len]; omega) (F := F) (t := t) (now := now) (es := ab now R) hk)
  rw [ab_gone HJa.out.ris, ab_stay] at HTi
  have htl := rTick_len R
  have HRc : Hid (Rising (rTick R) ∧ Lefts (rTick R)) := ⟨HJa.out.ris.tick, HJa.out.lef.tick⟩
  generalize rTick R = S at *
  generalize rGone R = G at *
  go_wp2_with fail
  refine HRT.out.mono ?_; rintro e w2 ⟨o, g2, A2, c2, Ag, cg, rfl, rfl, rfl, hr2, hg2, hgl2, hb2⟩
  have HR2 := Lib.hid hr2
  have HG2 := Lib.hid (And.intro hg2 hgl2)
  have HB2 := Lib.hid hb2
  clear hr2 hg2 hgl2 hb2 HRT
  go_wp2_with fail
  refine (HTi.out _ (HJa.out.ck.bel HB2.out)).mono ?_; rintro e w3 ⟨L, A3, c3, rfl, rfl, ho3, hl3, hk3, hc3⟩
  have HJ3 := Lib.hid ((HJa.out.bl HB2.out).turn hk3 hc3 HRc.out.1 HRc.out.2 ((HJa.out.bl HB2.out).rows HR2.out hc3))
  have HSa := Lib.hid (same_any (c := c3) (c' := cg) L w3 (by omega) ho3.rg ((HG2.out.1.chg hc3 fun k _ h1 h2 => by have := HG2.out.2 k h1; have := HJa.out.lt k h2; have := HJa.out.size; omega).rg))
  clear ho3 hl3 hk3 hc3 HTi HG2 HR2
  go_wp2_with fail
  refine HSa.out.mono ?_; rintro e w4 ⟨rfl, hb4⟩
  have HJ4 := Lib.hid (HJ3.out.bl hb4)
  clear hb4 HSa
  go_wp2_with fail
  exact HQ.out o (now + 1) A2 c2 _ _ _ _ _ _ _ _ _ _ _ _ _ _ _ _ _ _ _ _ _ _ _ _ _ _ _ _ _ _ _ _ _ _ _ _ _ _ _ _ _ _ _ _ _ _ _ _ _ _ _ _ _ _ _ _ _ _ _ _ _ _ _ _ _ _ _ _ _ _ _ _ _ _ _ _ _ _ _ _ _ _ _ _ _ _ _ _ _ _ _ _ _ _ _ _ _ _ _ _ _ _ _ _ _ _ _ _ _ _ _ _ _ _ _ _ _ _ (by omega) (by omega) (by omega) (HJ4.out)
end Go.Proofs.Ytbhhkjkjihenoaa.clockPlays
