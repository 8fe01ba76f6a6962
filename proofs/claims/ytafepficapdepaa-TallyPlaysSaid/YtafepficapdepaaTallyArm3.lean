/- The arm 3 of the switch in confluencelaw05.TallyPlays. Conditions as the lemma states. Printed by gen_tallyarms.py. -/
import Derived.Test.YtafepficapdepaaTallyPJ
namespace Go.Proofs.Ytafepficapdepaa.tallyPlays
open Go.RowKit Go.Proofs.Ytafepficapdepaa.flt Go.Proofs.Ytafepficapdepaa.kit Go.Proofs.Ytafepficapdepaa.mem Go.Proofs.Ytafepficapdepaa.foot Go.Proofs.Ytafepficapdepaa.maps Go.Proofs.Ytafepficapdepaa.nums Go.Proofs.Ytafepficapdepaa.tally Go.Proofs.Ytafepficapdepaa.code
set_option linter.unusedVariables false
set_option linter.unusedSimpArgs false
set_option maxRecDepth 100000 in
set_option maxHeartbeats 4000000 in
theorem arm3 {W wa : World} {B t g i n0 c0 c : Nat} {F : Foot} {A0 A : Option Addr} {R : KC} {ask kind key u v : Int} (Q : Exit → Act → World → Prop)
    (hi2 : i < 60) (hkey : (Lit.int .u32 key).wf = true) (HJa : Hid (PJ W B F t R A c i wa))
    (HU : Hid (∀ w', Chg F wa w' → w'.cell? ⟨g, 0, none⟩ = some (.int .i64 kind) ∧ w'.cell? ⟨g, 1, none⟩ = some (.int .u32 key) ∧ w'.cell? ⟨g, 2, none⟩ = some (.int .i64 u) ∧ w'.cell? ⟨g, 3, none⟩ = some (.int .i64 v))) (hgl : g < wa.heap.size) (u2 u3 u4 u7 u11 u12 u13 u14 u15 u16 u17 u18 u19 u20 u21 u22 u23 u24 u25 u26 u27 u28 u29 u30 u31 u32 u33 u34 u35 u36 u37 u38 u39 u40 u41 u42 u43 u44 u45 u46 u47 u48 u49 u50 u51 u52 u53 u54 u55 u56 u57 u58 u59 u60 u61 u62 u63 u64 u65 u66 u67 u68 u69 u70 u71 u72 u73 u74 u75 u76 u77 u78 u79 u80 u81 u82 u83 u84 u85 u86 u87 u88 u89 u90 u91 u92 u93 u94 u95 u96 u97 u98 u99 u100 u101 u102 u103 u104 u105 u106 u107 u108 u109 u110 u111 u112 u113 u114 u115 u116 u117 u118 u119 u120 u121 u122 u123 u124 u125 u126 u127 u128 u129 u130 u131 u132 u133 u134 u135 u136 u137 u138 u139 u140 u141 u142 u143 u144 u145 u146 u147 u148 u149 u150 u151 u152 u153 u154 u155 u156 u157 u158 u159 u160 u161 u162 u163 u164 u165 u166 u167 u168 u169 u170 u171 u172 u173 u174 u175 u176 u177 u178 u179 u180 u181 u182 u183 u184 u185 u186 u187 u188 u189 u190 u191 u192 u193 u194 u195 u196 u197 u198 u199 u200 u201 u202 u203 u204 u205 u206 u207 u208 u209 u210 u211 u212 u213 u214 u215 u216 u217 u218 u219 u220 u221 u222 u223 u224 : Value)
    (hQ : ∀ (R' : KC) (A' : Option Addr) (c' : Nat) (v4 v7 v11 v12 v13 v46 v47 v48 v49 v50 v51 v52 v53 v54 v55 v56 v57 v58 v59 v60 v61 v62 v63 v64 v65 v66 v67 v68 v69 v70 v71 v72 v73 v74 v75 v76 v77 v78 v79 v80 v81 v82 v83 v84 v85 v86 v87 v88 v89 v90 v91 v92 v93 v94 v95 v96 v97 v98 v99 v100 v101 v102 v103 v104 v105 v106 v107 v108 v109 v110 v111 v112 v113 v114 v115 v116 v117 v118 v119 v120 v121 v122 v123 v124 v125 v126 v127 v128 v129 v130 v131 v132 v133 : Value) (wx : World), PJ W B F t R' A' c' (i + 1) wx → Q .normal { tmps := #[.slice A0 n0 c0, .int .u32 ask, u2, u3, v4, .pointer (some ⟨t, 0, none⟩), .slice A' R'.length c', v7, .int .i64 i, .pointer (some ⟨g, 0, none⟩), .int .i64 (rAt R key), v11, v12, v13, u14, u15, u16, u17, u18, u19, u20, u21, u22, u23, u24, u25, u26, u27, u28, u29, u30, u31, u32, u33, u34, u35, u36, u37, u38, u39, u40, u41, u42, u43, u44, u45, v46, v47, v48, v49, v50, v51, v52, v53, v54, v55, v56, v57, v58, v59, v60, v61, v62, v63, v64, v65, v66, v67, v68, v69, v70, v71, v72, v73, v74, v75, v76, v77, v78, v79, v80, v81, v82, v83, v84, v85, v86, v87, v88, v89, v90, v91, v92, v93, v94, v95, v96, v97, v98, v99, v100, v101, v102, v103, v104, v105, v106, v107, v108, v109, v110, v111, v112, v113, v114, v115, v116, v117, v118, v119, v120, v121, v122, v123, v124, v125, v126, v127, v128, v129, v130, v131, v132, v133, u134, u135, u136, u137, u138, u139, u140, u141, u142, u143, u144, u145, u146, u147, u148, u149, u150, u151, u152, u153, u154, u155, u156, u157, u158, u159, u160, u161, u162, u163, u164, u165, u166, u167, u168, u169, u170, u171, u172, u173, u174, u175, u176, u177, u178, u179, u180, u181, u182, u183, u184, u185, u186, u187, u188, u189, u190, u191, u192, u193, u194, u195, u196, u197, u198, u199, u200, u201, u202, u203, u204, u205, u206, u207, u208, u209, u210, u211, u212, u213, u214, u215, u216, u217, u218, u219, u220, u221, u222, u223, u224], defers := [] } wx)
    (hC : ∀ (R' : KC) (A' : Option Addr) (c' : Nat) (v4 v7 v11 v12 v13 v46 v47 v48 v49 v50 v51 v52 v53 v54 v55 v56 v57 v58 v59 v60 v61 v62 v63 v64 v65 v66 v67 v68 v69 v70 v71 v72 v73 v74 v75 v76 v77 v78 v79 v80 v81 v82 v83 v84 v85 v86 v87 v88 v89 v90 v91 v92 v93 v94 v95 v96 v97 v98 v99 v100 v101 v102 v103 v104 v105 v106 v107 v108 v109 v110 v111 v112 v113 v114 v115 v116 v117 v118 v119 v120 v121 v122 v123 v124 v125 v126 v127 v128 v129 v130 v131 v132 v133 : Value) (wx : World), PJ W B F t R' A' c' (i + 1) wx → Q (.exit 1) { tmps := #[.slice A0 n0 c0, .int .u32 ask, u2, u3, v4, .pointer (some ⟨t, 0, none⟩), .slice A' R'.length c', v7, .int .i64 i, .pointer (some ⟨g, 0, none⟩), .int .i64 (rAt R key), v11, v12, v13, u14, u15, u16, u17, u18, u19, u20, u21, u22, u23, u24, u25, u26, u27, u28, u29, u30, u31, u32, u33, u34, u35, u36, u37, u38, u39, u40, u41, u42, u43, u44, u45, v46, v47, v48, v49, v50, v51, v52, v53, v54, v55, v56, v57, v58, v59, v60, v61, v62, v63, v64, v65, v66, v67, v68, v69, v70, v71, v72, v73, v74, v75, v76, v77, v78, v79, v80, v81, v82, v83, v84, v85, v86, v87, v88, v89, v90, v91, v92, v93, v94, v95, v96, v97, v98, v99, v100, v101, v102, v103, v104, v105, v106, v107, v108, v109, v110, v111, v112, v113, v114, v115, v116, v117, v118, v119, v120, v121, v122, v123, v124, v125, v126, v127, v128, v129, v130, v131, v132, v133, u134, u135, u136, u137, u138, u139, u140, u141, u142, u143, u144, u145, u146, u147, u148, u149, u150, u151, u152, u153, u154, u155, u156, u157, u158, u159, u160, u161, u162, u163, u164, u165, u166, u167, u168, u169, u170, u171, u172, u173, u174, u175, u176, u177, u178, u179, u180, u181, u182, u183, u184, u185, u186, u187, u188, u189, u190, u191, u192, u193, u194, u195, u196, u197, u198, u199, u200, u201, u202, u203, u204, u205, u206, u207, u208, u209, u210, u211, u212, u213, u214, u215, u216, u217, u218, u219, u220, u221, u222, u223, u224], defers := [] } wx) :
    Code.wp Try.prog (yes (right (no (right (no (right (inner (right (left (right (right (inner (left (right (inner (inner (right (left (right (right (bodyOf Try.f4))))))))))))))))))))) Q { tmps := #[.slice A0 n0 c0, .int .u32 ask, u2, u3, u4, .pointer (some ⟨t, 0, none⟩), .slice A R.length c, u7, .int .i64 i, .pointer (some ⟨g, 0, none⟩), .int .i64 (rAt R key), u11, u12, u13, u14, u15, u16, u17, u18, u19, u20, u21, u22, u23, u24, u25, u26, u27, u28, u29, u30, u31, u32, u33, u34, u35, u36, u37, u38, u39, u40, u41, u42, u43, u44, u45, u46, u47, u48, u49, u50, u51, u52, u53, u54, u55, u56, u57, u58, u59, u60, u61, u62, u63, u64, u65, u66, u67, u68, u69, u70, u71, u72, u73, u74, u75, u76, u77, u78, u79, u80, u81, u82, u83, u84, u85, u86, u87, u88, u89, u90, u91, u92, u93, u94, u95, u96, u97, u98, u99, u100, u101, u102, u103, u104, u105, u106, u107, u108, u109, u110, u111, u112, u113, u114, u115, u116, u117, u118, u119, u120, u121, u122, u123, u124, u125, u126, u127, u128, u129, u130, u131, u132, u133, u134, u135, u136, u137, u138, u139, u140, u141, u142, u143, u144, u145, u146, u147, u148, u149, u150, u151, u152, u153, u154, u155, u156, u157, u158, u159, u160, u161, u162, u163, u164, u165, u166, u167, u168, u169, u170, u171, u172, u173, u174, u175, u176, u177, u178, u179, u180, u181, u182, u183, u184, u185, u186, u187, u188, u189, u190, u191, u192, u193, u194, u195, u196, u197, u198, u199, u200, u201, u202, u203, u204, u205, u206, u207, u208, u209, u210, u211, u212, u213, u214, u215, u216, u217, u218, u219, u220, u221, u222, u223, u224], defers := [] } wa := by
  have HQ := Lib.hid hQ
  have HC := Lib.hid hC
  clear hC
  obtain ⟨q0, q1, q2, q3⟩ := HU.out _ (Chg.refl _ _)
  clear hQ
  have HN := Lib.hid (New_any wa)
  simp only [left, right, inner, yes, no, bodyOf, Try.f4]
  go_wp2_with fail
  refine HN.out.mono ?_; rintro e w2 ⟨o, G, rfl, ho, hG, hb2⟩
  obtain ⟨q0, q1, q2, q3⟩ := HU.out _ (Chg.of_below hb2 _)
  by_cases hb : BadN u v
  · have HA := Lib.hid (fun w => Add_arg o key u v w hb)
    have HJ2 := Lib.hid ((HJa.out.bl hb2).next)
    clear ho hG hb2 HN hb
    go_wp2_with (go_at_call 22; refine (HA.out _).mono ?_; rintro e w' ⟨rfl, rfl⟩)
    exact HC.out R A c _ _ _ _ _ _ _ _ _ _ _ _ _ _ _ _ _ _ _ _ _ _ _ _ _ _ _ _ _ _ _ _ _ _ _ _ _ _ _ _ _ _ _ _ _ _ _ _ _ _ _ _ _ _ _ _ _ _ _ _ _ _ _ _ _ _ _ _ _ _ _ _ _ _ _ _ _ _ _ _ _ _ _ _ _ _ _ _ _ _ _ _ _ _ HJ2.out
  · have hu : 0 ≤ u ∧ u ≤ 1073741824 := by unfold BadN at hb; omega
    have hv : 0 ≤ v ∧ v ≤ 1073741824 := by unfold BadN at hb; omega
    have HA := Lib.hid (add_new key u v w2 hkey hu hv ho)
    have HG := Lib.hid hG
    have HB2 := Lib.hid hb2
    have HJn : Hid (∀ w3 p0, Chg G w2 w3 → Tl w3 G o [(key, p0, (u, v))] → (∀ j, j < wa.heap.size → w3.heap[j]? = wa.heap[j]?) ∧ Calls Try.prog 23 #[.slice A R.length c, .int .u32 key, .int .i64 u, .int .i64 v] w3 (fun e w4 => ∃ A' c', e = .returned (.tuple #[.slice A' (rAdd R key u v).length c', .int .i64 0]) ∧ Calls Try.prog 24 #[.pointer (some ⟨t, 0, none⟩), .pointer (some ⟨o, 0, none⟩)] w4 (fun e w5 => e = .returned (.int .i64 0) ∧ PJ W B F t (rAdd R key u v) A' c' (i + 1) w5))) := fun w3 p0 hc ho3 => by
      have hb3 : Below wa.heap.size wa w3 := HB2.out.trans (hc.below HG.out HB2.out.size)
      refine ⟨fun j hj => hb3.block j hj, ?_⟩
      have hJ3 := HJa.out.bl hb3
      refine (hJ3.ref hi2 key hu hv).mono ?_
      rintro e w4 ⟨A', c', rfl, hr, hb4⟩
      refine ⟨A', c', rfl, ?_⟩
      have hJ4 := hJ3.bl hb4
      obtain ⟨rs, ht, hs⟩ := hJ4.tl
      have hf := hJ4.full hi2 key hu.2 hv.2
      rw [← hs.val hJ4.ris] at hf
      have hl := hs.len
      have hl2 := hJ4.len
      refine (Join_any key u v w4 hkey hu hv (by omega) ht (ho3.bel hb4) (fun j h1 h2 => by have := hJ4.lt j h1; have := HJa.out.size; have := HG.out j h2; omega) hf).mono ?_
      rintro e w5 ⟨rfl, ⟨p, ht5⟩, hc5⟩
      refine ⟨rfl, hJ4.turn (R' := rAdd R key u v) ht5 ?_ hc5 (hJ4.stp hi2 key hkey hu hv) (hJ4.rows hr hc5)⟩
      unfold rAdd
      rw [← hs.val hJ4.ris]
      exact hs.set key p _
    clear hb hu hv ho hG hb2 HN
    generalize rAdd R key u v = S at *
    go_wp2_with (go_at_call 22; refine HA.out.mono ?_; rintro e w3 ⟨rfl, p0, ho3, hc3⟩; obtain ⟨hq, hcall⟩ := HJn.out w3 p0 hc3 ho3; have HCa := Lib.hid hcall; have q1 : w3.cell? ⟨g, 1, none⟩ = some (.int .u32 key) := (cell_of (hq g hgl)).trans (HU.out _ (Chg.refl _ _)).2.1; have q2 : w3.cell? ⟨g, 2, none⟩ = some (.int .i64 u) := (cell_of (hq g hgl)).trans (HU.out _ (Chg.refl _ _)).2.2.1; have q3 : w3.cell? ⟨g, 3, none⟩ = some (.int .i64 v) := (cell_of (hq g hgl)).trans (HU.out _ (Chg.refl _ _)).2.2.2; clear hq hcall hc3 ho3)
    go_wp2_with (go_at_call 23; refine HCa.out.mono ?_; rintro e w4 ⟨A', c', rfl, hj⟩; have HJo := Lib.hid hj; clear hj)
    go_wp2_with (go_at_call 24; refine HJo.out.mono ?_; rintro e w5 ⟨rfl, hj⟩; have HE := Lib.hid hj; clear hj)
    exact HQ.out S A' c' _ _ _ _ _ _ _ _ _ _ _ _ _ _ _ _ _ _ _ _ _ _ _ _ _ _ _ _ _ _ _ _ _ _ _ _ _ _ _ _ _ _ _ _ _ _ _ _ _ _ _ _ _ _ _ _ _ _ _ _ _ _ _ _ _ _ _ _ _ _ _ _ _ _ _ _ _ _ _ _ _ _ _ _ _ _ _ _ _ _ _ _ _ _ HE.out
end Go.Proofs.Ytafepficapdepaa.tallyPlays
