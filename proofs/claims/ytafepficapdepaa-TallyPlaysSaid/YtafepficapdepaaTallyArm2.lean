/- The arm 2 of the switch in confluencelaw05.TallyPlays. Conditions as the lemma states. Printed by gen_tallyarms.py. -/
import Derived.Test.YtafepficapdepaaTallyPJ
namespace Go.Proofs.Ytafepficapdepaa.tallyPlays
open Go.RowKit Go.Proofs.Ytafepficapdepaa.flt Go.Proofs.Ytafepficapdepaa.kit Go.Proofs.Ytafepficapdepaa.mem Go.Proofs.Ytafepficapdepaa.foot Go.Proofs.Ytafepficapdepaa.maps Go.Proofs.Ytafepficapdepaa.nums Go.Proofs.Ytafepficapdepaa.tally Go.Proofs.Ytafepficapdepaa.code
set_option linter.unusedVariables false
set_option linter.unusedSimpArgs false
set_option maxRecDepth 100000 in
set_option maxHeartbeats 4000000 in
theorem arm2 {W wa : World} {B t g i n0 c0 c : Nat} {F : Foot} {A0 A : Option Addr} {R : KC} {ask kind key u v : Int} (Q : Exit → Act → World → Prop)
    (hi2 : i < 60) (hkey : (Lit.int .u32 key).wf = true) (HJa : Hid (PJ W B F t R A c i wa))
    (HU : Hid (∀ w', Chg F wa w' → w'.cell? ⟨g, 0, none⟩ = some (.int .i64 kind) ∧ w'.cell? ⟨g, 1, none⟩ = some (.int .u32 key) ∧ w'.cell? ⟨g, 2, none⟩ = some (.int .i64 u) ∧ w'.cell? ⟨g, 3, none⟩ = some (.int .i64 v))) (hgl : g < wa.heap.size) (u2 u3 u4 u7 u11 u12 u13 u14 u15 u16 u17 u18 u19 u20 u21 u22 u23 u24 u25 u26 u27 u28 u29 u30 u31 u32 u33 u34 u35 u36 u37 u38 u39 u40 u41 u42 u43 u44 u45 u46 u47 u48 u49 u50 u51 u52 u53 u54 u55 u56 u57 u58 u59 u60 u61 u62 u63 u64 u65 u66 u67 u68 u69 u70 u71 u72 u73 u74 u75 u76 u77 u78 u79 u80 u81 u82 u83 u84 u85 u86 u87 u88 u89 u90 u91 u92 u93 u94 u95 u96 u97 u98 u99 u100 u101 u102 u103 u104 u105 u106 u107 u108 u109 u110 u111 u112 u113 u114 u115 u116 u117 u118 u119 u120 u121 u122 u123 u124 u125 u126 u127 u128 u129 u130 u131 u132 u133 u134 u135 u136 u137 u138 u139 u140 u141 u142 u143 u144 u145 u146 u147 u148 u149 u150 u151 u152 u153 u154 u155 u156 u157 u158 u159 u160 u161 u162 u163 u164 u165 u166 u167 u168 u169 u170 u171 u172 u173 u174 u175 u176 u177 u178 u179 u180 u181 u182 u183 u184 u185 u186 u187 u188 u189 u190 u191 u192 u193 u194 u195 u196 u197 u198 u199 u200 u201 u202 u203 u204 u205 u206 u207 u208 u209 u210 u211 u212 u213 u214 u215 u216 u217 u218 u219 u220 u221 u222 u223 u224 : Value)
    (hQ : ∀ (R' : KC) (A' : Option Addr) (c' : Nat) (v4 v7 v11 v12 v13 v46 v47 v48 v49 v50 v51 v52 v53 v54 v55 v56 v57 v58 v59 v60 v61 v62 v63 v64 v65 v66 v67 v68 v69 v70 v71 v72 v73 v74 v75 v76 v77 v78 v79 v80 v81 v82 v83 v84 v85 v86 v87 v88 v89 v90 v91 v92 v93 v94 v95 v96 v97 v98 v99 v100 v101 v102 v103 v104 v105 v106 v107 v108 v109 v110 v111 v112 v113 v114 v115 v116 v117 v118 v119 v120 v121 v122 v123 v124 v125 v126 v127 v128 v129 v130 v131 v132 v133 : Value) (wx : World), PJ W B F t R' A' c' (i + 1) wx → Q .normal { tmps := #[.slice A0 n0 c0, .int .u32 ask, u2, u3, v4, .pointer (some ⟨t, 0, none⟩), .slice A' R'.length c', v7, .int .i64 i, .pointer (some ⟨g, 0, none⟩), .int .i64 (rAt R key), v11, v12, v13, u14, u15, u16, u17, u18, u19, u20, u21, u22, u23, u24, u25, u26, u27, u28, u29, u30, u31, u32, u33, u34, u35, u36, u37, u38, u39, u40, u41, u42, u43, u44, u45, v46, v47, v48, v49, v50, v51, v52, v53, v54, v55, v56, v57, v58, v59, v60, v61, v62, v63, v64, v65, v66, v67, v68, v69, v70, v71, v72, v73, v74, v75, v76, v77, v78, v79, v80, v81, v82, v83, v84, v85, v86, v87, v88, v89, v90, v91, v92, v93, v94, v95, v96, v97, v98, v99, v100, v101, v102, v103, v104, v105, v106, v107, v108, v109, v110, v111, v112, v113, v114, v115, v116, v117, v118, v119, v120, v121, v122, v123, v124, v125, v126, v127, v128, v129, v130, v131, v132, v133, u134, u135, u136, u137, u138, u139, u140, u141, u142, u143, u144, u145, u146, u147, u148, u149, u150, u151, u152, u153, u154, u155, u156, u157, u158, u159, u160, u161, u162, u163, u164, u165, u166, u167, u168, u169, u170, u171, u172, u173, u174, u175, u176, u177, u178, u179, u180, u181, u182, u183, u184, u185, u186, u187, u188, u189, u190, u191, u192, u193, u194, u195, u196, u197, u198, u199, u200, u201, u202, u203, u204, u205, u206, u207, u208, u209, u210, u211, u212, u213, u214, u215, u216, u217, u218, u219, u220, u221, u222, u223, u224], defers := [] } wx) :
    Code.wp Try.prog (yes (right (no (right (inner (right (left (right (right (inner (left (right (inner (inner (right (left (right (right (bodyOf Try.f4))))))))))))))))))) Q { tmps := #[.slice A0 n0 c0, .int .u32 ask, u2, u3, u4, .pointer (some ⟨t, 0, none⟩), .slice A R.length c, u7, .int .i64 i, .pointer (some ⟨g, 0, none⟩), .int .i64 (rAt R key), u11, u12, u13, u14, u15, u16, u17, u18, u19, u20, u21, u22, u23, u24, u25, u26, u27, u28, u29, u30, u31, u32, u33, u34, u35, u36, u37, u38, u39, u40, u41, u42, u43, u44, u45, u46, u47, u48, u49, u50, u51, u52, u53, u54, u55, u56, u57, u58, u59, u60, u61, u62, u63, u64, u65, u66, u67, u68, u69, u70, u71, u72, u73, u74, u75, u76, u77, u78, u79, u80, u81, u82, u83, u84, u85, u86, u87, u88, u89, u90, u91, u92, u93, u94, u95, u96, u97, u98, u99, u100, u101, u102, u103, u104, u105, u106, u107, u108, u109, u110, u111, u112, u113, u114, u115, u116, u117, u118, u119, u120, u121, u122, u123, u124, u125, u126, u127, u128, u129, u130, u131, u132, u133, u134, u135, u136, u137, u138, u139, u140, u141, u142, u143, u144, u145, u146, u147, u148, u149, u150, u151, u152, u153, u154, u155, u156, u157, u158, u159, u160, u161, u162, u163, u164, u165, u166, u167, u168, u169, u170, u171, u172, u173, u174, u175, u176, u177, u178, u179, u180, u181, u182, u183, u184, u185, u186, u187, u188, u189, u190, u191, u192, u193, u194, u195, u196, u197, u198, u199, u200, u201, u202, u203, u204, u205, u206, u207, u208, u209, u210, u211, u212, u213, u214, u215, u216, u217, u218, u219, u220, u221, u222, u223, u224], defers := [] } wa := by
  have HQ := Lib.hid hQ
  obtain ⟨q0, q1, q2, q3⟩ := HU.out _ (Chg.refl _ _)
  clear hQ
  obtain ⟨i0, hi0, hz0, hz1, hz2⟩ := info_parts info_row
  have Hi := Lib.hid hi0
  have Hz0 := Lib.hid hz0
  have Hz1 := Lib.hid hz1
  have Hz2 := Lib.hid hz2
  clear hi0 hz0 hz1 hz2
  have HT := Lib.hid (HJa.out.dropT key hkey)
  rcases hx : rIdx R key with _ | j
  case none =>
    have hz : rAt R key = -1 := by unfold rAt; rw [hx]
    rw [rCut_none hx, hx] at HT
    rw [hz] at HQ ⊢
    clear hz hx
    simp only [left, right, inner, yes, no, bodyOf, Try.f4]
    go_wp2_with (go_at_call 21; refine HT.out.mono ?_; rintro e w2 ⟨rfl, hc, rs, ht, hs⟩; have HE := Lib.hid (HJa.out.turn ht hs hc HJa.out.same (HJa.out.rows HJa.out.row hc)); clear ht hs hc)
    exact HQ.out R A c _ _ _ _ _ _ _ _ _ _ _ _ _ _ _ _ _ _ _ _ _ _ _ _ _ _ _ _ _ _ _ _ _ _ _ _ _ _ _ _ _ _ _ _ _ _ _ _ _ _ _ _ _ _ _ _ _ _ _ _ _ _ _ _ _ _ _ _ _ _ _ _ _ _ _ _ _ _ _ _ _ _ _ _ _ _ _ _ _ _ _ _ _ _ HE.out
  case some =>
    obtain ⟨hil, hk, _⟩ := rIdx_lt hx
    have hz : rAt R key = j := by unfold rAt; rw [hx]
    have HS := Lib.hid (HJa.out.cut key)
    have HX := Lib.hid (rCut_some HJa.out.ris hx)
    rw [hx] at HT
    rw [hz] at HQ ⊢
    have hl := HJa.out.len
    have hi1 : (j : Int) < R.length := by omega
    have klo := rcut_lo A c R.length j HJa.out.row.nil HJa.out.row.cap HJa.out.row.max (by omega)
    obtain ⟨A5, c5, h5a, h5b, h5c, khi, h5r⟩ := rcut_hi A c R.length (j + 1) HJa.out.row.nil HJa.out.row.cap HJa.out.row.max (by omega)
    rw [show ((j + 1 : Nat) : Int) = (j : Int) + 1 from rfl] at khi
    have H5 := Lib.hid h5a
    have H5r := Lib.hid h5r
    have hw : IntKind.i64.wrap ((j : Int) + 1) = (j : Int) + 1 := IntWalk.i64_in _ (by omega)
    clear hz hx hk h5a h5b h5c h5r
    generalize rCut R key = S at *
    simp only [left, right, inner, yes, no, bodyOf, Try.f4]
    go_upto_region 20 with (go_at_call 21; refine HT.out.mono ?_; rintro e w2 ⟨rfl, hc, rs, ht, hs⟩; have HE := Lib.hid (And.intro hc (And.intro ht hs)); have HR := Lib.hid (HJa.out.rows HJa.out.row hc); clear ht hs hc)
    have HA0 : Hid (Acc w2 58 3 (w2.alloc (.cells #[] 58)) (some ⟨w2.heap.size, 0, none⟩) 0 0 []) := Acc.start ((Below.refl _ _).alloc (Nat.le_refl _) _) (Bk.new w2 _ _) (Nat.le_refl _)
    go_region_held3 (fun _ => True) (exact trivial) (first
      | (refine step_app _ (by rfl) (.tmp 95) (.tmp 98) _ (by rfl) 58 i0 _ 3 24 Try.underlying52 Hi.out Hz0.out Hz1.out Hz2.out rfl (by omega) (some ⟨w2.heap.size, 0, none⟩) 0 0 [] (by rfl) HA0.out.own _ _ j c HR.out.nil ((kv3 R).take (j * 3)) (by rfl) (HA0.out.rg (HR.out.rg.take (by omega))) (fun u hu => kv3_one R u (List.mem_of_mem_take hu)) (by unfold maxLen; omega) (by omega) ?_; intro A3 c3 w4 ho3 hc3 hf3; go_must (rw [Nat.zero_add j] at ho3 ⊢); go_must (have HA3 := Lib.hid (acc_ap hc3 hf3 ho3 HA0.out rfl rfl rfl rfl)); clear ho3 hc3 hf3)
      | (refine step_app _ (by rfl) (.tmp 99) (.tmp 103) _ (by rfl) 58 i0 _ 3 24 Try.underlying52 Hi.out Hz0.out Hz1.out Hz2.out rfl (by omega) A3 j c3 ([] ++ ((kv3 R).take (j * 3))) (by rfl) HA3.out.own _ A5 (R.length - (j + 1)) c5 H5.out ((kv3 R).drop ((j + 1) * 3)) (by rfl) (H5r.out _ _ _ (HA3.out.rg HR.out.rg)) (fun u hu => kv3_one R u (List.mem_of_mem_drop hu)) (by unfold maxLen; omega) (by omega) ?_; intro A4 c4 w5 ho4 hc4 hf4; go_must (have HA4 := Lib.hid (acc_ap hc4 hf4 ho4 HA3.out rfl rfl rfl rfl)); clear ho4 hc4 hf4))
    go_wp2_with fail
    have hn : j + (R.length - (j + 1)) = S.length := by rw [HX.out]; simp; omega
    have hxs : [] ++ (kv3 R).take (j * 3) ++ (kv3 R).drop ((j + 1) * 3) = kv3 S := by rw [HX.out, kv3_app, kv3_take, kv3_drop]; rfl
    obtain ⟨h1, h2, h3⟩ := HE.out
    have hD := HJa.out.done h1 h2 h3 HS.out HA4.out hn hxs
    have h := HQ.out S A4 c4
    rw [← hn] at h
    exact h _ _ _ _ _ _ _ _ _ _ _ _ _ _ _ _ _ _ _ _ _ _ _ _ _ _ _ _ _ _ _ _ _ _ _ _ _ _ _ _ _ _ _ _ _ _ _ _ _ _ _ _ _ _ _ _ _ _ _ _ _ _ _ _ _ _ _ _ _ _ _ _ _ _ _ _ _ _ _ _ _ _ _ _ _ _ _ _ _ _ _ _ _ _ hD
end Go.Proofs.Ytafepficapdepaa.tallyPlays
