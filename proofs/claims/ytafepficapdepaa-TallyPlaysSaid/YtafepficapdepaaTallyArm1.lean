/- The arm 1 of the switch in confluencelaw05.TallyPlays. Conditions as the lemma states. Printed by gen_tallyarms.py. -/
import Derived.Test.YtafepficapdepaaTallyReg
namespace Go.Proofs.Ytafepficapdepaa.tallyPlays
open Go.RowKit Go.Proofs.Ytafepficapdepaa.flt Go.Proofs.Ytafepficapdepaa.kit Go.Proofs.Ytafepficapdepaa.mem Go.Proofs.Ytafepficapdepaa.foot Go.Proofs.Ytafepficapdepaa.maps Go.Proofs.Ytafepficapdepaa.nums Go.Proofs.Ytafepficapdepaa.tally Go.Proofs.Ytafepficapdepaa.code
set_option linter.unusedVariables false
set_option linter.unusedSimpArgs false
set_option maxRecDepth 100000 in
set_option maxHeartbeats 4000000 in
theorem arm1 {W wa : World} {B t g i n0 c0 c : Nat} {F : Foot} {A0 A : Option Addr} {R : KC} {ask kind key u v : Int} (Q : Exit → Act → World → Prop)
    (hi2 : i < 60) (hkey : (Lit.int .u32 key).wf = true) (HJa : Hid (PJ W B F t R A c i wa))
    (HU : Hid (∀ w', Chg F wa w' → w'.cell? ⟨g, 0, none⟩ = some (.int .i64 kind) ∧ w'.cell? ⟨g, 1, none⟩ = some (.int .u32 key) ∧ w'.cell? ⟨g, 2, none⟩ = some (.int .i64 u) ∧ w'.cell? ⟨g, 3, none⟩ = some (.int .i64 v))) (hgl : g < wa.heap.size) (u2 u3 u4 u7 u11 u12 u13 u14 u15 u16 u17 u18 u19 u20 u21 u22 u23 u24 u25 u26 u27 u28 u29 u30 u31 u32 u33 u34 u35 u36 u37 u38 u39 u40 u41 u42 u43 u44 u45 u46 u47 u48 u49 u50 u51 u52 u53 u54 u55 u56 u57 u58 u59 u60 u61 u62 u63 u64 u65 u66 u67 u68 u69 u70 u71 u72 u73 u74 u75 u76 u77 u78 u79 u80 u81 u82 u83 u84 u85 u86 u87 u88 u89 u90 u91 u92 u93 u94 u95 u96 u97 u98 u99 u100 u101 u102 u103 u104 u105 u106 u107 u108 u109 u110 u111 u112 u113 u114 u115 u116 u117 u118 u119 u120 u121 u122 u123 u124 u125 u126 u127 u128 u129 u130 u131 u132 u133 u134 u135 u136 u137 u138 u139 u140 u141 u142 u143 u144 u145 u146 u147 u148 u149 u150 u151 u152 u153 u154 u155 u156 u157 u158 u159 u160 u161 u162 u163 u164 u165 u166 u167 u168 u169 u170 u171 u172 u173 u174 u175 u176 u177 u178 u179 u180 u181 u182 u183 u184 u185 u186 u187 u188 u189 u190 u191 u192 u193 u194 u195 u196 u197 u198 u199 u200 u201 u202 u203 u204 u205 u206 u207 u208 u209 u210 u211 u212 u213 u214 u215 u216 u217 u218 u219 u220 u221 u222 u223 u224 : Value)
    (hQ : ∀ (R' : KC) (A' : Option Addr) (c' : Nat) (v4 v7 v11 v12 v13 v46 v47 v48 v49 v50 v51 v52 v53 v54 v55 v56 v57 v58 v59 v60 v61 v62 v63 v64 v65 v66 v67 v68 v69 v70 v71 v72 v73 v74 v75 v76 v77 v78 v79 v80 v81 v82 v83 v84 v85 v86 v87 v88 v89 v90 v91 v92 v93 v94 v95 v96 v97 v98 v99 v100 v101 v102 v103 v104 v105 v106 v107 v108 v109 v110 v111 v112 v113 v114 v115 v116 v117 v118 v119 v120 v121 v122 v123 v124 v125 v126 v127 v128 v129 v130 v131 v132 v133 : Value) (wx : World), PJ W B F t R' A' c' (i + 1) wx → Q .normal { tmps := #[.slice A0 n0 c0, .int .u32 ask, u2, u3, v4, .pointer (some ⟨t, 0, none⟩), .slice A' R'.length c', v7, .int .i64 i, .pointer (some ⟨g, 0, none⟩), .int .i64 (rAt R key), v11, v12, v13, u14, u15, u16, u17, u18, u19, u20, u21, u22, u23, u24, u25, u26, u27, u28, u29, u30, u31, u32, u33, u34, u35, u36, u37, u38, u39, u40, u41, u42, u43, u44, u45, v46, v47, v48, v49, v50, v51, v52, v53, v54, v55, v56, v57, v58, v59, v60, v61, v62, v63, v64, v65, v66, v67, v68, v69, v70, v71, v72, v73, v74, v75, v76, v77, v78, v79, v80, v81, v82, v83, v84, v85, v86, v87, v88, v89, v90, v91, v92, v93, v94, v95, v96, v97, v98, v99, v100, v101, v102, v103, v104, v105, v106, v107, v108, v109, v110, v111, v112, v113, v114, v115, v116, v117, v118, v119, v120, v121, v122, v123, v124, v125, v126, v127, v128, v129, v130, v131, v132, v133, u134, u135, u136, u137, u138, u139, u140, u141, u142, u143, u144, u145, u146, u147, u148, u149, u150, u151, u152, u153, u154, u155, u156, u157, u158, u159, u160, u161, u162, u163, u164, u165, u166, u167, u168, u169, u170, u171, u172, u173, u174, u175, u176, u177, u178, u179, u180, u181, u182, u183, u184, u185, u186, u187, u188, u189, u190, u191, u192, u193, u194, u195, u196, u197, u198, u199, u200, u201, u202, u203, u204, u205, u206, u207, u208, u209, u210, u211, u212, u213, u214, u215, u216, u217, u218, u219, u220, u221, u222, u223, u224], defers := [] } wx) :
    Code.wp Try.prog (yes (right (inner (right (left (right (right (inner (left (right (inner (inner (right (left (right (right (bodyOf Try.f4))))))))))))))))) Q { tmps := #[.slice A0 n0 c0, .int .u32 ask, u2, u3, u4, .pointer (some ⟨t, 0, none⟩), .slice A R.length c, u7, .int .i64 i, .pointer (some ⟨g, 0, none⟩), .int .i64 (rAt R key), u11, u12, u13, u14, u15, u16, u17, u18, u19, u20, u21, u22, u23, u24, u25, u26, u27, u28, u29, u30, u31, u32, u33, u34, u35, u36, u37, u38, u39, u40, u41, u42, u43, u44, u45, u46, u47, u48, u49, u50, u51, u52, u53, u54, u55, u56, u57, u58, u59, u60, u61, u62, u63, u64, u65, u66, u67, u68, u69, u70, u71, u72, u73, u74, u75, u76, u77, u78, u79, u80, u81, u82, u83, u84, u85, u86, u87, u88, u89, u90, u91, u92, u93, u94, u95, u96, u97, u98, u99, u100, u101, u102, u103, u104, u105, u106, u107, u108, u109, u110, u111, u112, u113, u114, u115, u116, u117, u118, u119, u120, u121, u122, u123, u124, u125, u126, u127, u128, u129, u130, u131, u132, u133, u134, u135, u136, u137, u138, u139, u140, u141, u142, u143, u144, u145, u146, u147, u148, u149, u150, u151, u152, u153, u154, u155, u156, u157, u158, u159, u160, u161, u162, u163, u164, u165, u166, u167, u168, u169, u170, u171, u172, u173, u174, u175, u176, u177, u178, u179, u180, u181, u182, u183, u184, u185, u186, u187, u188, u189, u190, u191, u192, u193, u194, u195, u196, u197, u198, u199, u200, u201, u202, u203, u204, u205, u206, u207, u208, u209, u210, u211, u212, u213, u214, u215, u216, u217, u218, u219, u220, u221, u222, u223, u224], defers := [] } wa := by
  have HQ := Lib.hid hQ
  obtain ⟨q0, q1, q2, q3⟩ := HU.out _ (Chg.refl _ _)
  clear hQ
  obtain ⟨i0, hi0, hz0, hz1, hz2⟩ := info_parts info_row
  have Hi := Lib.hid hi0
  have Hz0 := Lib.hid hz0
  have Hz1 := Lib.hid hz1
  have Hz2 := Lib.hid hz2
  clear hi0 hz0 hz1 hz2
  have HT := Lib.hid (HJa.out.turnT hi2 key hkey)
  rcases hx : rIdx R key with _ | j
  case none =>
    have hz : rAt R key = -1 := by unfold rAt; rw [hx]
    have hT : rTurn R key = R := by unfold rTurn; rw [hx]; rfl
    rw [hT] at HT
    rw [hz] at HQ ⊢
    clear hT hz hx
    simp only [left, right, inner, yes, no, bodyOf, Try.f4]
    go_wp2_with (go_at_call 20; refine HT.out.mono ?_; rintro e w2 ⟨rfl, hc, rs, ht, hs⟩; have HE := Lib.hid (HJa.out.turn ht hs hc HJa.out.same (HJa.out.rows HJa.out.row hc)); clear ht hs hc)
    exact HQ.out R A c _ _ _ _ _ _ _ _ _ _ _ _ _ _ _ _ _ _ _ _ _ _ _ _ _ _ _ _ _ _ _ _ _ _ _ _ _ _ _ _ _ _ _ _ _ _ _ _ _ _ _ _ _ _ _ _ _ _ _ _ _ _ _ _ _ _ _ _ _ _ _ _ _ _ _ _ _ _ _ _ _ _ _ _ _ _ _ _ _ _ _ _ _ _ HE.out
  case some =>
    obtain ⟨hil, hk, _⟩ := rIdx_lt hx
    have hz : rAt R key = j := by unfold rAt; rw [hx]
    have hT : rTurn R key = R.set j (R[j].1, R[j].2.2, R[j].2.1) := by unfold rTurn; rw [hx, hk]; simp only [Option.isSome_some, if_true]; rw [rSet_hit HJa.out.ris hx, rVal_idx hx hil]
    have HS := Lib.hid (HJa.out.turnS key hkey)
    rw [hT] at HT HS
    rw [hz] at HQ ⊢
    have HK := Lib.hid (kv3_at R j hil)
    have HX := Lib.hid (kv3_set R j hil R[j].2.2 R[j].2.1)
    have hl := HJa.out.len
    have hi1 : (j : Int) < R.length := by omega
    have HL : Hid ((R.set j (R[j].1, R[j].2.2, R[j].2.1)).length = R.length) := by rw [Hid, List.length_set]
    obtain ⟨b, off, hA, hb, _, _, _⟩ := row_cell HJa.out.row hil
    subst hA
    clear hT hz hx hk
    generalize R.set j (R[j].1, R[j].2.2, R[j].2.1) = S at *
    generalize R[j].2.1 = x1 at *
    generalize R[j].2.2 = x2 at *
    generalize R[j].1 = x0 at *
    simp only [left, right, inner, yes, no, bodyOf, Try.f4]
    go_upto_region 14 with (go_at_call 20; refine HT.out.mono ?_; rintro e w1 ⟨rfl, hc, rs, ht, hs⟩; have HE := Lib.hid (And.intro hc (And.intro ht hs)); have HR := Lib.hid (HJa.out.rows HJa.out.row hc); clear ht hs hc)
    have HA0 : Hid (Acc w1 58 3 (w1.alloc (.cells #[] 58)) (some ⟨w1.heap.size, 0, none⟩) 0 0 []) := Acc.start ((Below.refl _ _).alloc (Nat.le_refl _) _) (Bk.new w1 _ _) (Nat.le_refl _)
    go_upto_region 15 with (at_builtin; refine wpList_app _ rfl (.tmp 63) (.tmp 64) _ rfl 58 i0 _ 3 24 Try.underlying52 Hi.out Hz0.out Hz1.out Hz2.out rfl (by omega) (some ⟨w1.heap.size, 0, none⟩) 0 0 [] rfl HA0.out.own _ (some ⟨b, off, none⟩) R.length c HR.out.nil (kv3 R) rfl (HA0.out.rg HR.out.rg) (kv3_one R) (by unfold maxLen; omega) (by omega) ?_; intro A3 c3 w3 ho3 hc3 hf3; have HA3 := Lib.hid (HA0.out.app ho3 hc3 hf3); obtain ⟨g3, off3, rfl⟩ := foot.Own.form ho3 (by omega); obtain ⟨s1, sf3, sl3⟩ := foot.Own.at_ HA3.out.own (j * 3 + 1) HK.out.2.1; obtain ⟨s2, _, _⟩ := foot.Own.at_ HA3.out.own (j * 3 + 2) HK.out.2.2; rw [← Nat.add_assoc] at s1 s2; clear ho3 hc3 hf3)
    have HD : Hid (PJ W B F t S (some ⟨g3, off3, none⟩) c3 (i + 1) (((w3.setCell ⟨g3, off3 + j * 3 + 1, none⟩ (.int .i64 x2)).setCell ⟨g3, off3 + j * 3 + 2, none⟩ (.int .i64 x1)).drew)) := by
      have h := acc_put2 HA3.out (j := j) (by omega) (.int .i64 x2) (.int .i64 x1)
      rw [Nat.zero_add, List.nil_append, HX.out] at h
      obtain ⟨h1, h2, h3⟩ := HE.out
      exact HJa.out.done h1 h2 h3 HS.out (h.go ⟨rfl, rfl, rfl, Nat.le_refl _, fun _ _ => rfl⟩) HL.out.symm rfl
    refine reg15 (j := j) (x1 := x1) (x2 := x2) _ s1 s2 sf3 sl3 hi1 _ _ _ _ _ _ _ _ _ _ _ _ _ _ _ _ _ _ _ _ _ _ _ _ _ _ _ _ _ _ _ _ _ _ _ _ _ _ _ _ _ _ _ _ _ _ _ _ _ _ _ _ _ _ _ _ _ _ _ _ _ _ _ _ _ _ _ _ _ _ _ _ _ _ _ _ _ _ _ _ _ _ _ _ _ _ _ _ _ _ _ _ _ _ _ _ _ _ _ _ _ _ _ _ _ _ _ _ _ _ _ _ _ _ _ _ _ _ _ _ _ _ _ _ _ _ _ _ _ _ _ _ _ _ _ _ _ _ _ _ _ _ _ _ _ _ _ _ _ _ _ _ _ _ _ _ _ _ _ _ _ _ _ _ _ _ _ _ _ _ _ _ _ _ _ _ _ _ _ _ _ _ _ _ _ _ _ _ _ _ _ _ _ _ _ _ _ _ _ _ _ _ _ _ _ _ _ _ _ _ _ _ _ _ _ _ _ _ _ _ _ _ _ ?_
    intro v66 v67 v68 v69 v70 v71 v72 v73 v74 v75 v76 v77 v78 v79 v80 v81 v82 v83
    have h := HQ.out S (some ⟨g3, off3, none⟩) c3
    rw [HL.out] at h
    first | exact h _ _ _ _ _ _ _ _ _ _ _ _ _ _ _ _ _ _ _ _ _ _ _ _ _ _ _ _ _ _ _ _ _ _ _ _ _ _ _ _ _ _ _ _ _ _ _ _ _ _ _ _ _ _ _ _ _ _ _ _ _ _ _ _ _ _ _ _ _ _ _ _ _ _ _ _ _ _ _ _ _ _ _ _ _ _ _ _ _ _ _ _ _ _ HD.out | (go_wp2_with fail; exact h _ _ _ _ _ _ _ _ _ _ _ _ _ _ _ _ _ _ _ _ _ _ _ _ _ _ _ _ _ _ _ _ _ _ _ _ _ _ _ _ _ _ _ _ _ _ _ _ _ _ _ _ _ _ _ _ _ _ _ _ _ _ _ _ _ _ _ _ _ _ _ _ _ _ _ _ _ _ _ _ _ _ _ _ _ _ _ _ _ _ _ _ _ _ HD.out)
end Go.Proofs.Ytafepficapdepaa.tallyPlays
