/- The arm 3 of the switch in confluencelaw23.ClockPlays. Conditions as the lemma states. Printed by gen_clockarms.py. -/
import Derived.Test.YtbhhkjkjihenoaaClockSwitch
namespace Go.Proofs.Ytbhhkjkjihenoaa.clockPlays
open Go.RowKit Go.Proofs.Ytbhhkjkjihenoaa.kit Go.Proofs.Ytbhhkjkjihenoaa.mem Go.Proofs.Ytbhhkjkjihenoaa.foot Go.Proofs.Ytbhhkjkjihenoaa.maps Go.Proofs.Ytbhhkjkjihenoaa.clk Go.Proofs.Ytbhhkjkjihenoaa.code
set_option linter.unusedVariables false
set_option linter.unusedSimpArgs false
set_option maxRecDepth 100000 in
set_option maxHeartbeats 4000000 in
theorem arm3 {W wa : World} {B t g i n0 c0 c : Nat} {F : Foot} {A0 A : Option Addr} {R : KV} {now ask kind key n : Int} (Q : Exit → Act → World → Prop)
    (hl2 : i < 50) (hn0 : 0 ≤ now) (hn1 : now ≤ 300 * i) (hRl : R.length ≤ i) (hkey : (Lit.int .i64 key).wf = true) (hn : (Lit.int .i64 n).wf = true) (HJa : Hid (PJ W B F t now R A c wa))
    (HU : Hid (∀ w', Chg F wa w' → w'.cell? ⟨g, 0, none⟩ = some (.int .i64 kind) ∧ w'.cell? ⟨g, 1, none⟩ = some (.int .i64 key) ∧ w'.cell? ⟨g, 2, none⟩ = some (.int .i64 n))) (hgl : g < wa.heap.size) (u2 u3 u4 u10 u11 u12 u13 u14 u15 u16 u17 u18 u19 u20 u21 u22 u23 u24 u25 u26 u27 u28 u29 u30 u31 u32 u33 u34 u35 u36 u37 u38 u39 u40 u41 u42 u43 u44 u45 u46 u47 u48 u49 u50 u51 u52 u53 u54 u55 u56 u57 u58 u59 u60 u61 u62 u63 u64 u65 u66 u67 u68 u69 u70 u71 u72 u73 u74 u75 u76 u77 u78 u79 u80 u81 u82 u83 u84 u85 u86 u87 u88 u89 u90 u91 u92 u93 u94 u95 u96 u97 u98 u99 u100 u101 u102 u103 u104 u105 u106 u107 u108 u109 u110 u111 u112 u113 u114 u115 u116 u117 u118 u119 u120 u121 u122 u123 u124 u125 u126 u127 u128 u129 u130 u131 u132 u133 u134 u135 u136 u137 u138 u139 u140 u141 u142 u143 u144 u145 u146 u147 u148 u149 u150 u151 u152 u153 u154 u155 u156 u157 u158 u159 u160 u161 u162 u163 u164 u165 u166 u167 u168 u169 u170 u171 u172 u173 u174 u175 u176 u177 u178 u179 u180 u181 u182 u183 u184 u185 u186 u187 u188 u189 u190 u191 u192 u193 u194 u195 u196 u197 u198 u199 u200 u201 u202 u203 u204 u205 u206 u207 u208 u209 u210 u211 u212 u213 u214 u215 u216 u217 u218 u219 u220 u221 u222 u223 u224 u225 u226 u227 u228 u229 u230 u231 u232 u233 u234 u235 u236 u237 u238 u239 u240 u241 u242 u243 u244 u245 u246 : Value)
    (hQ : ∀ (R' : KV) (now' : Int) (A' : Option Addr) (c' : Nat) (v4 v10 v11 v12 v13 v14 v15 v16 v17 v18 v19 v20 v47 v48 v49 v50 v51 v52 v53 v54 v55 v56 v57 v58 v59 v60 v61 v62 v63 v64 v65 v66 v67 v68 v69 v70 v71 v72 v73 v74 v75 v76 v77 v78 v79 v80 v81 v82 v83 v84 v85 v86 v87 v88 v89 v90 v91 v92 v93 v94 v95 v96 v97 v98 v99 v100 v101 v102 v103 v104 v105 v106 v107 v108 v109 v110 v111 v112 v113 v114 v115 v116 v117 v118 v119 v120 v121 v122 v123 v124 v125 v126 v127 v128 v129 v130 v131 v132 v133 v134 v135 v136 v137 v138 v139 v140 v141 v142 v143 v144 v145 v146 v147 v148 v149 v150 v151 : Value) (wx : World), 0 ≤ now' → now' ≤ 300 * (i + 1 : Nat) → R'.length ≤ i + 1 → PJ W B F t now' R' A' c' wx → Q .normal { tmps := #[.slice A0 n0 c0, .int .i64 ask, u2, u3, v4, .pointer (some ⟨t, 0, none⟩), .slice A' R'.length c', .int .i64 now', .int .i64 i, .pointer (some ⟨g, 0, none⟩), v10, v11, v12, v13, v14, v15, v16, v17, v18, v19, v20, u21, u22, u23, u24, u25, u26, u27, u28, u29, u30, u31, u32, u33, u34, u35, u36, u37, u38, u39, u40, u41, u42, u43, u44, u45, u46, v47, v48, v49, v50, v51, v52, v53, v54, v55, v56, v57, v58, v59, v60, v61, v62, v63, v64, v65, v66, v67, v68, v69, v70, v71, v72, v73, v74, v75, v76, v77, v78, v79, v80, v81, v82, v83, v84, v85, v86, v87, v88, v89, v90, v91, v92, v93, v94, v95, v96, v97, v98, v99, v100, v101, v102, v103, v104, v105, v106, v107, v108, v109, v110, v111, v112, v113, v114, v115, v116, v117, v118, v119, v120, v121, v122, v123, v124, v125, v126, v127, v128, v129, v130, v131, v132, v133, v134, v135, v136, v137, v138, v139, v140, v141, v142, v143, v144, v145, v146, v147, v148, v149, v150, v151, u152, u153, u154, u155, u156, u157, u158, u159, u160, u161, u162, u163, u164, u165, u166, u167, u168, u169, u170, u171, u172, u173, u174, u175, u176, u177, u178, u179, u180, u181, u182, u183, u184, u185, u186, u187, u188, u189, u190, u191, u192, u193, u194, u195, u196, u197, u198, u199, u200, u201, u202, u203, u204, u205, u206, u207, u208, u209, u210, u211, u212, u213, u214, u215, u216, u217, u218, u219, u220, u221, u222, u223, u224, u225, u226, u227, u228, u229, u230, u231, u232, u233, u234, u235, u236, u237, u238, u239, u240, u241, u242, u243, u244, u245, u246], defers := [] } wx) :
    Code.wp Try.prog (yes (right (no (right (no (right (inner (right (left (right (inner (left (right (inner (inner (right (left (right (right (bodyOf Try.f11)))))))))))))))))))) Q { tmps := #[.slice A0 n0 c0, .int .i64 ask, u2, u3, u4, .pointer (some ⟨t, 0, none⟩), .slice A R.length c, .int .i64 now, .int .i64 i, .pointer (some ⟨g, 0, none⟩), u10, u11, u12, u13, u14, u15, u16, u17, u18, u19, u20, u21, u22, u23, u24, u25, u26, u27, u28, u29, u30, u31, u32, u33, u34, u35, u36, u37, u38, u39, u40, u41, u42, u43, u44, u45, u46, u47, u48, u49, u50, u51, u52, u53, u54, u55, u56, u57, u58, u59, u60, u61, u62, u63, u64, u65, u66, u67, u68, u69, u70, u71, u72, u73, u74, u75, u76, u77, u78, u79, u80, u81, u82, u83, u84, u85, u86, u87, u88, u89, u90, u91, u92, u93, u94, u95, u96, u97, u98, u99, u100, u101, u102, u103, u104, u105, u106, u107, u108, u109, u110, u111, u112, u113, u114, u115, u116, u117, u118, u119, u120, u121, u122, u123, u124, u125, u126, u127, u128, u129, u130, u131, u132, u133, u134, u135, u136, u137, u138, u139, u140, u141, u142, u143, u144, u145, u146, u147, u148, u149, u150, u151, u152, u153, u154, u155, u156, u157, u158, u159, u160, u161, u162, u163, u164, u165, u166, u167, u168, u169, u170, u171, u172, u173, u174, u175, u176, u177, u178, u179, u180, u181, u182, u183, u184, u185, u186, u187, u188, u189, u190, u191, u192, u193, u194, u195, u196, u197, u198, u199, u200, u201, u202, u203, u204, u205, u206, u207, u208, u209, u210, u211, u212, u213, u214, u215, u216, u217, u218, u219, u220, u221, u222, u223, u224, u225, u226, u227, u228, u229, u230, u231, u232, u233, u234, u235, u236, u237, u238, u239, u240, u241, u242, u243, u244, u245, u246], defers := [] } wa := by
  have HQ := Lib.hid hQ
  obtain ⟨q0, q1, q2⟩ := HU.out _ (Chg.refl _ _)
  clear hQ
  simp only [left, right, inner, yes, no, bodyOf, Try.f11]
  have d1 : True := trivial
  have d2 : True := trivial
  go_upto_region 22 with fail
  go_upto_if 101 with fail
  go_cut [12] from 100 to 101 (fun v12 wx => v12 = .int .i64 (min n 300) ∧ wx = wa)
  case first =>
    rcases hb3 : decide ((300 : Int) < n) with _ | _
    case' false =>
      have e4 : min n 300 = n := by simp at hb3; omega
    case' true =>
      have e4 : min n 300 = 300 := by simp at hb3; omega
    all_goals
      have HE4 := Lib.hid e4
      clear e4 hb3
      go_wp2_with fail
      go_meet
      exact ⟨by rw [HE4.out], rfl⟩
  case' rest =>
    obtain ⟨rfl, hww⟩ := hcut
    rw [hww] at *
    clear hww
    have hnw := wf_i64 hn
    have hm3 : min n 300 ≤ 300 := by omega
    have hm4 : -9223372036854775808 ≤ min n 300 := by omega
    have HRu := Lib.hid (Run_any (n := min n 300) wa hm3 hm4 (by omega) (by omega) HJa.out.ris HJa.out.lef HJa.out.ck)
    generalize min n 300 = n2 at *
    obtain ⟨m, hm⟩ : ∃ m, m = n2.toNat := ⟨_, rfl⟩
    have hm5 : m ≤ 300 := by omega
    have HM := Lib.hid hm
    rw [← hm] at HRu
    clear hm hnw d1 d2 q0 q1 q2
    go_wp2_with fail
    refine HRu.out.mono ?_; rintro e w3 ⟨nw', R', outs, Ao, co, hrun, rfl, hoo, hol, hk3, hc3⟩
    have HRn := Lib.hid hrun
    have HOut := Lib.hid hoo.rg
    have HOl := Lib.hid hoo.lt
    have HK3 := Lib.hid hk3
    have HC3 := Lib.hid hc3
    have HR3 := Lib.hid (HJa.out.rows HJa.out.row hc3)
    have hol2 : outs.length ≤ 50 := by
      have := rRun_len m now R
      rw [hrun] at this
      simp only at this
      omega
    have HE0 : Hid (rRun m now R = gl [] (rRun (m - 0) (now + (0 : Nat)) R)) := by simp [Hid, gl]
    clear hrun hoo hol hk3 hc3 HRu
    go_wp2_with fail
    go_loopw [6, 7, 14, 15, 16, 17, 18] (fun v6 v7 v14 v15 _ _ _ wr => ∃ (j : Nat) (nj : Int) (Rj : KV) (Aj : Option Addr) (cj : Nat) (o : List (Int × Int)) (k : Nat), j ≤ m ∧ v15 = .int .i64 j ∧ v6 = .slice Aj Rj.length cj ∧ v7 = .int .i64 nj ∧ nj = now + j ∧ v14 = .int .i64 k ∧ k = o.length ∧ rRun m now R = gl o (rRun (m - j) nj Rj) ∧ Rj.length ≤ i ∧ o.length ≤ 50 ∧ Rising Rj ∧ Lefts Rj ∧ Row3 B wr 2 Aj Rj.length cj (pv2 Rj) ∧ Below w3.heap.size w3 wr) (fun _ _ _ v15 _ _ _ _ => m - (intOf v15).toNat)
    case atStart => exact ⟨0, now, R, A, c, [], 0, by omega, rfl, rfl, rfl, by simp, rfl, rfl, by have := HE0.out; simpa using this, hRl, by simp, HJa.out.ris, HJa.out.lef, HR3.out, Below.refl _ _⟩
    case round =>
      obtain ⟨j, nj, Rj, Aj, cj, o, k, hj, rfl, rfl, rfl, hnj, rfl, hko, hgl, hRjl, hok, hris, hlef, hrow, hbw⟩ := hrel
      have HNj := Lib.hid hnj
      have HKo := Lib.hid hko
      have HGl := Lib.hid hgl
      have HRj := Lib.hid (And.intro hris (And.intro hlef hrow))
      have HBw := Lib.hid hbw
      have hnjb : 0 ≤ nj ∧ nj ≤ 20000 := by omega
      have hk50 : k ≤ 50 := by omega
      clear hnj hko hgl hris hlef hrow hbw HE0
      by_cases hcc : j < m ∧ 0 < Rj.length
      · obtain ⟨hc1, hc2⟩ := hcc
        have e1 : decide ((j : Int) < n2) = true := by have := HM.out; simp; omega
        have e2 : decide ((0 : Int) < (Rj.length : Int)) = true := by simp; omega
        have HRT := Lib.hid (refTick_any B Rj Aj cj wr (by omega) HRj.out.2.1 HRj.out.2.2 (Nat.le_trans (Nat.le_trans HJa.out.size HC3.out.size) HBw.out.size))
        have htl := rTick_len Rj
        have HRc : Hid (Rising (rTick Rj) ∧ Lefts (rTick Rj)) := ⟨HRj.out.1.tick, HRj.out.2.1.tick⟩
        have hg2 := HGl.out.trans (gl_step hc1 hc2)
        have HG2 := Lib.hid hg2
        clear hg2 HGl
        generalize rTick Rj = S at *
        generalize rGone Rj = G at *
        go_wp2_with fail
        refine HRT.out.mono ?_; rintro e w4 ⟨o2, g2, A2, c2, Ag, cg, rfl, rfl, rfl, hr2, hgo, hgl2, hb2⟩
        have HR2 := Lib.hid hr2
        have HGo := Lib.hid hgo
        have HB4 := Lib.hid (HBw.out.trans (hb2.mono HBw.out.size))
        have hsplit : outs = (o ++ g2.map (fun k => (nj + 1, k))) ++ (rRun (m - (j + 1)) (nj + 1) o2).2.2 := by
          have h := HG2.out
          rw [HRn.out] at h
          exact congrArg (fun x => x.2.2) h
        have hog : o.length + g2.length ≤ 50 := by have h := congrArg List.length hsplit; rw [List.length_append, List.length_append, List.length_map] at h; omega
        have HSp := Lib.hid hsplit
        have HNj1 : Hid (nj + 1 = now + (j + 1 : Nat)) := by have := HNj.out; rw [Hid]; omega
        have hkg : k + g2.length ≤ 50 := by have := HKo.out; omega
        clear hr2 hgo hgl2 hb2 HRT hsplit
        generalize hx : nj + 1 = x at *
        have HX := Lib.hid hx
        go_wp2_with fail
        go_loopw [14, 18] (fun v14 v18 wk => ∃ q kq : Nat, q ≤ g2.length ∧ v18 = .int .i64 q ∧ v14 = .int .i64 kq ∧ kq = k + q ∧ Below w4.heap.size w4 wk) (fun _ v18 _ => g2.length - (intOf v18).toNat)
        case atStart => exact ⟨0, k, by omega, rfl, rfl, by omega, Below.refl _ _⟩
        case round =>
          skip
          obtain ⟨q, kq, hq, rfl, rfl, hkq, hbk⟩ := hrel
          have HBk := Lib.hid hbk
          have HKq := Lib.hid hkq
          have hkq2 : kq ≤ 50 := by omega
          clear hbk hkq
          by_cases hql : q < g2.length
          · obtain ⟨hh, hat⟩ := out_at HSp.out hql
            obtain ⟨x0, x1⟩ := pv2_at outs (o.length + q) hh
            have hkk : o.length + q = kq := by have := HKq.out; have := HKo.out; omega
            rw [hat] at x0 x1
            rw [hkk] at x0 x1 hh
            obtain ⟨bo, oo, rfl, _, hbo, hcl⟩ := HOut.out.2 (by omega)
            obtain ⟨bg, og, rfl, hcg⟩ := clk.Own.cell1 (HGo.out.bel HBk.out) rfl hql
            have hB3 := HB4.out.trans (HBk.out.mono HB4.out.size)
            have y0 := (hB3.cell (p := ⟨bo, oo + kq * 2, none⟩) hbo).trans (hcl (kq * 2 + 0) _ x0)
            have y1' := hcl (kq * 2 + 1) _ x1
            rw [← Nat.add_assoc] at y1'
            have y1 := (hB3.cell (p := ⟨bo, oo + kq * 2 + 1, none⟩) hbo).trans y1'
            clear y1'
            have e5 : decide ((outs.length : Int) ≤ (kq : Int)) = false := by simp; omega
            have e6 : (kq : Int) < (outs.length : Int) := by omega
            have e7 : (q : Int) < (g2.length : Int) := by omega
            clear x0 x1 hat hcl hkk hB3
            dsimp only at y0 y1
            generalize g2[q] = y at *
            have hne := fun w => neq_pair x y w
            go_upto_region 34 with fail
            go_quiet (fail)
            go_wp2_with fail
            go_roundw
            case rel => exact ⟨q + 1, kq + 1, by omega, by go_num, by go_num, by have := HKq.out; omega, below_drewN HBk.out _⟩
            case measure => simp [intOf]; omega
          · obtain rfl : q = g2.length := by omega
            go_wp2_with fail
            go_roundw
            case rel =>
              refine ⟨j + 1, x, o2, A2, c2, o ++ g2.map (fun k => (x, k)), kq, by omega, by go_num, rfl, rfl, HNj1.out, rfl, by rw [List.length_append, List.length_map]; have := HKq.out; have := HKo.out; omega, HG2.out, by omega, by rw [List.length_append, List.length_map]; omega, HRc.out.1, HRc.out.2, HR2.out.bel HBk.out, HB4.out.trans (HBk.out.mono HB4.out.size)⟩
            case measure => simp [intOf]; omega
      · have HEn : Hid (rRun m now R = (nj, Rj, o)) := by rw [Hid, HGl.out]; exact gl_end (by omega)
        have hR := HRn.out.symm.trans HEn.out
        obtain ⟨rfl, rfl, rfl⟩ : nw' = nj ∧ R' = Rj ∧ outs = o := by
          refine ⟨congrArg (fun x => x.1) hR, congrArg (fun x => x.2.1) hR, congrArg (fun x => x.2.2) hR⟩
        have hkk := HKo.out
        subst hkk
        have HJ4 : Hid (PJ W B F t nw' R' Aj cj wr) := HJa.out.turn (HK3.out.bel HBw.out) (HC3.out.bel HBw.out) HRj.out.1 HRj.out.2.1 HRj.out.2.2
        have hnb := HNj.out
        have hnb2 : nw' ≤ 300 * ((i + 1 : Nat) : Int) := by omega
        clear hR hnb
        by_cases hc1 : j < m
        case' pos =>
          have hz : R'.length = 0 := by omega
          have e1 : decide ((j : Int) < n2) = true := by have := HM.out; simp; omega
          have e2 : decide ((0 : Int) < (R'.length : Int)) = false := by rw [decide_eq_false_iff_not]; omega
          clear hz
        case' neg =>
          have e1 : decide ((j : Int) < n2) = false := by have := HM.out; simp; omega
        all_goals
          go_wp2_with fail
          exact HQ.out R' (nw') Aj cj _ _ _ _ _ _ _ _ _ _ _ _ _ _ _ _ _ _ _ _ _ _ _ _ _ _ _ _ _ _ _ _ _ _ _ _ _ _ _ _ _ _ _ _ _ _ _ _ _ _ _ _ _ _ _ _ _ _ _ _ _ _ _ _ _ _ _ _ _ _ _ _ _ _ _ _ _ _ _ _ _ _ _ _ _ _ _ _ _ _ _ _ _ _ _ _ _ _ _ _ _ _ _ _ _ _ _ _ _ _ _ _ _ _ _ _ _ _ (by omega) (hnb2) (by omega) (HJ4.out)
end Go.Proofs.Ytbhhkjkjihenoaa.clockPlays
