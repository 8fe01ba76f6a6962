/- The walk of the law ClockPlays: the Go text returns true and writes nothing that was there. No condition. Printed by gen_clockplays.py. -/
import Derived.Test.YtbhhkjkjihenoaaClockArm0
import Derived.Test.YtbhhkjkjihenoaaClockArm1
import Derived.Test.YtbhhkjkjihenoaaClockArm2
import Derived.Test.YtbhhkjkjihenoaaClockArm3
import Derived.Test.YtbhhkjkjihenoaaClockRest
namespace Go.Proofs.Ytbhhkjkjihenoaa.clockPlays
open Go.RowKit Go.Proofs.Ytbhhkjkjihenoaa.kit Go.Proofs.Ytbhhkjkjihenoaa.mem Go.Proofs.Ytbhhkjkjihenoaa.foot Go.Proofs.Ytbhhkjkjihenoaa.maps Go.Proofs.Ytbhhkjkjihenoaa.clk Go.Proofs.Ytbhhkjkjihenoaa.code
set_option linter.unusedVariables false
set_option linter.unusedSimpArgs false
set_option maxRecDepth 100000 in
set_option maxHeartbeats 4000000 in
theorem core (A0 : Option Addr) (c0 : Nat) (l0 : List (Int × Int × Int)) (ask : Int) (hask : (Lit.int .i64 ask).wf = true) (W : World) (hm0 : l0.length ≤ 9223372036854775807) (h0 : Els 3 clk.RAct W (fun _ => True) A0 l0) :
    Calls Try.prog 11 #[.slice A0 l0.length c0, .int .i64 ask] W fun e w' => e = .returned (.bool true) ∧ Below W.heap.size W w' := by
  have H0 := Lib.hid h0
  have HAsk := Lib.hid hask
  have HN := Lib.hid (New_any W)
  clear h0 hask
  go_enter Try.func11, Try.ntmps11
  go_wp2_with fail
  refine HN.out.mono ?_; rintro e w1 ⟨t, F, rfl, ht, hF, hb1⟩
  have HJ : Hid (PJ W w1.heap.size F t 0 [] (some ⟨w1.heap.size, 0, none⟩) 0 (w1.alloc (.cells #[] 117))) := by
    have ha : Below w1.heap.size w1 (w1.alloc (.cells #[] 117)) := (Below.refl _ _).alloc (Nat.le_refl _) _
    exact ⟨ht.bel ha, Row3.empty (Bk.new w1 _ _) (Nat.le_refl _) 2, .nil, (fun r h => by cases h), hF, ht.lt, ha.size, hb1.trans (ha.mono hb1.size)⟩
  clear ht hF hb1 HN
  go_wp2_with fail
  go_loopw [6, 7, 8] (fun v6 v7 v8 wr => ∃ (i : Nat) (now : Int) (R : KV) (A : Option Addr) (c : Nat), i ≤ 50 ∧ v8 = .int .i64 i ∧ v6 = .slice A R.length c ∧ v7 = .int .i64 now ∧ 0 ≤ now ∧ now ≤ 300 * i ∧ R.length ≤ i ∧ PJ W w1.heap.size F t now R A c wr) (fun _ _ v8 _ => 50 - (intOf v8).toNat)
  case atStart => exact ⟨0, 0, [], _, 0, by omega, rfl, rfl, rfl, by omega, by omega, by simp, HJ.out⟩
  case round =>
    obtain ⟨i, now, R, A, c, hi, rfl, rfl, rfl, hn0, hn1, hRl, hJ⟩ := hrel
    have HJ1 := Lib.hid hJ
    clear hJ HJ
    by_cases hlt : i < l0.length ∧ i < 50
    · obtain ⟨hl1, hl2⟩ := hlt
      obtain ⟨b, off, kind, key, n, rfl, hbl, hkey, hn, q0, q1, q2⟩ := clk.act_at H0.out hl1
      have q0 := (HJ1.out.bel.cell (p := ⟨b, off + i * 3, none⟩) hbl).trans q0
      have q1 := (HJ1.out.bel.cell (p := ⟨b, off + i * 3 + 1, none⟩) hbl).trans q1
      have q2 := (HJ1.out.bel.cell (p := ⟨b, off + i * 3 + 2, none⟩) hbl).trans q2
      have hl1' : (i : Int) < (l0.length : Int) := by omega
      obtain ⟨wa, hwa⟩ : ∃ wa, wa = wr.alloc (.cells #[.int .i64 kind, .int .i64 key, .int .i64 n] 99) := ⟨_, rfl⟩
      have HJa : Hid (PJ W w1.heap.size F t now R A c wa) := by rw [hwa]; exact HJ1.out.bl ((Below.refl _ _).alloc (Nat.le_refl _) _)
      have HBx : Hid (Bk wa wr.heap.size 99 #[.int .i64 kind, .int .i64 key, .int .i64 n]) := by rw [hwa]; exact Bk.new wr _ _
      have HFx : Hid (¬ F wr.heap.size) := fun h => by have := HJ1.out.lt _ h; have := HJ1.out.size; omega
      have HU : Hid (∀ w', Chg F wa w' → w'.cell? ⟨wr.heap.size, 0, none⟩ = some (.int .i64 kind) ∧ w'.cell? ⟨wr.heap.size, 1, none⟩ = some (.int .i64 key) ∧ w'.cell? ⟨wr.heap.size, 2, none⟩ = some (.int .i64 n)) := fun w' hc => box_kept HBx.out HFx.out hc
      go_upto_region 6 with fail
      rw [← hwa]
      have HR := Lib.hid hwa
      obtain ⟨q0, q1, q2⟩ := HU.out _ (Chg.refl _ _)
      clear hwa hbl hl1 hl1'
      have hgl : wr.heap.size < wa.heap.size := HBx.out.lt
      generalize wr.heap.size = g at *
      go_upto_block 2 with fail
      go_cut [4, 6, 7] (fun _ v6 v7 wx => ∃ (R' : KV) (now' : Int) (A' : Option Addr) (c' : Nat), v6 = .slice A' R'.length c' ∧ v7 = .int .i64 now' ∧ 0 ≤ now' ∧ now' ≤ 300 * (i + 1 : Nat) ∧ R'.length ≤ i + 1 ∧ PJ W w1.heap.size F t now' R' A' c' wx)
      case first =>
        by_cases hk1 : kind = 1
        · subst hk1
          go_upto_if 65 with fail
          refine wp_cond_true (by rfl) ?_
          refine arm1 (W := W) (B := w1.heap.size) (F := F) (R := R) (now := now) (ask := ask) (kind := 1) (key := key) (n := n) _ hl2 hn0 hn1 hRl hkey hn HJa HU hgl _ _ _ _ _ _ _ _ _ _ _ _ _ _ _ _ _ _ _ _ _ _ _ _ _ _ _ _ _ _ _ _ _ _ _ _ _ _ _ _ _ _ _ _ _ _ _ _ _ _ _ _ _ _ _ _ _ _ _ _ _ _ _ _ _ _ _ _ _ _ _ _ _ _ _ _ _ _ _ _ _ _ _ _ _ _ _ _ _ _ _ _ _ _ _ _ _ _ _ _ _ _ _ _ _ _ _ _ _ _ _ _ _ _ _ _ _ _ _ _ _ _ _ _ _ _ _ _ _ _ _ _ _ _ _ _ _ _ _ _ _ _ _ _ _ _ _ _ _ _ _ _ _ _ _ _ _ _ _ _ _ _ _ _ _ _ _ _ _ _ _ _ _ _ _ _ _ _ _ _ _ _ _ _ _ _ _ _ _ _ _ _ _ _ _ _ _ _ _ _ _ _ _ _ _ _ _ _ _ _ _ _ _ _ _ _ _ _ _ _ _ _ _ _ _ _ _ _ _ _ _ _ _ _ _ _ _ _ _ _ ?_
          intro R' now' A' c' v4 v10 v11 v12 v13 v14 v15 v16 v17 v18 v19 v20 v47 v48 v49 v50 v51 v52 v53 v54 v55 v56 v57 v58 v59 v60 v61 v62 v63 v64 v65 v66 v67 v68 v69 v70 v71 v72 v73 v74 v75 v76 v77 v78 v79 v80 v81 v82 v83 v84 v85 v86 v87 v88 v89 v90 v91 v92 v93 v94 v95 v96 v97 v98 v99 v100 v101 v102 v103 v104 v105 v106 v107 v108 v109 v110 v111 v112 v113 v114 v115 v116 v117 v118 v119 v120 v121 v122 v123 v124 v125 v126 v127 v128 v129 v130 v131 v132 v133 v134 v135 v136 v137 v138 v139 v140 v141 v142 v143 v144 v145 v146 v147 v148 v149 v150 v151 wx h1 h2 h3 hJ
          go_wp2_with fail
          go_meet
          exact ⟨R', now', A', c', rfl, rfl, h1, h2, h3, hJ⟩
        · have d1 : (kind == 1) = false := by rw [beq_eq_false_iff_ne]; exact hk1
          by_cases hk2 : kind = 2
          · subst hk2
            go_upto_if 81 with fail
            refine wp_cond_true (by rfl) ?_
            refine arm2 (W := W) (B := w1.heap.size) (F := F) (R := R) (now := now) (ask := ask) (kind := 2) (key := key) (n := n) _ hl2 hn0 hn1 hRl hkey hn HJa HU hgl _ _ _ _ _ _ _ _ _ _ _ _ _ _ _ _ _ _ _ _ _ _ _ _ _ _ _ _ _ _ _ _ _ _ _ _ _ _ _ _ _ _ _ _ _ _ _ _ _ _ _ _ _ _ _ _ _ _ _ _ _ _ _ _ _ _ _ _ _ _ _ _ _ _ _ _ _ _ _ _ _ _ _ _ _ _ _ _ _ _ _ _ _ _ _ _ _ _ _ _ _ _ _ _ _ _ _ _ _ _ _ _ _ _ _ _ _ _ _ _ _ _ _ _ _ _ _ _ _ _ _ _ _ _ _ _ _ _ _ _ _ _ _ _ _ _ _ _ _ _ _ _ _ _ _ _ _ _ _ _ _ _ _ _ _ _ _ _ _ _ _ _ _ _ _ _ _ _ _ _ _ _ _ _ _ _ _ _ _ _ _ _ _ _ _ _ _ _ _ _ _ _ _ _ _ _ _ _ _ _ _ _ _ _ _ _ _ _ _ _ _ _ _ _ _ _ _ _ _ _ _ _ _ _ _ _ _ _ _ _ ?_
            intro R' now' A' c' v4 v10 v11 v12 v13 v14 v15 v16 v17 v18 v19 v20 v47 v48 v49 v50 v51 v52 v53 v54 v55 v56 v57 v58 v59 v60 v61 v62 v63 v64 v65 v66 v67 v68 v69 v70 v71 v72 v73 v74 v75 v76 v77 v78 v79 v80 v81 v82 v83 v84 v85 v86 v87 v88 v89 v90 v91 v92 v93 v94 v95 v96 v97 v98 v99 v100 v101 v102 v103 v104 v105 v106 v107 v108 v109 v110 v111 v112 v113 v114 v115 v116 v117 v118 v119 v120 v121 v122 v123 v124 v125 v126 v127 v128 v129 v130 v131 v132 v133 v134 v135 v136 v137 v138 v139 v140 v141 v142 v143 v144 v145 v146 v147 v148 v149 v150 v151 wx h1 h2 h3 hJ
            go_wp2_with fail
            go_meet
            exact ⟨R', now', A', c', rfl, rfl, h1, h2, h3, hJ⟩
          · have d2 : (kind == 2) = false := by rw [beq_eq_false_iff_ne]; exact hk2
            by_cases hk3 : kind = 3
            · subst hk3
              go_upto_if 96 with fail
              refine wp_cond_true (by rfl) ?_
              refine arm3 (W := W) (B := w1.heap.size) (F := F) (R := R) (now := now) (ask := ask) (kind := 3) (key := key) (n := n) _ hl2 hn0 hn1 hRl hkey hn HJa HU hgl _ _ _ _ _ _ _ _ _ _ _ _ _ _ _ _ _ _ _ _ _ _ _ _ _ _ _ _ _ _ _ _ _ _ _ _ _ _ _ _ _ _ _ _ _ _ _ _ _ _ _ _ _ _ _ _ _ _ _ _ _ _ _ _ _ _ _ _ _ _ _ _ _ _ _ _ _ _ _ _ _ _ _ _ _ _ _ _ _ _ _ _ _ _ _ _ _ _ _ _ _ _ _ _ _ _ _ _ _ _ _ _ _ _ _ _ _ _ _ _ _ _ _ _ _ _ _ _ _ _ _ _ _ _ _ _ _ _ _ _ _ _ _ _ _ _ _ _ _ _ _ _ _ _ _ _ _ _ _ _ _ _ _ _ _ _ _ _ _ _ _ _ _ _ _ _ _ _ _ _ _ _ _ _ _ _ _ _ _ _ _ _ _ _ _ _ _ _ _ _ _ _ _ _ _ _ _ _ _ _ _ _ _ _ _ _ _ _ _ _ _ _ _ _ _ _ _ _ _ _ _ _ _ _ _ _ _ _ _ _ ?_
              intro R' now' A' c' v4 v10 v11 v12 v13 v14 v15 v16 v17 v18 v19 v20 v47 v48 v49 v50 v51 v52 v53 v54 v55 v56 v57 v58 v59 v60 v61 v62 v63 v64 v65 v66 v67 v68 v69 v70 v71 v72 v73 v74 v75 v76 v77 v78 v79 v80 v81 v82 v83 v84 v85 v86 v87 v88 v89 v90 v91 v92 v93 v94 v95 v96 v97 v98 v99 v100 v101 v102 v103 v104 v105 v106 v107 v108 v109 v110 v111 v112 v113 v114 v115 v116 v117 v118 v119 v120 v121 v122 v123 v124 v125 v126 v127 v128 v129 v130 v131 v132 v133 v134 v135 v136 v137 v138 v139 v140 v141 v142 v143 v144 v145 v146 v147 v148 v149 v150 v151 wx h1 h2 h3 hJ
              go_wp2_with fail
              go_meet
              exact ⟨R', now', A', c', rfl, rfl, h1, h2, h3, hJ⟩
            · have d3 : (kind == 3) = false := by rw [beq_eq_false_iff_ne]; exact hk3
              go_upto_if 96 with fail
              refine wp_cond_false (by rfl) ?_
              refine arm0 (W := W) (B := w1.heap.size) (F := F) (R := R) (now := now) (ask := ask) (kind := kind) (key := key) (n := n) _ hl2 hn0 hn1 hRl hkey hn HJa HU hgl _ _ _ _ _ _ _ _ _ _ _ _ _ _ _ _ _ _ _ _ _ _ _ _ _ _ _ _ _ _ _ _ _ _ _ _ _ _ _ _ _ _ _ _ _ _ _ _ _ _ _ _ _ _ _ _ _ _ _ _ _ _ _ _ _ _ _ _ _ _ _ _ _ _ _ _ _ _ _ _ _ _ _ _ _ _ _ _ _ _ _ _ _ _ _ _ _ _ _ _ _ _ _ _ _ _ _ _ _ _ _ _ _ _ _ _ _ _ _ _ _ _ _ _ _ _ _ _ _ _ _ _ _ _ _ _ _ _ _ _ _ _ _ _ _ _ _ _ _ _ _ _ _ _ _ _ _ _ _ _ _ _ _ _ _ _ _ _ _ _ _ _ _ _ _ _ _ _ _ _ _ _ _ _ _ _ _ _ _ _ _ _ _ _ _ _ _ _ _ _ _ _ _ _ _ _ _ _ _ _ _ _ _ _ _ _ _ _ _ _ _ _ _ _ _ _ _ _ _ _ _ _ _ _ _ _ _ _ _ _ ?_
              intro R' now' A' c' v4 v10 v11 v12 v13 v14 v15 v16 v17 v18 v19 v20 v47 v48 v49 v50 v51 v52 v53 v54 v55 v56 v57 v58 v59 v60 v61 v62 v63 v64 v65 v66 v67 v68 v69 v70 v71 v72 v73 v74 v75 v76 v77 v78 v79 v80 v81 v82 v83 v84 v85 v86 v87 v88 v89 v90 v91 v92 v93 v94 v95 v96 v97 v98 v99 v100 v101 v102 v103 v104 v105 v106 v107 v108 v109 v110 v111 v112 v113 v114 v115 v116 v117 v118 v119 v120 v121 v122 v123 v124 v125 v126 v127 v128 v129 v130 v131 v132 v133 v134 v135 v136 v137 v138 v139 v140 v141 v142 v143 v144 v145 v146 v147 v148 v149 v150 v151 wx h1 h2 h3 hJ
              go_wp2_with fail
              go_meet
              exact ⟨R', now', A', c', rfl, rfl, h1, h2, h3, hJ⟩
      case' rest =>
        obtain ⟨R2, now2, A2, c2, rfl, rfl, hn20, hn21, hRl2, hJ2⟩ := hcut
        have HJ2 := Lib.hid hJ2
        clear hJ2 HJa HBx HFx HU HJ1 HR q0 q1 q2
        have hk := ‹∀ (a : Act) (w : World), Code.wp Try.prog (right (right (inner (left (right (inner (inner (right (left (right (right (bodyOf Try.f11)))))))))))) _ a w → _›
        apply hk
        refine rest (W := W) (B := w1.heap.size) (F := F) (R := R2) (now := now2) (ask := ask) _ hl2 hn20 hn21 hRl2 HAsk.out HJ2 _ _ _ _ _ _ _ _ _ _ _ _ _ _ _ _ _ _ _ _ _ _ _ _ _ _ _ _ _ _ _ _ _ _ _ _ _ _ _ _ _ _ _ _ _ _ _ _ _ _ _ _ _ _ _ _ _ _ _ _ _ _ _ _ _ _ _ _ _ _ _ _ _ _ _ _ _ _ _ _ _ _ _ _ _ _ _ _ _ _ _ _ _ _ _ _ _ _ _ _ _ _ _ _ _ _ _ _ _ _ _ _ _ _ _ _ _ _ _ _ _ _ _ _ _ _ _ _ _ _ _ _ _ _ _ _ _ _ _ _ _ _ _ _ _ _ _ _ _ _ _ _ _ _ _ _ _ _ _ _ _ _ _ _ _ _ _ _ _ _ _ _ _ _ _ _ _ _ _ _ _ _ _ _ _ _ _ _ _ _ _ _ _ _ _ _ _ _ _ _ _ _ _ _ _ _ _ _ _ _ _ _ _ _ _ _ _ _ _ _ _ _ _ _ _ _ _ _ _ _ _ _ _ _ _ _ _ _ _ _ _ ?_
        intro v4 v21 v22 v23 v24 v25 v26 v27 v28 v152 v153 v154 v155 v156 v157 v158 v159 v160 v161 v162 v163 v164 v165 v166 v167 v168 v169 v170 v171 v172 v173 v174 v175 v176 v177 v178 v179 v180 v181 v182 v183 v184 v185 v186 v187 v188 v189 v190 v191 v192 v193 v194 v195 v196 v197 v198 v199 v200 v201 v202 v203 v204 v205 v206 v207 v208 v209 v210 v211 v212 v213 v214 v215 v216 v217 v218 v219 v220 v221 v222 v223 v224 v225 v226 v227 v228 v229 v230 v231 v232 v233 v234 v235 v236 v237 v238 v239 v240 v241 v242 v243 v244 v245 wx hJ
        have HJ3 := Lib.hid hJ
        clear hJ HJ2
        go_wp2_with fail
        go_roundw
        case rel => exact ⟨i + 1, now2, R2, A2, c2, by omega, by go_num, rfl, rfl, hn20, hn21, hRl2, HJ3.out⟩
        case measure => simp [intOf]; omega
    · by_cases hl1 : i < l0.length
      case' pos =>
        have e2 : decide ((i : Int) < 50) = false := by simp; omega
        have e1 : decide ((i : Int) < (l0.length : Int)) = true := by simp; omega
      case' neg =>
        have e1 : decide ((i : Int) < (l0.length : Int)) = false := by simp; omega
      all_goals
        go_wp2_with fail
        refine (clk.lives_any _).mono ?_; rintro e w9 ⟨rfl, hb9⟩
        have HB9 := Lib.hid (HJ1.out.bel.trans (hb9.mono HJ1.out.bel.size))
        clear hb9
        go_wp2_with fail
        go_ret
        exact ⟨rfl, HB9.out⟩

set_option maxRecDepth 100000 in
theorem walk {H : Type} {enc : TypeId × Value → H} {W : World} {base : Nat} {v0 : Value} {d0 : DataW H} {p0 : List MemPlace}
    (hv0 : Value.okWide Try.prog W .any base 93 v0) (h0 : DataW.Trod enc Try.prog W 0 (fun _ => true) true 93 v0 d0 p0) (a1 : Int) (w1 : (Lit.int .i64 a1).wf = true) :
    Calls Try.prog 11 #[v0, .int .i64 a1] W fun e w' => e = .returned (.bool true) ∧ Below W.heap.size W w' := by
  obtain ⟨A0, c0, l0, rfl, _, hc0, hm0, he0⟩ := open_sl Try.underlying93 (opens_sl clk.keeps_act Try.underlying93 (by kernel_rfl) (by omega) clk.opens_act) hv0 h0
  unfold maxLen at hm0
  exact core A0 c0 l0 a1 w1 W (by omega) he0
end Go.Proofs.Ytbhhkjkjihenoaa.clockPlays
