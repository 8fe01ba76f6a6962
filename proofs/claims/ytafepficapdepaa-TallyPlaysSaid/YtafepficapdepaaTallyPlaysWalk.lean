/- The walk of the law TallyPlays: the Go text returns true and writes nothing that was there. No condition. Printed by gen_tallyarms.py. -/
import Derived.Test.YtafepficapdepaaTallyArm0
import Derived.Test.YtafepficapdepaaTallyArm1
import Derived.Test.YtafepficapdepaaTallyArm2
import Derived.Test.YtafepficapdepaaTallyArm3
import Derived.Test.YtafepficapdepaaTallyRest
import Derived.Test.YtafepficapdepaaRel
namespace Go.Proofs.Ytafepficapdepaa.tallyPlays
open Go.RowKit Go.Proofs.Ytafepficapdepaa.flt Go.Proofs.Ytafepficapdepaa.kit Go.Proofs.Ytafepficapdepaa.mem Go.Proofs.Ytafepficapdepaa.foot Go.Proofs.Ytafepficapdepaa.maps Go.Proofs.Ytafepficapdepaa.nums Go.Proofs.Ytafepficapdepaa.tally Go.Proofs.Ytafepficapdepaa.code
set_option linter.unusedVariables false
set_option linter.unusedSimpArgs false
/-- an act -/
abbrev RAct : Rel (Int × Int × Int × Int) := rPair (rInt .i64) (rPair (rInt .u32) (rPair (rInt .i64) (rInt .i64)))
section
variable {H : Type} {enc : TypeId × Value → H} {w : World} {base : Nat} {held : Bool}
set_option maxRecDepth 100000 in
theorem opens_act : Opens enc Try.prog w base held 54 RAct :=
  opens_struct Try.underlying54 (by kernel_rfl) (opensF_cons (o' := 1) rfl (by kernel_rfl) (opens_int Try.underlying3) (opensF_cons (o' := 2) rfl (by kernel_rfl) (opens_int Try.underlying22) (opensF_cons (o' := 3) rfl (by kernel_rfl) (opens_int Try.underlying3) (opensF_last rfl (opens_int Try.underlying3)))))
end
theorem act_eq {w : World} {G : Foot} {cs : List Value} {a0 a1 a2 a3 : Int} (h : RAct w G cs (a0, a1, a2, a3)) : cs = [.int .i64 a0, .int .u32 a1, .int .i64 a2, .int .i64 a3] ∧ (Lit.int .u32 a1).wf = true := by
  obtain ⟨_, _, rfl, ⟨rfl, h0⟩, _, _, rfl, ⟨rfl, h1⟩, _, _, rfl, ⟨rfl, h2⟩, h3⟩ := h
  obtain ⟨rfl, h3⟩ := h3
  exact ⟨rfl, h1⟩
theorem keeps_act : Keeps 4 RAct := keeps_pair (n := 1) (m := 3) (keeps_int _) (keeps_pair (n := 1) (m := 2) (keeps_int _) (keeps_pair (n := 1) (m := 1) (keeps_int _) (keeps_int _)))
theorem act_at {W : World} {A : Option Addr} {l : List (Int × Int × Int × Int)} (h : Els 4 RAct W (fun _ => True) A l) {k : Nat} (hk : k < l.length) :
    ∃ b off kind key u v, A = some ⟨b, off, none⟩ ∧ b < W.heap.size ∧ (Lit.int .u32 key).wf = true ∧ W.cell? ⟨b, off + k * 4, none⟩ = some (.int .i64 kind) ∧ W.cell? ⟨b, off + k * 4 + 1, none⟩ = some (.int .u32 key) ∧ W.cell? ⟨b, off + k * 4 + 2, none⟩ = some (.int .i64 u) ∧ W.cell? ⟨b, off + k * 4 + 3, none⟩ = some (.int .i64 v) := by
  obtain ⟨b, off, cs, e, _, hb, hr, hc⟩ := h.at_ keeps_act hk
  obtain ⟨rfl, h1⟩ := act_eq hr
  have q0 := hc 0 _ rfl
  have q1 := hc 1 _ rfl
  have q2 := hc 2 _ rfl
  have q3 := hc 3 _ rfl
  rw [Nat.add_zero] at q0
  exact ⟨b, off, _, _, _, _, e, hb, h1, q0, q1, q2, q3⟩
/-- an act's box -/
theorem box_kept {wa w' : World} {F : Foot} {g : Nat} {T : TypeId} {k x n m : Int} (hb : Bk wa g T #[.int .i64 k, .int .u32 x, .int .i64 n, .int .i64 m]) (hF : ¬ F g) (hc : Chg F wa w') : w'.cell? ⟨g, 0, none⟩ = some (.int .i64 k) ∧ w'.cell? ⟨g, 1, none⟩ = some (.int .u32 x) ∧ w'.cell? ⟨g, 2, none⟩ = some (.int .i64 n) ∧ w'.cell? ⟨g, 3, none⟩ = some (.int .i64 m) := by
  have h := hb.chg hc hF
  exact ⟨by have := h.cell 0; simpa using this, by have := h.cell 1; simpa using this, by have := h.cell 2; simpa using this, by have := h.cell 3; simpa using this⟩

set_option maxRecDepth 100000 in
set_option maxHeartbeats 4000000 in
theorem core (A0 : Option Addr) (c0 : Nat) (l0 : List (Int × Int × Int × Int)) (ask : Int) (hask : (Lit.int .u32 ask).wf = true) (W : World) (hm0 : l0.length ≤ 9223372036854775807) (h0 : Els 4 RAct W (fun _ => True) A0 l0) :
    Calls Try.prog 4 #[.slice A0 l0.length c0, .int .u32 ask] W fun e w' => e = .returned (.bool true) ∧ Below W.heap.size W w' := by
  have H0 := Lib.hid h0
  have HAsk := Lib.hid hask
  have HN := Lib.hid (New_any W)
  clear h0 hask
  go_enter Try.func4, Try.ntmps4
  go_wp2_with fail
  refine HN.out.mono ?_; rintro e w1 ⟨t, F, rfl, ht, hF, hb1⟩
  have HJ : Hid (PJ W w1.heap.size F t [] (some ⟨w1.heap.size, 0, none⟩) 0 0 (w1.alloc (.cells #[] 58))) := by
    have ha : Below w1.heap.size w1 (w1.alloc (.cells #[] 58)) := (Below.refl _ _).alloc (Nat.le_refl _) _
    exact ⟨⟨[], ht.bel ha, List.Perm.nil⟩, Row3.empty (Bk.new w1 _ _) (Nat.le_refl _) 3, .nil, (fun r h => by cases h), (fun r h => by cases h), Nat.le_refl _, hF, ht.lt, ha.size, hb1.trans (ha.mono hb1.size)⟩
  clear ht hF hb1 HN
  go_wp2_with fail
  go_loopw [6, 8] (fun v6 v8 wr => ∃ (i : Nat) (R : KC) (A : Option Addr) (c : Nat), i ≤ 60 ∧ v8 = .int .i64 i ∧ v6 = .slice A R.length c ∧ PJ W w1.heap.size F t R A c i wr) (fun _ v8 _ => 60 - (intOf v8).toNat)
  case atStart => exact ⟨0, [], _, 0, by omega, rfl, rfl, HJ.out⟩
  case round =>
    obtain ⟨i, R, A, c, hi, rfl, rfl, hJ⟩ := hrel
    have HJ1 := Lib.hid hJ
    clear hJ HJ
    by_cases hlt : i < l0.length ∧ i < 60
    · obtain ⟨hl1, hl2⟩ := hlt
      obtain ⟨b, off, kind, key, u, v, rfl, hbl, hkey, q0, q1, q2, q3⟩ := act_at H0.out hl1
      have q0 := (HJ1.out.bel.cell (p := ⟨b, off + i * 4, none⟩) hbl).trans q0
      have q1 := (HJ1.out.bel.cell (p := ⟨b, off + i * 4 + 1, none⟩) hbl).trans q1
      have q2 := (HJ1.out.bel.cell (p := ⟨b, off + i * 4 + 2, none⟩) hbl).trans q2
      have q3 := (HJ1.out.bel.cell (p := ⟨b, off + i * 4 + 3, none⟩) hbl).trans q3
      have hl1' : (i : Int) < (l0.length : Int) := by omega
      obtain ⟨wa, hwa⟩ : ∃ wa, wa = wr.alloc (.cells #[.int .i64 kind, .int .u32 key, .int .i64 u, .int .i64 v] 54) := ⟨_, rfl⟩
      have HJa : Hid (PJ W w1.heap.size F t R A c i wa) := by rw [hwa]; exact HJ1.out.bl ((Below.refl _ _).alloc (Nat.le_refl _) _)
      have HBx : Hid (Bk wa wr.heap.size 54 #[.int .i64 kind, .int .u32 key, .int .i64 u, .int .i64 v]) := by rw [hwa]; exact Bk.new wr _ _
      have HFx : Hid (¬ F wr.heap.size) := fun h => by have := HJ1.out.lt _ h; have := HJ1.out.size; omega
      have HAt : Hid (Calls Try.prog 19 #[.slice A R.length c, .int .u32 key] wa fun e w' => e = .returned (.int .i64 (rAt R key)) ∧ Below wa.heap.size wa w') := by
        have := HJa.out.len
        exact refAt_any w1.heap.size R A c key wa (by omega) HJa.out.row
      go_upto_region 6 with fail
      rw [← hwa]
      have HR := Lib.hid hwa
      obtain ⟨q0, q1, q2, q3⟩ := box_kept HBx.out HFx.out (Chg.refl _ _)
      clear hwa hbl hl1 hl1'
      have HGl : Hid (wr.heap.size < wa.heap.size) := HBx.out.lt
      generalize wr.heap.size = g at *
      go_upto_region 7 with (go_at_call 19; refine HAt.out.mono ?_; rintro e wb ⟨rfl, hbb⟩; have HJb := Lib.hid (HJa.out.bl hbb); have HU : Hid (∀ w', Chg F wb w' → w'.cell? ⟨g, 0, none⟩ = some (.int .i64 kind) ∧ w'.cell? ⟨g, 1, none⟩ = some (.int .u32 key) ∧ w'.cell? ⟨g, 2, none⟩ = some (.int .i64 u) ∧ w'.cell? ⟨g, 3, none⟩ = some (.int .i64 v)) := fun w' hc => box_kept (HBx.out.below hbb HGl.out) HFx.out hc; have hgl : g < wb.heap.size := Nat.lt_of_lt_of_le HGl.out hbb.size; clear hbb)
      clear q0 q1 q2 q3
      obtain ⟨q0, q1, q2, q3⟩ := HU.out _ (Chg.refl _ _)
      go_upto_block 2 with fail
      go_cut [4, 6, 7] (fun _ v6 _ wx => ∃ (R' : KC) (A' : Option Addr) (c' : Nat), v6 = .slice A' R'.length c' ∧ PJ W w1.heap.size F t R' A' c' (i + 1) wx)
      case first =>
        by_cases hk1 : kind = 1
        · subst hk1
          go_upto_if 55 with fail
          refine wp_cond_true (by rfl) ?_
          refine arm1 (W := W) (B := w1.heap.size) (F := F) (R := R) (ask := ask) (kind := 1) (key := key) (u := u) (v := v) _ hl2 hkey HJb HU hgl _ _ _ _ _ _ _ _ _ _ _ _ _ _ _ _ _ _ _ _ _ _ _ _ _ _ _ _ _ _ _ _ _ _ _ _ _ _ _ _ _ _ _ _ _ _ _ _ _ _ _ _ _ _ _ _ _ _ _ _ _ _ _ _ _ _ _ _ _ _ _ _ _ _ _ _ _ _ _ _ _ _ _ _ _ _ _ _ _ _ _ _ _ _ _ _ _ _ _ _ _ _ _ _ _ _ _ _ _ _ _ _ _ _ _ _ _ _ _ _ _ _ _ _ _ _ _ _ _ _ _ _ _ _ _ _ _ _ _ _ _ _ _ _ _ _ _ _ _ _ _ _ _ _ _ _ _ _ _ _ _ _ _ _ _ _ _ _ _ _ _ _ _ _ _ _ _ _ _ _ _ _ _ _ _ _ _ _ _ _ _ _ _ _ _ _ _ _ _ _ _ _ _ _ _ _ _ _ _ _ _ _ _ _ _ _ _ _ ?_
          intro R' A' c' v4 v7 v11 v12 v13 v46 v47 v48 v49 v50 v51 v52 v53 v54 v55 v56 v57 v58 v59 v60 v61 v62 v63 v64 v65 v66 v67 v68 v69 v70 v71 v72 v73 v74 v75 v76 v77 v78 v79 v80 v81 v82 v83 v84 v85 v86 v87 v88 v89 v90 v91 v92 v93 v94 v95 v96 v97 v98 v99 v100 v101 v102 v103 v104 v105 v106 v107 v108 v109 v110 v111 v112 v113 v114 v115 v116 v117 v118 v119 v120 v121 v122 v123 v124 v125 v126 v127 v128 v129 v130 v131 v132 v133 wx hJ
          go_wp2_with fail
          go_meet
          exact ⟨R', A', c', rfl, hJ⟩
        · have d1 : (kind == 1) = false := by rw [beq_eq_false_iff_ne]; exact hk1
          by_cases hk2 : kind = 2
          · subst hk2
            go_upto_if 84 with fail
            refine wp_cond_true (by rfl) ?_
            refine arm2 (W := W) (B := w1.heap.size) (F := F) (R := R) (ask := ask) (kind := 2) (key := key) (u := u) (v := v) _ hl2 hkey HJb HU hgl _ _ _ _ _ _ _ _ _ _ _ _ _ _ _ _ _ _ _ _ _ _ _ _ _ _ _ _ _ _ _ _ _ _ _ _ _ _ _ _ _ _ _ _ _ _ _ _ _ _ _ _ _ _ _ _ _ _ _ _ _ _ _ _ _ _ _ _ _ _ _ _ _ _ _ _ _ _ _ _ _ _ _ _ _ _ _ _ _ _ _ _ _ _ _ _ _ _ _ _ _ _ _ _ _ _ _ _ _ _ _ _ _ _ _ _ _ _ _ _ _ _ _ _ _ _ _ _ _ _ _ _ _ _ _ _ _ _ _ _ _ _ _ _ _ _ _ _ _ _ _ _ _ _ _ _ _ _ _ _ _ _ _ _ _ _ _ _ _ _ _ _ _ _ _ _ _ _ _ _ _ _ _ _ _ _ _ _ _ _ _ _ _ _ _ _ _ _ _ _ _ _ _ _ _ _ _ _ _ _ _ _ _ _ _ _ _ _ ?_
            intro R' A' c' v4 v7 v11 v12 v13 v46 v47 v48 v49 v50 v51 v52 v53 v54 v55 v56 v57 v58 v59 v60 v61 v62 v63 v64 v65 v66 v67 v68 v69 v70 v71 v72 v73 v74 v75 v76 v77 v78 v79 v80 v81 v82 v83 v84 v85 v86 v87 v88 v89 v90 v91 v92 v93 v94 v95 v96 v97 v98 v99 v100 v101 v102 v103 v104 v105 v106 v107 v108 v109 v110 v111 v112 v113 v114 v115 v116 v117 v118 v119 v120 v121 v122 v123 v124 v125 v126 v127 v128 v129 v130 v131 v132 v133 wx hJ
            go_wp2_with fail
            go_meet
            exact ⟨R', A', c', rfl, hJ⟩
          · have d2 : (kind == 2) = false := by rw [beq_eq_false_iff_ne]; exact hk2
            by_cases hk3 : kind = 3
            · subst hk3
              go_upto_if 105 with fail
              refine wp_cond_true (by rfl) ?_
              refine arm3 (W := W) (B := w1.heap.size) (F := F) (R := R) (ask := ask) (kind := 3) (key := key) (u := u) (v := v) _ hl2 hkey HJb HU hgl _ _ _ _ _ _ _ _ _ _ _ _ _ _ _ _ _ _ _ _ _ _ _ _ _ _ _ _ _ _ _ _ _ _ _ _ _ _ _ _ _ _ _ _ _ _ _ _ _ _ _ _ _ _ _ _ _ _ _ _ _ _ _ _ _ _ _ _ _ _ _ _ _ _ _ _ _ _ _ _ _ _ _ _ _ _ _ _ _ _ _ _ _ _ _ _ _ _ _ _ _ _ _ _ _ _ _ _ _ _ _ _ _ _ _ _ _ _ _ _ _ _ _ _ _ _ _ _ _ _ _ _ _ _ _ _ _ _ _ _ _ _ _ _ _ _ _ _ _ _ _ _ _ _ _ _ _ _ _ _ _ _ _ _ _ _ _ _ _ _ _ _ _ _ _ _ _ _ _ _ _ _ _ _ _ _ _ _ _ _ _ _ _ _ _ _ _ _ _ _ _ _ _ _ _ _ _ _ _ _ _ _ _ _ _ _ _ _ ?_ ?_
              · intro R' A' c' v4 v7 v11 v12 v13 v46 v47 v48 v49 v50 v51 v52 v53 v54 v55 v56 v57 v58 v59 v60 v61 v62 v63 v64 v65 v66 v67 v68 v69 v70 v71 v72 v73 v74 v75 v76 v77 v78 v79 v80 v81 v82 v83 v84 v85 v86 v87 v88 v89 v90 v91 v92 v93 v94 v95 v96 v97 v98 v99 v100 v101 v102 v103 v104 v105 v106 v107 v108 v109 v110 v111 v112 v113 v114 v115 v116 v117 v118 v119 v120 v121 v122 v123 v124 v125 v126 v127 v128 v129 v130 v131 v132 v133 wx hJ
                go_wp2_with fail
                go_meet
                exact ⟨R', A', c', rfl, hJ⟩
              · intro R' A' c' v4 v7 v11 v12 v13 v46 v47 v48 v49 v50 v51 v52 v53 v54 v55 v56 v57 v58 v59 v60 v61 v62 v63 v64 v65 v66 v67 v68 v69 v70 v71 v72 v73 v74 v75 v76 v77 v78 v79 v80 v81 v82 v83 v84 v85 v86 v87 v88 v89 v90 v91 v92 v93 v94 v95 v96 v97 v98 v99 v100 v101 v102 v103 v104 v105 v106 v107 v108 v109 v110 v111 v112 v113 v114 v115 v116 v117 v118 v119 v120 v121 v122 v123 v124 v125 v126 v127 v128 v129 v130 v131 v132 v133 wx hJ
                have HJc := Lib.hid hJ
                clear hJ
                go_wp2_with fail
                go_roundw
                case rel => exact ⟨i + 1, R', A', c', by omega, by go_num, rfl, HJc.out⟩
                case measure => simp [intOf]; omega
            · have d3 : (kind == 3) = false := by rw [beq_eq_false_iff_ne]; exact hk3
              go_upto_if 105 with fail
              refine wp_cond_false (by rfl) ?_
              refine arm0 (W := W) (B := w1.heap.size) (F := F) (R := R) (ask := ask) (kind := kind) (key := key) (u := u) (v := v) _ hl2 hkey HJb HU hgl _ _ _ _ _ _ _ _ _ _ _ _ _ _ _ _ _ _ _ _ _ _ _ _ _ _ _ _ _ _ _ _ _ _ _ _ _ _ _ _ _ _ _ _ _ _ _ _ _ _ _ _ _ _ _ _ _ _ _ _ _ _ _ _ _ _ _ _ _ _ _ _ _ _ _ _ _ _ _ _ _ _ _ _ _ _ _ _ _ _ _ _ _ _ _ _ _ _ _ _ _ _ _ _ _ _ _ _ _ _ _ _ _ _ _ _ _ _ _ _ _ _ _ _ _ _ _ _ _ _ _ _ _ _ _ _ _ _ _ _ _ _ _ _ _ _ _ _ _ _ _ _ _ _ _ _ _ _ _ _ _ _ _ _ _ _ _ _ _ _ _ _ _ _ _ _ _ _ _ _ _ _ _ _ _ _ _ _ _ _ _ _ _ _ _ _ _ _ _ _ _ _ _ _ _ _ _ _ _ _ _ _ _ _ _ _ _ _ ?_
              intro R' A' c' v4 v7 v11 v12 v13 v46 v47 v48 v49 v50 v51 v52 v53 v54 v55 v56 v57 v58 v59 v60 v61 v62 v63 v64 v65 v66 v67 v68 v69 v70 v71 v72 v73 v74 v75 v76 v77 v78 v79 v80 v81 v82 v83 v84 v85 v86 v87 v88 v89 v90 v91 v92 v93 v94 v95 v96 v97 v98 v99 v100 v101 v102 v103 v104 v105 v106 v107 v108 v109 v110 v111 v112 v113 v114 v115 v116 v117 v118 v119 v120 v121 v122 v123 v124 v125 v126 v127 v128 v129 v130 v131 v132 v133 wx hJ
              go_wp2_with fail
              go_meet
              exact ⟨R', A', c', rfl, hJ⟩
      case' rest =>
        obtain ⟨R2, A2, c2, rfl, hJ2⟩ := hcut
        have HJ2 := Lib.hid hJ2
        clear hJ2 HJa HJb HBx HFx HU HJ1 HR HAt q0 q1 q2 q3
        have hk := ‹∀ (a : Act) (w : World), Code.wp Try.prog (right (right (right (inner (left (right (inner (inner (right (left (right (right (bodyOf Try.f4))))))))))))) _ a w → _›
        apply hk
        refine rest (W := W) (B := w1.heap.size) (F := F) (R := R2) (ask := ask) _ hl2 HAsk.out HJ2 _ _ _ _ _ _ _ _ _ _ _ _ _ _ _ _ _ _ _ _ _ _ _ _ _ _ _ _ _ _ _ _ _ _ _ _ _ _ _ _ _ _ _ _ _ _ _ _ _ _ _ _ _ _ _ _ _ _ _ _ _ _ _ _ _ _ _ _ _ _ _ _ _ _ _ _ _ _ _ _ _ _ _ _ _ _ _ _ _ _ _ _ _ _ _ _ _ _ _ _ _ _ _ _ _ _ _ _ _ _ _ _ _ _ _ _ _ _ _ _ _ _ _ _ _ _ _ _ _ _ _ _ _ _ _ _ _ _ _ _ _ _ _ _ _ _ _ _ _ _ _ _ _ _ _ _ _ _ _ _ _ _ _ _ _ _ _ _ _ _ _ _ _ _ _ _ _ _ _ _ _ _ _ _ _ _ _ _ _ _ _ _ _ _ _ _ _ _ _ _ _ _ _ _ _ _ _ _ _ _ _ _ _ _ _ _ _ _ _ _ ?_
        intro v4 v14 v15 v16 v17 v18 v19 v20 v21 v22 v23 v134 v135 v136 v137 v138 v139 v140 v141 v142 v143 v144 v145 v146 v147 v148 v149 v150 v151 v152 v153 v154 v155 v156 v157 v158 v159 v160 v161 v162 v163 v164 v165 v166 v167 v168 v169 v170 v171 v172 v173 v174 v175 v176 v177 v178 v179 v180 v181 v182 v183 v184 v185 v186 v187 v188 v189 v190 v191 v192 v193 v194 v195 v196 v197 v198 v199 v200 v201 v202 v203 v204 v205 v206 v207 v208 v209 v210 v211 v212 v213 v214 v215 v216 v217 v218 v219 v220 v221 v222 v223 wx hJ
        have HJ3 := Lib.hid hJ
        clear hJ HJ2
        go_wp2_with fail
        go_roundw
        case rel => exact ⟨i + 1, R2, A2, c2, by omega, by go_num, rfl, HJ3.out⟩
        case measure => simp [intOf]; omega
    · by_cases hl1 : i < l0.length
      case' pos =>
        have e2 : decide ((i : Int) < 60) = false := by simp; omega
        have e1 : decide ((i : Int) < (l0.length : Int)) = true := by simp; omega
      case' neg =>
        have e1 : decide ((i : Int) < (l0.length : Int)) = false := by simp; omega
      all_goals
        go_wp2_with fail
        refine (lives_any _).mono ?_; rintro e w9 ⟨rfl, hb9⟩
        have HB9 := Lib.hid (HJ1.out.bel.trans (hb9.mono HJ1.out.bel.size))
        clear hb9
        go_wp2_with fail
        go_ret
        exact ⟨rfl, HB9.out⟩

set_option maxRecDepth 100000 in
theorem walk {H : Type} {enc : TypeId × Value → H} {W : World} {base : Nat} {v0 : Value} {d0 : DataW H} {p0 : List MemPlace}
    (hv0 : Value.okWide Try.prog W .any base 49 v0) (h0 : DataW.Trod enc Try.prog W 0 (fun _ => true) true 49 v0 d0 p0) (a1 : Int) (w1 : (Lit.int .u32 a1).wf = true) :
    Calls Try.prog 4 #[v0, .int .u32 a1] W fun e w' => e = .returned (.bool true) ∧ Below W.heap.size W w' := by
  obtain ⟨A0, c0, l0, rfl, _, hc0, hm0, he0⟩ := open_sl Try.underlying49 (opens_sl keeps_act Try.underlying49 (by kernel_rfl) (by omega) opens_act) hv0 h0
  unfold maxLen at hm0
  exact core A0 c0 l0 a1 w1 W (by omega) he0
end Go.Proofs.Ytafepficapdepaa.tallyPlays
