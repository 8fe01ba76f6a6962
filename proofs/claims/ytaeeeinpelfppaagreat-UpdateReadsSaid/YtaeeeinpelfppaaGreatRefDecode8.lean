/- What confluenceref08.Decode returns. Condition: at most 50000 bytes. Printed by gen_refdec8.py. -/
import Derived.Test.YtaeeeinpelfppaaGreatRefDecE
namespace Go.Proofs.YtaeeeinpelfppaaGreat.attr
open Go.RowKit Go.Proofs.YtaeeeinpelfppaaGreat.kit Go.Proofs.YtaeeeinpelfppaaGreat.mem Go.Proofs.YtaeeeinpelfppaaGreat.foot Go.Proofs.YtaeeeinpelfppaaGreat.nums Go.Proofs.YtaeeeinpelfppaaGreat.asn Go.Proofs.YtaeeeinpelfppaaGreat.pth Go.Proofs.YtaeeeinpelfppaaGreat.octet Go.Proofs.YtaeeeinpelfppaaGreat.code
set_option linter.unusedVariables false
set_option linter.unusedSimpArgs false
theorem and16u (f : Nat) (h : f ≤ 255) : bits .and .u8 (f : Int) 16 = if ext f = true then 16 else 0 := by
  have : ∀ f : Fin 256, bits .and .u8 (f.val : Int) 16 = if ext f.val = true then 16 else 0 := by decide +kernel
  exact this ⟨f, by omega⟩
set_option maxRecDepth 100000 in
set_option maxHeartbeats 8000000 in
theorem head0 {w wa : World} {seen : List Nat} {a : Atr} {p L bc b off : Nat} {l : List UInt8} (Q : Exit → Act → World → Prop) (hrd : RD w seen seen a wa) (hb : Bn wa (fun _ => True) (some ⟨b, off, none⟩) bc l) (hL : L = l.length) (hl : l.length ≤ 50000) (hp : p < l.length) (u1 u9 u10 u11 u12 u13 u14 u15 u16 u17 u18 u19 u20 u21 u22 u23 u24 u25 u26 u27 u28 u29 u30 u31 u32 u33 u34 u35 u36 u37 u38 u39 u40 u41 u42 u43 u44 u45 u46 u47 u48 u49 u50 u51 u52 u53 u54 u55 u56 u57 u58 u59 u60 u61 u62 u63 u64 u65 u66 u67 u68 u69 u70 u71 u72 u73 u74 u75 u76 u77 u78 u79 u80 u81 u82 u83 u84 u85 u86 u87 u88 u89 u90 u91 u92 u93 u94 u95 u96 u97 u98 u99 u100 u101 u102 u103 u104 u105 u106 u107 u108 u109 u110 u111 u112 u113 u114 u115 u116 u117 u118 u119 u120 u121 u122 u123 u124 u125 u126 u127 u128 u129 u130 u131 u132 u133 u134 u135 u136 u137 u138 u139 u140 u141 u142 u143 u144 u145 u146 u147 u148 u149 u150 u151 u152 u153 u154 u155 u156 u157 u158 : Value)
    (hL_ : (att1 (l.drop p) = none ∨ ∃ x q, att1 (l.drop p) = some (x, q) ∧ x.k ∈ seen) → ∀ (v8 v9 v10 v11 v12 v13 v14 v15 v16 v24 v25 v26 v27 v28 v29 v30 v31 v32 v33 v34 v35 v36 v37 v38 v39 v40 v41 v42 v43 v44 v45 v46 v47 v48 v49 v50 v51 v52 v53 v54 v55 v56 v57 v58 v59 v60 v61 v62 v63 v64 v65 v66 v67 v68 v69 v70 v71 v72 v73 v74 v75 v76 v77 v78 v79 v80 v81 v82 v83 v84 v85 v86 v87 v88 v89 v90 v91 v92 v93 v94 v95 v96 v97 v98 v99 v100 v101 v102 v103 v104 v105 v106 v107 v108 v109 v110 v111 v112 v113 v114 v115 v116 v117 v118 v119 v120 v121 v122 v123 v124 v125 v126 v127 v128 v129 v130 v131 v132 v133 v134 v135 v136 v137 v138 v139 v140 v141 v142 v143 v144 v145 v146 v147 v148 v149 v150 v151 v152 v153 v154 v155 : Value) (w' : World), Bk w' w.heap.size 29 zeroC.toArray → Bk w' (w.heap.size + 1) 33 #[.int .i64 3, .int .i64 1, .slice none 0 0] → Below w.heap.size w w' → Q .ret { tmps := #[.slice (some ⟨b, off, none⟩) L bc, u1, .pointer (some ⟨w.heap.size, 0, none⟩), .pointer (some ⟨w.heap.size + 1, 0, none⟩), .pointer (some ⟨w.heap.size + 2, 0, none⟩), .pointer (some ⟨w.heap.size + 3, 0, none⟩), .pointer (some ⟨w.heap.size + 4, 0, none⟩), .pointer (some ⟨w.heap.size + 5, 0, none⟩), v8, v9, v10, v11, v12, v13, v14, v15, v16, u17, u18, u19, u20, u21, u22, u23, v24, v25, v26, v27, v28, v29, v30, v31, v32, v33, v34, v35, v36, v37, v38, v39, v40, v41, v42, v43, v44, v45, v46, v47, v48, v49, v50, v51, v52, v53, v54, v55, v56, v57, v58, v59, v60, v61, v62, v63, v64, v65, v66, v67, v68, v69, v70, v71, v72, v73, v74, v75, v76, v77, v78, v79, v80, v81, v82, v83, v84, v85, v86, v87, v88, v89, v90, v91, v92, v93, v94, v95, v96, v97, v98, v99, v100, v101, v102, v103, v104, v105, v106, v107, v108, v109, v110, v111, v112, v113, v114, v115, v116, v117, v118, v119, v120, v121, v122, v123, v124, v125, v126, v127, v128, v129, v130, v131, v132, v133, v134, v135, v136, v137, v138, v139, v140, v141, v142, v143, v144, v145, v146, v147, v148, v149, v150, v151, v152, v153, v154, v155, u156, u157, u158], defers := [] } w')
    (hQ : ∀ x q, att1 (l.drop p) = some (x, q) → x.k ∉ seen → (wrongS a x.f x.k x.v).2 = 0 → ∀ (v9 v10 v11 v12 v13 v14 v15 v16 v24 v25 v26 v27 v28 v29 v30 v31 v32 v33 v34 v35 v36 v37 v38 v39 v40 v41 v42 v43 v44 v45 v46 v47 v48 v49 v50 v51 v52 v53 v54 v55 v56 v57 v58 v59 v60 v61 v62 v63 v64 v65 v66 v67 v68 v69 v70 v71 v72 v73 v74 v75 v76 v77 v78 v79 v80 v81 v82 v83 v84 v85 v86 v87 v88 v89 v90 v91 v92 v93 v94 v95 v96 v97 v98 v99 v100 v101 v102 v103 v104 v105 v106 v107 v108 v109 v110 v111 v112 v113 v114 v115 v116 v117 v118 v119 v120 v121 v122 v123 v124 v125 v126 v127 v128 v129 v130 v131 v132 v133 v134 v135 v136 v137 v138 v139 v140 v141 v142 v143 v144 v145 v146 v147 v148 v149 v150 v151 v152 v153 v154 v155 : Value) (p' : Nat) (w' : World), l.drop p' = q → p' ≤ l.length → p < p' → x.v.length ≤ 50000 → RD w (x.k :: seen) (x.k :: seen) (wrongS a x.f x.k x.v).1 w' → Q .normal { tmps := #[.slice (some ⟨b, off, none⟩) L bc, u1, .pointer (some ⟨w.heap.size, 0, none⟩), .pointer (some ⟨w.heap.size + 1, 0, none⟩), .pointer (some ⟨w.heap.size + 2, 0, none⟩), .pointer (some ⟨w.heap.size + 3, 0, none⟩), .pointer (some ⟨w.heap.size + 4, 0, none⟩), .pointer (some ⟨w.heap.size + 5, 0, none⟩), .int .i64 (p' : Int), v9, v10, v11, v12, v13, v14, v15, v16, u17, u18, u19, u20, u21, u22, u23, v24, v25, v26, v27, v28, v29, v30, v31, v32, v33, v34, v35, v36, v37, v38, v39, v40, v41, v42, v43, v44, v45, v46, v47, v48, v49, v50, v51, v52, v53, v54, v55, v56, v57, v58, v59, v60, v61, v62, v63, v64, v65, v66, v67, v68, v69, v70, v71, v72, v73, v74, v75, v76, v77, v78, v79, v80, v81, v82, v83, v84, v85, v86, v87, v88, v89, v90, v91, v92, v93, v94, v95, v96, v97, v98, v99, v100, v101, v102, v103, v104, v105, v106, v107, v108, v109, v110, v111, v112, v113, v114, v115, v116, v117, v118, v119, v120, v121, v122, v123, v124, v125, v126, v127, v128, v129, v130, v131, v132, v133, v134, v135, v136, v137, v138, v139, v140, v141, v142, v143, v144, v145, v146, v147, v148, v149, v150, v151, v152, v153, v154, v155, u156, u157, u158], defers := [] } w')
    (hR : ∀ x q, att1 (l.drop p) = some (x, q) → x.k ∉ seen → (wrongS a x.f x.k x.v).2 ≠ 0 → ∀ (v8 v9 v10 v11 v12 v13 v14 v15 v16 v24 v25 v26 v27 v28 v29 v30 v31 v32 v33 v34 v35 v36 v37 v38 v39 v40 v41 v42 v43 v44 v45 v46 v47 v48 v49 v50 v51 v52 v53 v54 v55 v56 v57 v58 v59 v60 v61 v62 v63 v64 v65 v66 v67 v68 v69 v70 v71 v72 v73 v74 v75 v76 v77 v78 v79 v80 v81 v82 v83 v84 v85 v86 v87 v88 v89 v90 v91 v92 v93 v94 v95 v96 v97 v98 v99 v100 v101 v102 v103 v104 v105 v106 v107 v108 v109 v110 v111 v112 v113 v114 v115 v116 v117 v118 v119 v120 v121 v122 v123 v124 v125 v126 v127 v128 v129 v130 v131 v132 v133 v134 v135 v136 v137 v138 v139 v140 v141 v142 v143 v144 v145 v146 v147 v148 v149 v150 v151 v152 v153 v154 v155 : Value) (aA : Option Addr) (ac : Nat) (w' : World), Bk w' w.heap.size 29 zeroC.toArray → Bk w' (w.heap.size + 1) 33 (ntc (wrongS a x.f x.k x.v).2 aA x.all.length ac) → Below w.heap.size w w' → (∀ w2 G, Bn w2 G (some ⟨b, off, none⟩) bc l → Bn w2 G aA ac x.all) → Q .ret { tmps := #[.slice (some ⟨b, off, none⟩) L bc, u1, .pointer (some ⟨w.heap.size, 0, none⟩), .pointer (some ⟨w.heap.size + 1, 0, none⟩), .pointer (some ⟨w.heap.size + 2, 0, none⟩), .pointer (some ⟨w.heap.size + 3, 0, none⟩), .pointer (some ⟨w.heap.size + 4, 0, none⟩), .pointer (some ⟨w.heap.size + 5, 0, none⟩), v8, v9, v10, v11, v12, v13, v14, v15, v16, u17, u18, u19, u20, u21, u22, u23, v24, v25, v26, v27, v28, v29, v30, v31, v32, v33, v34, v35, v36, v37, v38, v39, v40, v41, v42, v43, v44, v45, v46, v47, v48, v49, v50, v51, v52, v53, v54, v55, v56, v57, v58, v59, v60, v61, v62, v63, v64, v65, v66, v67, v68, v69, v70, v71, v72, v73, v74, v75, v76, v77, v78, v79, v80, v81, v82, v83, v84, v85, v86, v87, v88, v89, v90, v91, v92, v93, v94, v95, v96, v97, v98, v99, v100, v101, v102, v103, v104, v105, v106, v107, v108, v109, v110, v111, v112, v113, v114, v115, v116, v117, v118, v119, v120, v121, v122, v123, v124, v125, v126, v127, v128, v129, v130, v131, v132, v133, v134, v135, v136, v137, v138, v139, v140, v141, v142, v143, v144, v145, v146, v147, v148, v149, v150, v151, v152, v153, v154, v155, u156, u157, u158], defers := [] } w') :
    Code.wp Tryz.prog (inner (right (inner (inner (right (left (right (right (right (right (bodyOf Tryz.f31))))))))))) Q { tmps := #[.slice (some ⟨b, off, none⟩) L bc, u1, .pointer (some ⟨w.heap.size, 0, none⟩), .pointer (some ⟨w.heap.size + 1, 0, none⟩), .pointer (some ⟨w.heap.size + 2, 0, none⟩), .pointer (some ⟨w.heap.size + 3, 0, none⟩), .pointer (some ⟨w.heap.size + 4, 0, none⟩), .pointer (some ⟨w.heap.size + 5, 0, none⟩), .int .i64 (p : Int), u9, u10, u11, u12, u13, u14, u15, u16, u17, u18, u19, u20, u21, u22, u23, u24, u25, u26, u27, u28, u29, u30, u31, u32, u33, u34, u35, u36, u37, u38, u39, u40, u41, u42, u43, u44, u45, u46, u47, u48, u49, u50, u51, u52, u53, u54, u55, u56, u57, u58, u59, u60, u61, u62, u63, u64, u65, u66, u67, u68, u69, u70, u71, u72, u73, u74, u75, u76, u77, u78, u79, u80, u81, u82, u83, u84, u85, u86, u87, u88, u89, u90, u91, u92, u93, u94, u95, u96, u97, u98, u99, u100, u101, u102, u103, u104, u105, u106, u107, u108, u109, u110, u111, u112, u113, u114, u115, u116, u117, u118, u119, u120, u121, u122, u123, u124, u125, u126, u127, u128, u129, u130, u131, u132, u133, u134, u135, u136, u137, u138, u139, u140, u141, u142, u143, u144, u145, u146, u147, u148, u149, u150, u151, u152, u153, u154, u155, u156, u157, u158], defers := [] } wa := by
  have HQL := Lib.hid hL_
  have HQ := Lib.hid hQ
  have HR := Lib.hid hR
  have HRD := Lib.hid hrd
  have HBn := Lib.hid hb
  have HLl := Lib.hid hL
  have hL5 : L ≤ 50000 := by omega
  have hpL : p < L := by omega
  have hi0 : (p : Int) < (L : Int) := by omega
  have hdl : (l.drop p).length = L - p := by rw [List.length_drop, hL]
  rcases hq : l.drop p with _ | ⟨fb, _ | ⟨kb, t⟩⟩
  · rw [hq] at hdl; simp at hdl; omega
  · rw [hq] at hdl
    have hl1 : L ≤ p + 1 := by simp at hdl; omega
    have d1 : decide ((p : Int) + 1 < (L : Int)) = false := by rw [decide_eq_false_iff_not]; omega
    have HQl := Lib.hid (HQL.out (.inl (by rw [hq]; rfl)))
    clear hL_ hQ hR hrd hb hdl hq hL hl hp HQ HR HQL
    refine wp_seq_k (x := left (inner (right (inner (inner (right (left (right (right (right (right (bodyOf Tryz.f31)))))))))))) (y := right (inner (right (inner (inner (right (left (right (right (right (right (bodyOf Tryz.f31)))))))))))) fun K hK => ?_
    have HK := Lib.hid hK
    clear hK
    simp only [left, right, inner, yes, no, bodyOf, Tryz.f31]
    go_wp2_with fail
    refine HK.out _ _ ?_
    clear HK
    refine wp_seq_k (x := left (right (inner (right (inner (inner (right (left (right (right (right (right (bodyOf Tryz.f31))))))))))))) (y := right (right (inner (right (inner (inner (right (left (right (right (right (right (bodyOf Tryz.f31))))))))))))) fun K hK => ?_
    have HK := Lib.hid hK
    clear hK
    simp only [left, right, inner, yes, no, bodyOf, Tryz.f31]
    go_wp2_with fail
    refine HK.out _ _ ?_
    clear HK
    refine list10 (hd := 3) Q HRD.out (by omega) (by omega) (by omega) (by omega) _ _ _ _ _ _ _ _ _ _ _ _ _ _ _ _ _ _ _ _ _ _ _ _ _ _ _ _ _ _ _ _ _ _ _ _ _ _ _ _ _ _ _ _ _ _ _ _ _ _ _ _ _ _ _ _ _ _ _ _ _ _ _ _ _ _ _ _ _ _ _ _ _ _ _ _ _ _ _ _ _ _ _ _ _ _ _ _ _ _ _ _ _ _ _ _ _ _ _ _ _ _ _ _ _ _ _ _ _ _ _ _ _ _ _ _ _ _ _ _ _ _ _ _ _ _ _ _ _ _ _ _ _ _ _ _ _ _ _ _ _ _ _ _ _ _ _ _ _ _ ?_
    intro v8 v10 v11 v12 v13 v14 v15 v16 v37 v38 v39 v40 v41 v42 v43 v44 v45 v46 v47 v48 v49 v50 v51 v52 v53 v54 v55 v56 v57 v58 v59 v60 v61 v62 v63 v64 v65 v66 v67 v68 v69 v70 v71 v72 v73 v74 v75 v76 v77 v78 v79 v80 v81 v82 v83 v84 v85 v86 v87 v88 v89 v90 v91 v92 v93 v94 v95 v96 v97 v98 v99 v100 v101 v102 v103 v104 v105 v106 v107 v108 v109 v110 v111 v112 v113 v114 v115 v116 v117 v118 v119 v120 v121 v122 v123 v124 v125 v126 v127 v128 v129 v130 v131 v132 v133 v134 v135 v136 v137 v138 v139 v140 v141 v142 v143 v144 v145 v146 v147 v148 v149 v150 v151 v152 v153 v154 v155 w' h1 h2 h3
    exact HQl.out _ _ _ _ _ _ _ _ _ _ _ _ _ _ _ _ _ _ _ _ _ _ _ _ _ _ _ _ _ _ _ _ _ _ _ _ _ _ _ _ _ _ _ _ _ _ _ _ _ _ _ _ _ _ _ _ _ _ _ _ _ _ _ _ _ _ _ _ _ _ _ _ _ _ _ _ _ _ _ _ _ _ _ _ _ _ _ _ _ _ _ _ _ _ _ _ _ _ _ _ _ _ _ _ _ _ _ _ _ _ _ _ _ _ _ _ _ _ _ _ _ _ _ _ _ _ _ _ _ _ _ _ _ _ _ _ _ _ _ _ _ w' h1 h2 h3
  · rw [hq] at hdl
    have htl : t.length + 2 = L - p := by simpa using hdl
    have e0 : l[p]? = some fb := by
      have : (l.drop p)[0]? = l[p]? := by rw [List.getElem?_drop]; simp
      rw [← this, hq]; rfl
    have y0 := (bn_cell hb e0).1
    have hf255 : fb.toNat ≤ 255 := by have := fb.toNat_lt; omega
    have hand := and16u fb.toNat hf255
    have d1 : decide ((p : Int) + 1 < (L : Int)) = true := by rw [decide_eq_true_iff]; omega
    obtain ⟨f, hf⟩ : ∃ f, f = fb.toNat := ⟨_, rfl⟩
    rw [← hf] at y0 hand
    clear hL_ hQ hR hrd hb hdl e0 hL hl hp
    rcases he : ext f with _ | _
    · have hln : lenN fb.toNat = 1 := by unfold lenN; rw [← hf, he]; rfl
      rw [he, if_neg (by decide)] at hand
      clear he hf
      refine wp_seq_k (x := left (inner (right (inner (inner (right (left (right (right (right (right (bodyOf Tryz.f31)))))))))))) (y := right (inner (right (inner (inner (right (left (right (right (right (right (bodyOf Tryz.f31)))))))))))) fun K hK => ?_
      have HK := Lib.hid hK
      clear hK
      simp only [left, right, inner, yes, no, bodyOf, Tryz.f31]
      go_wp2_with fail
      refine HK.out _ _ ?_
      clear HK
      refine wp_seq_k (x := left (right (inner (right (inner (inner (right (left (right (right (right (right (bodyOf Tryz.f31))))))))))))) (y := right (right (inner (right (inner (inner (right (left (right (right (right (right (bodyOf Tryz.f31))))))))))))) fun K hK => ?_
      have HK := Lib.hid hK
      clear hK
      simp only [left, right, inner, yes, no, bodyOf, Tryz.f31]
      go_wp2_with fail
      refine HK.out _ _ ?_
      clear HK
      by_cases hlong : L < p + 3
      · have HQl := Lib.hid (HQL.out (.inl (att1_short hq (by rw [hln]; omega))))
        refine list10 (hd := 3) Q HRD.out (by omega) (by omega) (by omega) hlong _ _ _ _ _ _ _ _ _ _ _ _ _ _ _ _ _ _ _ _ _ _ _ _ _ _ _ _ _ _ _ _ _ _ _ _ _ _ _ _ _ _ _ _ _ _ _ _ _ _ _ _ _ _ _ _ _ _ _ _ _ _ _ _ _ _ _ _ _ _ _ _ _ _ _ _ _ _ _ _ _ _ _ _ _ _ _ _ _ _ _ _ _ _ _ _ _ _ _ _ _ _ _ _ _ _ _ _ _ _ _ _ _ _ _ _ _ _ _ _ _ _ _ _ _ _ _ _ _ _ _ _ _ _ _ _ _ _ _ _ _ _ _ _ _ _ _ _ _ _ ?_
        intro v8 v10 v11 v12 v13 v14 v15 v16 v37 v38 v39 v40 v41 v42 v43 v44 v45 v46 v47 v48 v49 v50 v51 v52 v53 v54 v55 v56 v57 v58 v59 v60 v61 v62 v63 v64 v65 v66 v67 v68 v69 v70 v71 v72 v73 v74 v75 v76 v77 v78 v79 v80 v81 v82 v83 v84 v85 v86 v87 v88 v89 v90 v91 v92 v93 v94 v95 v96 v97 v98 v99 v100 v101 v102 v103 v104 v105 v106 v107 v108 v109 v110 v111 v112 v113 v114 v115 v116 v117 v118 v119 v120 v121 v122 v123 v124 v125 v126 v127 v128 v129 v130 v131 v132 v133 v134 v135 v136 v137 v138 v139 v140 v141 v142 v143 v144 v145 v146 v147 v148 v149 v150 v151 v152 v153 v154 v155 w' h1 h2 h3
        exact HQl.out _ _ _ _ _ _ _ _ _ _ _ _ _ _ _ _ _ _ _ _ _ _ _ _ _ _ _ _ _ _ _ _ _ _ _ _ _ _ _ _ _ _ _ _ _ _ _ _ _ _ _ _ _ _ _ _ _ _ _ _ _ _ _ _ _ _ _ _ _ _ _ _ _ _ _ _ _ _ _ _ _ _ _ _ _ _ _ _ _ _ _ _ _ _ _ _ _ _ _ _ _ _ _ _ _ _ _ _ _ _ _ _ _ _ _ _ _ _ _ _ _ _ _ _ _ _ _ _ _ _ _ _ _ _ _ _ _ _ _ _ _ w' h1 h2 h3
      · refine head2 (hd := 3) Q HRD.out HBn.out HLl.out (by have := HLl.out; omega) hq (by omega) (by have := HLl.out; omega) _ _ _ _ _ _ _ _ _ _ _ _ _ _ _ _ _ _ _ _ _ _ _ _ _ _ _ _ _ _ _ _ _ _ _ _ _ _ _ _ _ _ _ _ _ _ _ _ _ _ _ _ _ _ _ _ _ _ _ _ _ _ _ _ _ _ _ _ _ _ _ _ _ _ _ _ _ _ _ _ _ _ _ _ _ _ _ _ _ _ _ _ _ _ _ _ _ _ _ _ _ _ _ _ _ _ _ _ _ _ _ _ _ _ _ _ _ _ _ _ _ _ _ _ _ _ _ _ _ _ _ _ _ _ _ _ _ _ _ _ _ _ _ _ _ _ _ _ _ _ ?_ ?_ ?_
        · intro hx v8 v10 v11 v12 v13 v14 v15 v16 v37 v38 v39 v40 v41 v42 v43 v44 v45 v46 v47 v48 v49 v50 v51 v52 v53 v54 v55 v56 v57 v58 v59 v60 v61 v62 v63 v64 v65 v66 v67 v68 v69 v70 v71 v72 v73 v74 v75 v76 v77 v78 v79 v80 v81 v82 v83 v84 v85 v86 v87 v88 v89 v90 v91 v92 v93 v94 v95 v96 v97 v98 v99 v100 v101 v102 v103 v104 v105 v106 v107 v108 v109 v110 v111 v112 v113 v114 v115 v116 v117 v118 v119 v120 v121 v122 v123 v124 v125 v126 v127 v128 v129 v130 v131 v132 v133 v134 v135 v136 v137 v138 v139 v140 v141 v142 v143 v144 v145 v146 v147 v148 v149 v150 v151 v152 v153 v154 v155 w' h1 h2 h3
          exact HQL.out hx _ _ _ _ _ _ _ _ _ _ _ _ _ _ _ _ _ _ _ _ _ _ _ _ _ _ _ _ _ _ _ _ _ _ _ _ _ _ _ _ _ _ _ _ _ _ _ _ _ _ _ _ _ _ _ _ _ _ _ _ _ _ _ _ _ _ _ _ _ _ _ _ _ _ _ _ _ _ _ _ _ _ _ _ _ _ _ _ _ _ _ _ _ _ _ _ _ _ _ _ _ _ _ _ _ _ _ _ _ _ _ _ _ _ _ _ _ _ _ _ _ _ _ _ _ _ _ _ _ _ _ _ _ _ _ _ _ _ _ _ _ w' h1 h2 h3
        · intro x q h0 h00 hs v10 v11 v12 v13 v14 v15 v16 v37 v38 v39 v40 v41 v42 v43 v44 v45 v46 v47 v48 v49 v50 v51 v52 v53 v54 v55 v56 v57 v58 v59 v60 v61 v62 v63 v64 v65 v66 v67 v68 v69 v70 v71 v72 v73 v74 v75 v76 v77 v78 v79 v80 v81 v82 v83 v84 v85 v86 v87 v88 v89 v90 v91 v92 v93 v94 v95 v96 v97 v98 v99 v100 v101 v102 v103 v104 v105 v106 v107 v108 v109 v110 v111 v112 v113 v114 v115 v116 v117 v118 v119 v120 v121 v122 v123 v124 v125 v126 v127 v128 v129 v130 v131 v132 v133 v134 v135 v136 v137 v138 v139 v140 v141 v142 v143 v144 v145 v146 v147 v148 v149 v150 v151 v152 v153 v154 v155 p' w' h1 h2 h3 h4 h5
          exact HQ.out x q h0 h00 hs _ _ _ _ _ _ _ _ _ _ _ _ _ _ _ _ _ _ _ _ _ _ _ _ _ _ _ _ _ _ _ _ _ _ _ _ _ _ _ _ _ _ _ _ _ _ _ _ _ _ _ _ _ _ _ _ _ _ _ _ _ _ _ _ _ _ _ _ _ _ _ _ _ _ _ _ _ _ _ _ _ _ _ _ _ _ _ _ _ _ _ _ _ _ _ _ _ _ _ _ _ _ _ _ _ _ _ _ _ _ _ _ _ _ _ _ _ _ _ _ _ _ _ _ _ _ _ _ _ _ _ _ _ _ _ _ _ _ _ _ p' w' h1 h2 h3 h4 h5
        · intro x q h0 h00 hs v8 v10 v11 v12 v13 v14 v15 v16 v37 v38 v39 v40 v41 v42 v43 v44 v45 v46 v47 v48 v49 v50 v51 v52 v53 v54 v55 v56 v57 v58 v59 v60 v61 v62 v63 v64 v65 v66 v67 v68 v69 v70 v71 v72 v73 v74 v75 v76 v77 v78 v79 v80 v81 v82 v83 v84 v85 v86 v87 v88 v89 v90 v91 v92 v93 v94 v95 v96 v97 v98 v99 v100 v101 v102 v103 v104 v105 v106 v107 v108 v109 v110 v111 v112 v113 v114 v115 v116 v117 v118 v119 v120 v121 v122 v123 v124 v125 v126 v127 v128 v129 v130 v131 v132 v133 v134 v135 v136 v137 v138 v139 v140 v141 v142 v143 v144 v145 v146 v147 v148 v149 v150 v151 v152 v153 v154 v155 aA ac w' h1 h2 h3 h4
          exact HR.out x q h0 h00 hs _ _ _ _ _ _ _ _ _ _ _ _ _ _ _ _ _ _ _ _ _ _ _ _ _ _ _ _ _ _ _ _ _ _ _ _ _ _ _ _ _ _ _ _ _ _ _ _ _ _ _ _ _ _ _ _ _ _ _ _ _ _ _ _ _ _ _ _ _ _ _ _ _ _ _ _ _ _ _ _ _ _ _ _ _ _ _ _ _ _ _ _ _ _ _ _ _ _ _ _ _ _ _ _ _ _ _ _ _ _ _ _ _ _ _ _ _ _ _ _ _ _ _ _ _ _ _ _ _ _ _ _ _ _ _ _ _ _ _ _ _ aA ac w' h1 h2 h3 h4
    · have hln : lenN fb.toNat = 2 := by unfold lenN; rw [← hf, he]; rfl
      rw [he, if_pos rfl] at hand
      clear he hf
      refine wp_seq_k (x := left (inner (right (inner (inner (right (left (right (right (right (right (bodyOf Tryz.f31)))))))))))) (y := right (inner (right (inner (inner (right (left (right (right (right (right (bodyOf Tryz.f31)))))))))))) fun K hK => ?_
      have HK := Lib.hid hK
      clear hK
      simp only [left, right, inner, yes, no, bodyOf, Tryz.f31]
      go_wp2_with fail
      refine HK.out _ _ ?_
      clear HK
      refine wp_seq_k (x := left (right (inner (right (inner (inner (right (left (right (right (right (right (bodyOf Tryz.f31))))))))))))) (y := right (right (inner (right (inner (inner (right (left (right (right (right (right (bodyOf Tryz.f31))))))))))))) fun K hK => ?_
      have HK := Lib.hid hK
      clear hK
      simp only [left, right, inner, yes, no, bodyOf, Tryz.f31]
      go_wp2_with fail
      refine HK.out _ _ ?_
      clear HK
      by_cases hlong : L < p + 4
      · have HQl := Lib.hid (HQL.out (.inl (att1_short hq (by rw [hln]; omega))))
        refine list10 (hd := 4) Q HRD.out (by omega) (by omega) (by omega) hlong _ _ _ _ _ _ _ _ _ _ _ _ _ _ _ _ _ _ _ _ _ _ _ _ _ _ _ _ _ _ _ _ _ _ _ _ _ _ _ _ _ _ _ _ _ _ _ _ _ _ _ _ _ _ _ _ _ _ _ _ _ _ _ _ _ _ _ _ _ _ _ _ _ _ _ _ _ _ _ _ _ _ _ _ _ _ _ _ _ _ _ _ _ _ _ _ _ _ _ _ _ _ _ _ _ _ _ _ _ _ _ _ _ _ _ _ _ _ _ _ _ _ _ _ _ _ _ _ _ _ _ _ _ _ _ _ _ _ _ _ _ _ _ _ _ _ _ _ _ _ ?_
        intro v8 v10 v11 v12 v13 v14 v15 v16 v37 v38 v39 v40 v41 v42 v43 v44 v45 v46 v47 v48 v49 v50 v51 v52 v53 v54 v55 v56 v57 v58 v59 v60 v61 v62 v63 v64 v65 v66 v67 v68 v69 v70 v71 v72 v73 v74 v75 v76 v77 v78 v79 v80 v81 v82 v83 v84 v85 v86 v87 v88 v89 v90 v91 v92 v93 v94 v95 v96 v97 v98 v99 v100 v101 v102 v103 v104 v105 v106 v107 v108 v109 v110 v111 v112 v113 v114 v115 v116 v117 v118 v119 v120 v121 v122 v123 v124 v125 v126 v127 v128 v129 v130 v131 v132 v133 v134 v135 v136 v137 v138 v139 v140 v141 v142 v143 v144 v145 v146 v147 v148 v149 v150 v151 v152 v153 v154 v155 w' h1 h2 h3
        exact HQl.out _ _ _ _ _ _ _ _ _ _ _ _ _ _ _ _ _ _ _ _ _ _ _ _ _ _ _ _ _ _ _ _ _ _ _ _ _ _ _ _ _ _ _ _ _ _ _ _ _ _ _ _ _ _ _ _ _ _ _ _ _ _ _ _ _ _ _ _ _ _ _ _ _ _ _ _ _ _ _ _ _ _ _ _ _ _ _ _ _ _ _ _ _ _ _ _ _ _ _ _ _ _ _ _ _ _ _ _ _ _ _ _ _ _ _ _ _ _ _ _ _ _ _ _ _ _ _ _ _ _ _ _ _ _ _ _ _ _ _ _ _ w' h1 h2 h3
      · refine head2 (hd := 4) Q HRD.out HBn.out HLl.out (by have := HLl.out; omega) hq (by omega) (by have := HLl.out; omega) _ _ _ _ _ _ _ _ _ _ _ _ _ _ _ _ _ _ _ _ _ _ _ _ _ _ _ _ _ _ _ _ _ _ _ _ _ _ _ _ _ _ _ _ _ _ _ _ _ _ _ _ _ _ _ _ _ _ _ _ _ _ _ _ _ _ _ _ _ _ _ _ _ _ _ _ _ _ _ _ _ _ _ _ _ _ _ _ _ _ _ _ _ _ _ _ _ _ _ _ _ _ _ _ _ _ _ _ _ _ _ _ _ _ _ _ _ _ _ _ _ _ _ _ _ _ _ _ _ _ _ _ _ _ _ _ _ _ _ _ _ _ _ _ _ _ _ _ _ _ ?_ ?_ ?_
        · intro hx v8 v10 v11 v12 v13 v14 v15 v16 v37 v38 v39 v40 v41 v42 v43 v44 v45 v46 v47 v48 v49 v50 v51 v52 v53 v54 v55 v56 v57 v58 v59 v60 v61 v62 v63 v64 v65 v66 v67 v68 v69 v70 v71 v72 v73 v74 v75 v76 v77 v78 v79 v80 v81 v82 v83 v84 v85 v86 v87 v88 v89 v90 v91 v92 v93 v94 v95 v96 v97 v98 v99 v100 v101 v102 v103 v104 v105 v106 v107 v108 v109 v110 v111 v112 v113 v114 v115 v116 v117 v118 v119 v120 v121 v122 v123 v124 v125 v126 v127 v128 v129 v130 v131 v132 v133 v134 v135 v136 v137 v138 v139 v140 v141 v142 v143 v144 v145 v146 v147 v148 v149 v150 v151 v152 v153 v154 v155 w' h1 h2 h3
          exact HQL.out hx _ _ _ _ _ _ _ _ _ _ _ _ _ _ _ _ _ _ _ _ _ _ _ _ _ _ _ _ _ _ _ _ _ _ _ _ _ _ _ _ _ _ _ _ _ _ _ _ _ _ _ _ _ _ _ _ _ _ _ _ _ _ _ _ _ _ _ _ _ _ _ _ _ _ _ _ _ _ _ _ _ _ _ _ _ _ _ _ _ _ _ _ _ _ _ _ _ _ _ _ _ _ _ _ _ _ _ _ _ _ _ _ _ _ _ _ _ _ _ _ _ _ _ _ _ _ _ _ _ _ _ _ _ _ _ _ _ _ _ _ _ w' h1 h2 h3
        · intro x q h0 h00 hs v10 v11 v12 v13 v14 v15 v16 v37 v38 v39 v40 v41 v42 v43 v44 v45 v46 v47 v48 v49 v50 v51 v52 v53 v54 v55 v56 v57 v58 v59 v60 v61 v62 v63 v64 v65 v66 v67 v68 v69 v70 v71 v72 v73 v74 v75 v76 v77 v78 v79 v80 v81 v82 v83 v84 v85 v86 v87 v88 v89 v90 v91 v92 v93 v94 v95 v96 v97 v98 v99 v100 v101 v102 v103 v104 v105 v106 v107 v108 v109 v110 v111 v112 v113 v114 v115 v116 v117 v118 v119 v120 v121 v122 v123 v124 v125 v126 v127 v128 v129 v130 v131 v132 v133 v134 v135 v136 v137 v138 v139 v140 v141 v142 v143 v144 v145 v146 v147 v148 v149 v150 v151 v152 v153 v154 v155 p' w' h1 h2 h3 h4 h5
          exact HQ.out x q h0 h00 hs _ _ _ _ _ _ _ _ _ _ _ _ _ _ _ _ _ _ _ _ _ _ _ _ _ _ _ _ _ _ _ _ _ _ _ _ _ _ _ _ _ _ _ _ _ _ _ _ _ _ _ _ _ _ _ _ _ _ _ _ _ _ _ _ _ _ _ _ _ _ _ _ _ _ _ _ _ _ _ _ _ _ _ _ _ _ _ _ _ _ _ _ _ _ _ _ _ _ _ _ _ _ _ _ _ _ _ _ _ _ _ _ _ _ _ _ _ _ _ _ _ _ _ _ _ _ _ _ _ _ _ _ _ _ _ _ _ _ _ _ p' w' h1 h2 h3 h4 h5
        · intro x q h0 h00 hs v8 v10 v11 v12 v13 v14 v15 v16 v37 v38 v39 v40 v41 v42 v43 v44 v45 v46 v47 v48 v49 v50 v51 v52 v53 v54 v55 v56 v57 v58 v59 v60 v61 v62 v63 v64 v65 v66 v67 v68 v69 v70 v71 v72 v73 v74 v75 v76 v77 v78 v79 v80 v81 v82 v83 v84 v85 v86 v87 v88 v89 v90 v91 v92 v93 v94 v95 v96 v97 v98 v99 v100 v101 v102 v103 v104 v105 v106 v107 v108 v109 v110 v111 v112 v113 v114 v115 v116 v117 v118 v119 v120 v121 v122 v123 v124 v125 v126 v127 v128 v129 v130 v131 v132 v133 v134 v135 v136 v137 v138 v139 v140 v141 v142 v143 v144 v145 v146 v147 v148 v149 v150 v151 v152 v153 v154 v155 aA ac w' h1 h2 h3 h4
          exact HR.out x q h0 h00 hs _ _ _ _ _ _ _ _ _ _ _ _ _ _ _ _ _ _ _ _ _ _ _ _ _ _ _ _ _ _ _ _ _ _ _ _ _ _ _ _ _ _ _ _ _ _ _ _ _ _ _ _ _ _ _ _ _ _ _ _ _ _ _ _ _ _ _ _ _ _ _ _ _ _ _ _ _ _ _ _ _ _ _ _ _ _ _ _ _ _ _ _ _ _ _ _ _ _ _ _ _ _ _ _ _ _ _ _ _ _ _ _ _ _ _ _ _ _ _ _ _ _ _ _ _ _ _ _ _ _ _ _ _ _ _ _ _ _ _ _ _ aA ac w' h1 h2 h3 h4
/-- what is read handed back; the notice's bytes lie anywhere -/
def RetDr (d : Dec) (w : World) (e : Ending) (w' : World) : Prop :=
  match d with
  | .ok a => ∃ Ap cp Ac cc, e = .returned (.tuple #[.agg (atc a Ap cp Ac cc).toArray, .agg #[.int .i64 0, .int .i64 0, .slice none 0 0]]) ∧ Am w' (fun k => w.heap.size ≤ k) a Ap cp Ac cc ∧ Below w.heap.size w w'
  | .err s d => ∃ A c, e = .returned (.tuple #[.agg zeroC.toArray, .agg #[.int .i64 3, .int .i64 (s : Int), .slice A d.length c]]) ∧ Bn w' (fun _ => True) A c d ∧ Below w.heap.size w w'
theorem RD.start {w : World} : RD w [] [] zeroA ((((((w.alloc (.cells zeroC.toArray 29)).alloc (.cells #[.int .i64 0, .int .i64 0, .slice none 0 0] 33)).alloc (.cells zeroC.toArray 29)).alloc (.cells zeroC.toArray 29)).alloc (.cells #[.int .i64 3, .int .i64 1, .slice none 0 0] 33)).alloc (.cells seenZ 88)) := by
  have h := allocs_at [.cells zeroC.toArray 29, .cells #[.int .i64 0, .int .i64 0, .slice none 0 0] 33, .cells zeroC.toArray 29, .cells zeroC.toArray 29, .cells #[.int .i64 3, .int .i64 1, .slice none 0 0] 33, .cells seenZ 88] w
  exact ⟨h 0 _ _ rfl, h 1 _ _ rfl, ⟨none, 0, none, 0, h 2 _ _ rfl, Am.zero _ _⟩, h 3 _ _ rfl, h 4 _ _ rfl, ⟨seenZ, h 5 _ _ rfl, by unfold seenZ; simp, fun k hk => by unfold seenZ; simp [hk]⟩, allocs_below [.cells zeroC.toArray 29, .cells #[.int .i64 0, .int .i64 0, .slice none 0 0] 33, .cells zeroC.toArray 29, .cells zeroC.toArray 29, .cells #[.int .i64 3, .int .i64 1, .slice none 0 0] 33, .cells seenZ 88] w, BitsOk.zero⟩
set_option maxRecDepth 100000 in
set_option maxHeartbeats 8000000 in
theorem refDecode_any (A : Option Addr) (c : Nat) (G : Foot) (l : List UInt8) (w : World) (hl : l.length ≤ 50000) (hb : Bn w G A c l) :
    Calls Tryz.prog 31 #[.slice A l.length c] w (RetDr (decS l) w) := by
  have HSz : Hid ((Tryz.prog.info? 29).map (·.size) = some 9) := info_atr
  have HSn : Hid ((Tryz.prog.info? 33).map (·.size) = some 3) := info_ntc
  obtain ⟨w1, hw1⟩ : ∃ w1, w1 = (((((w.alloc (.cells zeroC.toArray 29)).alloc (.cells #[.int .i64 0, .int .i64 0, .slice none 0 0] 33)).alloc (.cells zeroC.toArray 29)).alloc (.cells zeroC.toArray 29)).alloc (.cells #[.int .i64 3, .int .i64 1, .slice none 0 0] 33)) := ⟨_, rfl⟩
  have HS0 := Lib.hid (RD.start (w := w))
  rw [← hw1] at HS0
  have HS1 : Hid (w1.heap.size = w.heap.size + 5) := by rw [Hid, hw1]; simp
  obtain ⟨D, hD⟩ : ∃ D, D = decS l := ⟨_, rfl⟩
  have HD0 : Hid (decQ l [] zeroA = D) := hD.symm
  rw [← hD]
  obtain ⟨Q, hQ⟩ : ∃ Q, Q = RetDr D w := ⟨_, rfl⟩
  have HQe : Hid (∀ (s : Nat) (d : List UInt8) (A : Option Addr) (c : Nat) (w' : World), D = .err s d → Bn w' (fun _ => True) A c d → Below w.heap.size w w' → Q (.returned (.tuple #[.agg zeroC.toArray, .agg #[.int .i64 3, .int .i64 (s : Int), .slice A d.length c]])) w') := fun s d A c w' h1 h2 h3 => by
    rw [hQ, h1]
    exact ⟨A, c, rfl, h2, h3⟩
  have HQo : Hid (∀ (a : Atr) (Ap : Option Addr) (cp : Nat) (Ac : Option Addr) (cc : Nat) (w' : World), D = .ok a → Am w' (fun k => w.heap.size ≤ k) a Ap cp Ac cc → Below w.heap.size w w' → Q (.returned (.tuple #[.agg (atc a Ap cp Ac cc).toArray, .agg #[.int .i64 0, .int .i64 0, .slice none 0 0]])) w') := fun a Ap cp Ac cc w' h1 h2 h3 => by
    rw [hQ, h1]
    exact ⟨Ap, cp, Ac, cc, rfl, h2, h3⟩
  rw [← hQ]
  have HRs := Lib.hid run_seen
  have HBn := Lib.hid (fun w' (h : Below w.heap.size w w') => (hb.bel h).mono (H := fun _ => True) fun _ _ _ => trivial)
  have hw0 := hw1
  simp only [zeroC] at hw0
  clear hD hQ hw1 hb
  go_enter Tryz.func31, Tryz.ntmps31
  go_upto_region 3 with fail
  rw [show (_ : World) = w1 from hw0.symm]
  clear hw0
  go_wp2_with (refine Great.wpList_allocTo rfl _ rfl _ _ (HRs.out _) ?_)
  rw [HS1.out]
  go_loopw [8] (fun v8 wr => ∃ (p : Nat) (seen : List Nat) (a : Atr), v8 = .int .i64 p ∧ p ≤ l.length ∧ decQ (l.drop p) seen a = D ∧ RD w seen seen a wr ∧ nsz a.path ≤ 100000 ∧ a.comms.length ≤ 50000) (fun v8 _ => l.length - (intOf v8).toNat)
  case atStart => exact ⟨0, [], zeroA, rfl, by omega, HD0.out, HS0.out, Nat.zero_le _, Nat.zero_le _⟩
  case round =>
    obtain ⟨p, seen, a, rfl, hp, hd, hrd, hps, hcs⟩ := hrel
    have HD := Lib.hid hd
    have HRD := Lib.hid hrd
    by_cases hlt : p < l.length
    · obtain ⟨b, off, rfl⟩ := bn_some (HBn.out wr hrd.bel) (by omega)
      have hi1 : (p : Int) < (l.length : Int) := by omega
      have HNe : Hid (l.drop p ≠ []) := by
        intro e
        have := congrArg List.length e
        simp at this
        omega
      clear hd hrd
      refine wp_seq_k (fun K hK => ?_)
      have HK := Lib.hid hK
      clear hK
      go_wp2_with fail
      refine HK.out _ _ ?_
      clear HK
      refine wp_block ?_
      refine head0 (L := l.length) (l := l) _ HRD.out (HBn.out wr HRD.out.bel) rfl hl hlt _ _ _ _ _ _ _ _ _ _ _ _ _ _ _ _ _ _ _ _ _ _ _ _ _ _ _ _ _ _ _ _ _ _ _ _ _ _ _ _ _ _ _ _ _ _ _ _ _ _ _ _ _ _ _ _ _ _ _ _ _ _ _ _ _ _ _ _ _ _ _ _ _ _ _ _ _ _ _ _ _ _ _ _ _ _ _ _ _ _ _ _ _ _ _ _ _ _ _ _ _ _ _ _ _ _ _ _ _ _ _ _ _ _ _ _ _ _ _ _ _ _ _ _ _ _ _ _ _ _ _ _ _ _ _ _ _ _ _ _ _ _ _ _ _ _ _ _ _ _ _ ?_ ?_ ?_
      · intro hx v8 v9 v10 v11 v12 v13 v14 v15 v16 v24 v25 v26 v27 v28 v29 v30 v31 v32 v33 v34 v35 v36 v37 v38 v39 v40 v41 v42 v43 v44 v45 v46 v47 v48 v49 v50 v51 v52 v53 v54 v55 v56 v57 v58 v59 v60 v61 v62 v63 v64 v65 v66 v67 v68 v69 v70 v71 v72 v73 v74 v75 v76 v77 v78 v79 v80 v81 v82 v83 v84 v85 v86 v87 v88 v89 v90 v91 v92 v93 v94 v95 v96 v97 v98 v99 v100 v101 v102 v103 v104 v105 v106 v107 v108 v109 v110 v111 v112 v113 v114 v115 v116 v117 v118 v119 v120 v121 v122 v123 v124 v125 v126 v127 v128 v129 v130 v131 v132 v133 v134 v135 v136 v137 v138 v139 v140 v141 v142 v143 v144 v145 v146 v147 v148 v149 v150 v151 v152 v153 v154 v155 w' h1 h2 h3
        have HD1 : Hid (D = .err 1 []) := by
          rcases hx with hx | ⟨x, q, hx, hxs⟩
          · exact HD.out.symm.trans (decQ_none HNe.out hx)
          · rw [Hid, ← HD.out, decQ_some hx, if_pos hxs]
        have H1 := Lib.hid h1
        have H2 := Lib.hid h2
        have H3 := Lib.hid h3
        clear hx h1 h2 h3
        show bodyPost _ _ _ .ret _ _
        refine bodyPost_ret (res_cc rfl _ _ w.heap.size (w.heap.size + 1) 29 33 zeroC.toArray #[.int .i64 3, .int .i64 1, .slice none 0 0] (0, 0) (0, 0) _ _ rfl H1.out Tryz.underlying29 rfl HSz.out rfl H2.out Tryz.underlying33 rfl HSn.out) rfl ?_
        exact HQe.out 1 [] none 0 _ HD1.out (Bn.nil_ _ _) H3.out
      · intro x q hx hks hs v9 v10 v11 v12 v13 v14 v15 v16 v24 v25 v26 v27 v28 v29 v30 v31 v32 v33 v34 v35 v36 v37 v38 v39 v40 v41 v42 v43 v44 v45 v46 v47 v48 v49 v50 v51 v52 v53 v54 v55 v56 v57 v58 v59 v60 v61 v62 v63 v64 v65 v66 v67 v68 v69 v70 v71 v72 v73 v74 v75 v76 v77 v78 v79 v80 v81 v82 v83 v84 v85 v86 v87 v88 v89 v90 v91 v92 v93 v94 v95 v96 v97 v98 v99 v100 v101 v102 v103 v104 v105 v106 v107 v108 v109 v110 v111 v112 v113 v114 v115 v116 v117 v118 v119 v120 v121 v122 v123 v124 v125 v126 v127 v128 v129 v130 v131 v132 v133 v134 v135 v136 v137 v138 v139 v140 v141 v142 v143 v144 v145 v146 v147 v148 v149 v150 v151 v152 v153 v154 v155 p' w' hq hp' hlt' hxv h1
        have HDn : Hid (decQ (l.drop p') (x.k :: seen) (wrongS a x.f x.k x.v).1 = D) := by
          rw [Hid, ← HD.out, decQ_some hx, if_neg hks, if_neg (by rw [hs]; simp), hq]
        have HSz2 := Lib.hid (wrongS_sz a x.f x.k x.v hxv hps hcs)
        have H1 := Lib.hid h1
        clear hx hks hs hq hxv h1
        simp only [Exit.inBlock, Exit.then]
        go_roundw
        case rel =>
          exact ⟨_, _, _, _, _, _, _, _, _, _, _, _, _, _, _, _, _, _, _, _, _, _, _, _, _, _, _, _, _, _, _, _, _, _, _, _, _, _, _, _, _, _, _, _, _, _, _, _, _, _, _, _, _, _, _, _, _, _, _, _, _, _, _, _, _, _, _, _, _, _, _, _, _, _, _, _, _, _, _, _, _, _, _, _, _, _, _, _, _, _, _, _, _, _, _, _, _, _, _, _, _, _, _, _, _, _, _, _, _, _, _, _, _, _, _, _, _, _, _, _, _, _, _, _, _, _, _, _, _, _, _, _, _, _, _, _, _, _, _, _, _, _, _, _, _, ⟨p', x.k :: seen, (wrongS a x.f x.k x.v).1, rfl, hp', HDn.out, H1.out, HSz2.out.1, HSz2.out.2⟩, rfl⟩
        case measure => simp [intOf]; omega
      · intro x q hx hks hs v8 v9 v10 v11 v12 v13 v14 v15 v16 v24 v25 v26 v27 v28 v29 v30 v31 v32 v33 v34 v35 v36 v37 v38 v39 v40 v41 v42 v43 v44 v45 v46 v47 v48 v49 v50 v51 v52 v53 v54 v55 v56 v57 v58 v59 v60 v61 v62 v63 v64 v65 v66 v67 v68 v69 v70 v71 v72 v73 v74 v75 v76 v77 v78 v79 v80 v81 v82 v83 v84 v85 v86 v87 v88 v89 v90 v91 v92 v93 v94 v95 v96 v97 v98 v99 v100 v101 v102 v103 v104 v105 v106 v107 v108 v109 v110 v111 v112 v113 v114 v115 v116 v117 v118 v119 v120 v121 v122 v123 v124 v125 v126 v127 v128 v129 v130 v131 v132 v133 v134 v135 v136 v137 v138 v139 v140 v141 v142 v143 v144 v145 v146 v147 v148 v149 v150 v151 v152 v153 v154 v155 aA ac w' h1 h2 h3 h4
        have HDe : Hid (D = .err (wrongS a x.f x.k x.v).2 (if (wrongS a x.f x.k x.v).2 = 11 then [] else x.all)) := by
          rw [Hid, ← HD.out, decQ_some hx, if_neg hks, if_pos hs]
        generalize (wrongS a x.f x.k x.v).2 = s at *
        have HBf := Lib.hid (h4 w' _ (HBn.out w' h3))
        have H1 := Lib.hid h1
        have H3 := Lib.hid h3
        by_cases h11 : s = 11
        · subst h11
          rw [if_pos rfl] at HDe
          have e : ntc 11 aA x.all.length ac = #[.int .i64 3, .int .i64 11, .slice none 0 0] := if_pos rfl
          rw [e] at h2
          have H2 := Lib.hid h2
          clear hx hks hs h1 h2 h3 h4 e
          show bodyPost _ _ _ .ret _ _
          refine bodyPost_ret (res_cc rfl _ _ w.heap.size (w.heap.size + 1) 29 33 zeroC.toArray #[.int .i64 3, .int .i64 11, .slice none 0 0] (0, 0) (0, 0) _ _ rfl H1.out Tryz.underlying29 rfl HSz.out rfl H2.out Tryz.underlying33 rfl HSn.out) rfl ?_
          exact HQe.out 11 [] none 0 _ HDe.out (Bn.nil_ _ _) H3.out
        · rw [if_neg h11] at HDe
          have e : ntc s aA x.all.length ac = #[.int .i64 3, .int .i64 (s : Int), .slice aA x.all.length ac] := if_neg h11
          rw [e] at h2
          have H2 := Lib.hid h2
          clear hx hks hs h1 h2 h3 h4 e
          show bodyPost _ _ _ .ret _ _
          refine bodyPost_ret (res_cc rfl _ _ w.heap.size (w.heap.size + 1) 29 33 zeroC.toArray #[.int .i64 3, .int .i64 (s : Int), .slice aA x.all.length ac] (0, 0) (0, 0) _ _ rfl H1.out Tryz.underlying29 rfl HSz.out rfl H2.out Tryz.underlying33 rfl HSn.out) rfl ?_
          exact HQe.out s x.all aA ac _ HDe.out HBf.out H3.out
    · obtain rfl : p = l.length := by omega
      have HDo : Hid (D = .ok (normA a)) := by rw [Hid, ← hd, List.drop_length, decQ_nil]
      obtain ⟨Ap, cp, Ac, cc, hk1, hk2⟩ := hrd.at_
      have HK := Lib.hid hk1
      have HM := Lib.hid hk2
      have HNm := Lib.hid (refNorm_any a Ap Ac cp cc _ wr hk2 hps (by omega))
      clear hd hrd hk1 hk2
      go_wp2_with (first
        | (refine wpList_loadBk rfl 29 (.tmp 4) rfl (w.heap.size + 2) (by rfl) 29 (atc a Ap cp Ac cc).toArray _ HK.out Tryz.underlying29 (by rfl) HSz.out ?_)
        | (go_at_call 66; refine HNm.out.mono ?_; rintro e w3 ⟨Bp, dp, Bc, dc, rfl, h1, h2⟩; have HM3 := Lib.hid h1; have HR3 := Lib.hid (HRD.out.go h2); clear h1 h2)
        | (refine wpList_storeBk rfl 29 (.tmp 2) (.tmp 157) rfl w.heap.size (by rfl) (atc (normA a) Bp dp Bc dc).toArray (by rfl) 29 zeroC.toArray HR3.out.z0 HSz.out rfl (by rfl) ?_; intro w5 h5 h6 h7; have H5 := Lib.hid h5; have H6 := Lib.hid h6; have HZ5 := Lib.hid (HR3.out.z1.chg h6 (by omega)); clear h5 h6 h7)
        | (refine wpList_storeBk rfl 33 (.tmp 3) (.tmp 158) rfl (w.heap.size + 1) (by rfl) #[.int .i64 0, .int .i64 0, .slice none 0 0] (by rfl) 33 #[.int .i64 0, .int .i64 0, .slice none 0 0] HZ5.out HSn.out rfl (by rfl) ?_; intro w6 h5 h6 h7; have H7 := Lib.hid h5; have H8 := Lib.hid h6; have H9 := Lib.hid (H5.out.chg h6 (by omega)); clear h5 h6 h7))
      have hb3 := HR3.out.bel
      have hz := HRD.out.z1.lt
      refine bodyPost_ret (res_cc rfl _ _ w.heap.size (w.heap.size + 1) 29 33 (atc (normA a) Bp dp Bc dc).toArray #[.int .i64 0, .int .i64 0, .slice none 0 0] (0, 0) (0, 0) _ _ rfl H9.out Tryz.underlying29 rfl HSz.out rfl H7.out Tryz.underlying33 rfl HSn.out) rfl ?_
      exact HQo.out _ Bp dp Bc dc _ HDo.out (((HM3.out.chg H6.out (fun k _ hk e => by omega)).chg H8.out (fun k _ hk e => by omega)).mono fun k _ hk => by omega) ((hb3.trans (H6.out.below (fun k e => by omega) hb3.size)).trans (H8.out.below (fun k e => by omega) (Nat.le_trans hb3.size H6.out.size)))
end Go.Proofs.YtaeeeinpelfppaaGreat.attr
