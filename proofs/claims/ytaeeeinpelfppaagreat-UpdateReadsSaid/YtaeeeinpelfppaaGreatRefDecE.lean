/- The head of an attribute in confluenceref08.Decode. Conditions as each lemma states. Printed by gen_refdec8.py. -/
import Derived.Test.YtaeeeinpelfppaaGreatRefDecD
namespace Go.Proofs.YtaeeeinpelfppaaGreat.attr
open Go.RowKit Go.Proofs.YtaeeeinpelfppaaGreat.kit Go.Proofs.YtaeeeinpelfppaaGreat.mem Go.Proofs.YtaeeeinpelfppaaGreat.foot Go.Proofs.YtaeeeinpelfppaaGreat.nums Go.Proofs.YtaeeeinpelfppaaGreat.asn Go.Proofs.YtaeeeinpelfppaaGreat.pth Go.Proofs.YtaeeeinpelfppaaGreat.octet Go.Proofs.YtaeeeinpelfppaaGreat.code
set_option linter.unusedVariables false
set_option linter.unusedSimpArgs false
set_option maxRecDepth 100000 in
set_option maxHeartbeats 8000000 in
theorem list10 {w wa : World} {seen ms : List Nat} {a : Atr} {p hd L bc b off : Nat} (Q : Exit → Act → World → Prop) (hrd : RD w seen ms a wa) (hL5 : L ≤ 50000) (hh : hd ≤ 4) (hp : p ≤ L) (hlt : L < p + hd) (u1 u10 u11 u12 u13 u14 u15 u16 u17 u18 u19 u20 u21 u22 u23 u24 u25 u26 u27 u28 u29 u30 u31 u32 u33 u34 u35 u36 u37 u38 u39 u40 u41 u42 u43 u44 u45 u46 u47 u48 u49 u50 u51 u52 u53 u54 u55 u56 u57 u58 u59 u60 u61 u62 u63 u64 u65 u66 u67 u68 u69 u70 u71 u72 u73 u74 u75 u76 u77 u78 u79 u80 u81 u82 u83 u84 u85 u86 u87 u88 u89 u90 u91 u92 u93 u94 u95 u96 u97 u98 u99 u100 u101 u102 u103 u104 u105 u106 u107 u108 u109 u110 u111 u112 u113 u114 u115 u116 u117 u118 u119 u120 u121 u122 u123 u124 u125 u126 u127 u128 u129 u130 u131 u132 u133 u134 u135 u136 u137 u138 u139 u140 u141 u142 u143 u144 u145 u146 u147 u148 u149 u150 u151 u152 u153 u154 u155 u156 u157 u158 : Value)
    (hL : ∀ (v8 v10 v11 v12 v13 v14 v15 v16 v37 v38 v39 v40 v41 v42 v43 v44 v45 v46 v47 v48 v49 v50 v51 v52 v53 v54 v55 v56 v57 v58 v59 v60 v61 v62 v63 v64 v65 v66 v67 v68 v69 v70 v71 v72 v73 v74 v75 v76 v77 v78 v79 v80 v81 v82 v83 v84 v85 v86 v87 v88 v89 v90 v91 v92 v93 v94 v95 v96 v97 v98 v99 v100 v101 v102 v103 v104 v105 v106 v107 v108 v109 v110 v111 v112 v113 v114 v115 v116 v117 v118 v119 v120 v121 v122 v123 v124 v125 v126 v127 v128 v129 v130 v131 v132 v133 v134 v135 v136 v137 v138 v139 v140 v141 v142 v143 v144 v145 v146 v147 v148 v149 v150 v151 v152 v153 v154 v155 : Value) (w' : World), Bk w' w.heap.size 29 zeroC.toArray → Bk w' (w.heap.size + 1) 33 #[.int .i64 3, .int .i64 1, .slice none 0 0] → Below w.heap.size w w' → Q .ret { tmps := #[.slice (some ⟨b, off, none⟩) L bc, u1, .pointer (some ⟨w.heap.size, 0, none⟩), .pointer (some ⟨w.heap.size + 1, 0, none⟩), .pointer (some ⟨w.heap.size + 2, 0, none⟩), .pointer (some ⟨w.heap.size + 3, 0, none⟩), .pointer (some ⟨w.heap.size + 4, 0, none⟩), .pointer (some ⟨w.heap.size + 5, 0, none⟩), v8, .int .i64 (hd : Int), v10, v11, v12, v13, v14, v15, v16, u17, u18, u19, u20, u21, u22, u23, u24, u25, u26, u27, u28, u29, u30, u31, u32, u33, u34, u35, u36, v37, v38, v39, v40, v41, v42, v43, v44, v45, v46, v47, v48, v49, v50, v51, v52, v53, v54, v55, v56, v57, v58, v59, v60, v61, v62, v63, v64, v65, v66, v67, v68, v69, v70, v71, v72, v73, v74, v75, v76, v77, v78, v79, v80, v81, v82, v83, v84, v85, v86, v87, v88, v89, v90, v91, v92, v93, v94, v95, v96, v97, v98, v99, v100, v101, v102, v103, v104, v105, v106, v107, v108, v109, v110, v111, v112, v113, v114, v115, v116, v117, v118, v119, v120, v121, v122, v123, v124, v125, v126, v127, v128, v129, v130, v131, v132, v133, v134, v135, v136, v137, v138, v139, v140, v141, v142, v143, v144, v145, v146, v147, v148, v149, v150, v151, v152, v153, v154, v155, u156, u157, u158], defers := [] } w') :
    Code.wp Tryz.prog (right (right (inner (right (inner (inner (right (left (right (right (right (right (bodyOf Tryz.f31))))))))))))) Q { tmps := #[.slice (some ⟨b, off, none⟩) L bc, u1, .pointer (some ⟨w.heap.size, 0, none⟩), .pointer (some ⟨w.heap.size + 1, 0, none⟩), .pointer (some ⟨w.heap.size + 2, 0, none⟩), .pointer (some ⟨w.heap.size + 3, 0, none⟩), .pointer (some ⟨w.heap.size + 4, 0, none⟩), .pointer (some ⟨w.heap.size + 5, 0, none⟩), .int .i64 (p : Int), .int .i64 (hd : Int), u10, u11, u12, u13, u14, u15, u16, u17, u18, u19, u20, u21, u22, u23, u24, u25, u26, u27, u28, u29, u30, u31, u32, u33, u34, u35, u36, u37, u38, u39, u40, u41, u42, u43, u44, u45, u46, u47, u48, u49, u50, u51, u52, u53, u54, u55, u56, u57, u58, u59, u60, u61, u62, u63, u64, u65, u66, u67, u68, u69, u70, u71, u72, u73, u74, u75, u76, u77, u78, u79, u80, u81, u82, u83, u84, u85, u86, u87, u88, u89, u90, u91, u92, u93, u94, u95, u96, u97, u98, u99, u100, u101, u102, u103, u104, u105, u106, u107, u108, u109, u110, u111, u112, u113, u114, u115, u116, u117, u118, u119, u120, u121, u122, u123, u124, u125, u126, u127, u128, u129, u130, u131, u132, u133, u134, u135, u136, u137, u138, u139, u140, u141, u142, u143, u144, u145, u146, u147, u148, u149, u150, u151, u152, u153, u154, u155, u156, u157, u158], defers := [] } wa := by
  have HQL := Lib.hid hL
  have HRD := Lib.hid hrd
  have HSz : Hid ((Tryz.prog.info? 29).map (·.size) = some 9) := info_atr
  have HSn : Hid ((Tryz.prog.info? 33).map (·.size) = some 3) := info_ntc
  have d1 : decide ((L : Int) < (p : Int) + (hd : Int)) = true := by rw [decide_eq_true_iff]; omega
  clear hL hrd
  refine wp_seq_k (x := left (right (right (inner (right (inner (inner (right (left (right (right (right (right (bodyOf Tryz.f31)))))))))))))) (y := right (right (right (inner (right (inner (inner (right (left (right (right (right (right (bodyOf Tryz.f31)))))))))))))) fun K hK => ?_
  clear hK
  simp only [left, right, inner, yes, no, bodyOf, Tryz.f31]
  go_upto_region 10 with fail
  have H0 := Lib.hid (HRD.out.go (Below.refl _ _).drew).z0
  have H1 := Lib.hid (HRD.out.go (Below.refl _ _).drew).z1
  have H3 := Lib.hid (HRD.out.go (Below.refl _ _).drew).z3
  have H4 := Lib.hid (HRD.out.go (Below.refl _ _).drew).z4
  have HBd := Lib.hid (HRD.out.go (Below.refl _ _).drew).bel
  refine wp_region_noPanic ?_
  refine wp_region_held_drew (S := fun w' => Bk w' (w.heap.size + 3) 29 zeroC.toArray ∧ Bk w' (w.heap.size + 4) 33 #[.int .i64 3, .int .i64 1, .slice none 0 0]) (by kernel_rfl) ?_ (fun hHeld => ?_)
  · exact ⟨H3.out, H4.out⟩
  refine wpAnyH_take (i := 0) (oi := _) (v := .agg zeroC.toArray) rfl (by kernel_rfl) (by kernel_rfl) (by kernel_rfl) (fun _ _ _ h => h) (yields_load rfl 29 (.tmp 5) rfl (w.heap.size + 3) (by rfl) 29 zeroC.toArray _ Tryz.underlying29 (by rfl) HSz.out (fun w h => h.1)) (by assumption) ?_
  try simp only [Act.put, List.getElem_toArray, List.getElem_cons_succ, List.getElem_cons_zero, List.setIfInBounds_toArray, List.set_cons_zero, List.set_cons_succ]
  refine wpAnyH_take (i := 1) (oi := _) (v := .agg #[.int .i64 3, .int .i64 1, .slice none 0 0]) rfl (by kernel_rfl) (by kernel_rfl) (by kernel_rfl) (fun _ _ _ h => h) (yields_load rfl 33 (.tmp 6) rfl (w.heap.size + 4) (by rfl) 33 #[.int .i64 3, .int .i64 1, .slice none 0 0] _ Tryz.underlying33 (by rfl) HSn.out (fun w h => h.2)) (by assumption) ?_
  try simp only [Act.put, List.getElem_toArray, List.getElem_cons_succ, List.getElem_cons_zero, List.setIfInBounds_toArray, List.set_cons_zero, List.set_cons_succ]
  refine wpAnyH_ready (rs := [2]) (by kernel_rfl) (by simp) ?_
  refine AllReadyH.cons (o := _) rfl (fun K hK => ?_) AllReadyH.nil
  refine step_store rfl 29 (.tmp 2) (.tmp 43) rfl w.heap.size (by rfl) zeroC.toArray (by rfl) 29 zeroC.toArray H0.out HSz.out rfl (by rfl) ?_
  intro w7 h5 h6 h7
  have K5 := Lib.hid h5
  have K6 := Lib.hid h6
  have J1 := Lib.hid (H1.out.chg h6 (by omega))
  have J3 := Lib.hid (H3.out.chg h6 (by omega))
  have J4 := Lib.hid (H4.out.chg h6 (by omega))
  clear h5 h6 h7
  refine hK.out _ _ ?_ (fun hHeld => ?_)
  · exact ⟨J3.out, J4.out⟩
  clear hK K
  try simp only [Act.put, List.getElem_toArray, List.getElem_cons_succ, List.getElem_cons_zero, List.setIfInBounds_toArray, List.set_cons_zero, List.set_cons_succ]
  refine wpAnyH_ready (rs := [3]) (by kernel_rfl) (by simp) ?_
  refine AllReadyH.cons (o := _) rfl (fun K hK => ?_) AllReadyH.nil
  refine step_store rfl 33 (.tmp 3) (.tmp 44) rfl (w.heap.size + 1) (by rfl) #[.int .i64 3, .int .i64 1, .slice none 0 0] (by rfl) 33 #[.int .i64 0, .int .i64 0, .slice none 0 0] J1.out HSn.out rfl (by rfl) ?_
  intro w8 h5 h6 h7
  have K7 := Lib.hid h5
  have K8 := Lib.hid (K5.out.chg h6 (by omega))
  have K9 := Lib.hid ((HBd.out.trans (K6.out.below (fun j e => by omega) HBd.out.size)).trans (h6.below (fun j e => by omega) (Nat.le_trans HBd.out.size K6.out.size)))
  have I3 := Lib.hid (J3.out.chg h6 (by omega))
  have I4 := Lib.hid (J4.out.chg h6 (by omega))
  clear h5 h6 h7
  refine hK.out _ _ ?_ (fun hHeld => ?_)
  · exact ⟨I3.out, I4.out⟩
  clear hK K
  try simp only [Act.put, List.getElem_toArray, List.getElem_cons_succ, List.getElem_cons_zero, List.setIfInBounds_toArray, List.set_cons_zero, List.set_cons_succ]
  refine wpAnyH_done (by kernel_rfl) ?_ _
  refine NoPanic.normal ?_
  go_wp2_with fail
  exact HQL.out _ _ _ _ _ _ _ _ _ _ _ _ _ _ _ _ _ _ _ _ _ _ _ _ _ _ _ _ _ _ _ _ _ _ _ _ _ _ _ _ _ _ _ _ _ _ _ _ _ _ _ _ _ _ _ _ _ _ _ _ _ _ _ _ _ _ _ _ _ _ _ _ _ _ _ _ _ _ _ _ _ _ _ _ _ _ _ _ _ _ _ _ _ _ _ _ _ _ _ _ _ _ _ _ _ _ _ _ _ _ _ _ _ _ _ _ _ _ _ _ _ _ _ _ _ _ _ _ K8.out K7.out K9.out
theorem att1_no {l : List UInt8} {p : Nat} {fb kb : UInt8} {t : List UInt8} (h : l.drop p = fb :: kb :: t) (hh : lenN fb.toNat ≤ t.length) (hn : (t.drop (lenN fb.toNat)).length < num (t.take (lenN fb.toNat))) : att1 (l.drop p) = none := by
  rw [h]
  dsimp only [att1]
  rw [if_neg fun h => by omega]
theorem att1_short {l : List UInt8} {p : Nat} {fb kb : UInt8} {t : List UInt8} (h : l.drop p = fb :: kb :: t) (hh : t.length < lenN fb.toNat) : att1 (l.drop p) = none := by
  rw [h]
  dsimp only [att1]
  rw [if_neg fun h => by omega]
theorem att1_yes {l : List UInt8} {p : Nat} {fb kb : UInt8} {t : List UInt8} (h : l.drop p = fb :: kb :: t) (hh : lenN fb.toNat ≤ t.length) (hn : num (t.take (lenN fb.toNat)) ≤ (t.drop (lenN fb.toNat)).length) :
    att1 (l.drop p) = some (⟨fb.toNat, kb.toNat, (l.drop (p + (lenN fb.toNat + 2))).take (num (t.take (lenN fb.toNat))), (l.drop p).take (lenN fb.toNat + 2 + num (t.take (lenN fb.toNat)))⟩, l.drop (p + (lenN fb.toNat + 2) + num (t.take (lenN fb.toNat)))) := by
  have ht : t = l.drop (p + 2) := by
    have : (l.drop p).drop 2 = l.drop (p + 2) := by rw [List.drop_drop]
    rw [← this, h]; rfl
  have e1 : l.drop (p + (lenN fb.toNat + 2)) = t.drop (lenN fb.toNat) := by rw [ht, List.drop_drop]; congr 1; omega
  have e2 : l.drop (p + (lenN fb.toNat + 2) + num (t.take (lenN fb.toNat))) = (t.drop (lenN fb.toNat)).drop (num (t.take (lenN fb.toNat))) := by rw [← e1, List.drop_drop]
  rw [e1, e2, h]
  generalize hnn : num (t.take (lenN fb.toNat)) = n at *
  dsimp only [att1]
  rw [hnn, if_pos ⟨hh, hn⟩]
  congr 3
  have : lenN fb.toNat + 2 + n = (lenN fb.toNat + n) + 1 + 1 := by omega
  rw [this, List.take_succ_cons, List.take_succ_cons, List.take_add]
set_option maxRecDepth 100000 in
set_option maxHeartbeats 8000000 in
theorem head2 {w wa : World} {seen : List Nat} {a : Atr} {p hd L bc b off : Nat} {l t : List UInt8} {fb kb : UInt8} (Q : Exit → Act → World → Prop) (hrd : RD w seen seen a wa) (hb : Bn wa (fun _ => True) (some ⟨b, off, none⟩) bc l) (hL : L = l.length) (hl : l.length ≤ 50000) (hq : l.drop p = fb :: kb :: t) (hhd : hd = lenN fb.toNat + 2) (hp : p + hd ≤ l.length) (u1 u10 u11 u12 u13 u14 u15 u16 u17 u18 u19 u20 u21 u22 u23 u24 u25 u26 u27 u28 u29 u30 u31 u32 u33 u34 u35 u36 u37 u38 u39 u40 u41 u42 u43 u44 u45 u46 u47 u48 u49 u50 u51 u52 u53 u54 u55 u56 u57 u58 u59 u60 u61 u62 u63 u64 u65 u66 u67 u68 u69 u70 u71 u72 u73 u74 u75 u76 u77 u78 u79 u80 u81 u82 u83 u84 u85 u86 u87 u88 u89 u90 u91 u92 u93 u94 u95 u96 u97 u98 u99 u100 u101 u102 u103 u104 u105 u106 u107 u108 u109 u110 u111 u112 u113 u114 u115 u116 u117 u118 u119 u120 u121 u122 u123 u124 u125 u126 u127 u128 u129 u130 u131 u132 u133 u134 u135 u136 u137 u138 u139 u140 u141 u142 u143 u144 u145 u146 u147 u148 u149 u150 u151 u152 u153 u154 u155 u156 u157 u158 : Value)
    (hL_ : (att1 (l.drop p) = none ∨ ∃ x q, att1 (l.drop p) = some (x, q) ∧ x.k ∈ seen) → ∀ (v8 v10 v11 v12 v13 v14 v15 v16 v37 v38 v39 v40 v41 v42 v43 v44 v45 v46 v47 v48 v49 v50 v51 v52 v53 v54 v55 v56 v57 v58 v59 v60 v61 v62 v63 v64 v65 v66 v67 v68 v69 v70 v71 v72 v73 v74 v75 v76 v77 v78 v79 v80 v81 v82 v83 v84 v85 v86 v87 v88 v89 v90 v91 v92 v93 v94 v95 v96 v97 v98 v99 v100 v101 v102 v103 v104 v105 v106 v107 v108 v109 v110 v111 v112 v113 v114 v115 v116 v117 v118 v119 v120 v121 v122 v123 v124 v125 v126 v127 v128 v129 v130 v131 v132 v133 v134 v135 v136 v137 v138 v139 v140 v141 v142 v143 v144 v145 v146 v147 v148 v149 v150 v151 v152 v153 v154 v155 : Value) (w' : World), Bk w' w.heap.size 29 zeroC.toArray → Bk w' (w.heap.size + 1) 33 #[.int .i64 3, .int .i64 1, .slice none 0 0] → Below w.heap.size w w' → Q .ret { tmps := #[.slice (some ⟨b, off, none⟩) L bc, u1, .pointer (some ⟨w.heap.size, 0, none⟩), .pointer (some ⟨w.heap.size + 1, 0, none⟩), .pointer (some ⟨w.heap.size + 2, 0, none⟩), .pointer (some ⟨w.heap.size + 3, 0, none⟩), .pointer (some ⟨w.heap.size + 4, 0, none⟩), .pointer (some ⟨w.heap.size + 5, 0, none⟩), v8, .int .i64 (hd : Int), v10, v11, v12, v13, v14, v15, v16, u17, u18, u19, u20, u21, u22, u23, u24, u25, u26, u27, u28, u29, u30, u31, u32, u33, u34, u35, u36, v37, v38, v39, v40, v41, v42, v43, v44, v45, v46, v47, v48, v49, v50, v51, v52, v53, v54, v55, v56, v57, v58, v59, v60, v61, v62, v63, v64, v65, v66, v67, v68, v69, v70, v71, v72, v73, v74, v75, v76, v77, v78, v79, v80, v81, v82, v83, v84, v85, v86, v87, v88, v89, v90, v91, v92, v93, v94, v95, v96, v97, v98, v99, v100, v101, v102, v103, v104, v105, v106, v107, v108, v109, v110, v111, v112, v113, v114, v115, v116, v117, v118, v119, v120, v121, v122, v123, v124, v125, v126, v127, v128, v129, v130, v131, v132, v133, v134, v135, v136, v137, v138, v139, v140, v141, v142, v143, v144, v145, v146, v147, v148, v149, v150, v151, v152, v153, v154, v155, u156, u157, u158], defers := [] } w')
    (hQ : ∀ x q, att1 (l.drop p) = some (x, q) → x.k ∉ seen → (wrongS a x.f x.k x.v).2 = 0 → ∀ (v10 v11 v12 v13 v14 v15 v16 v37 v38 v39 v40 v41 v42 v43 v44 v45 v46 v47 v48 v49 v50 v51 v52 v53 v54 v55 v56 v57 v58 v59 v60 v61 v62 v63 v64 v65 v66 v67 v68 v69 v70 v71 v72 v73 v74 v75 v76 v77 v78 v79 v80 v81 v82 v83 v84 v85 v86 v87 v88 v89 v90 v91 v92 v93 v94 v95 v96 v97 v98 v99 v100 v101 v102 v103 v104 v105 v106 v107 v108 v109 v110 v111 v112 v113 v114 v115 v116 v117 v118 v119 v120 v121 v122 v123 v124 v125 v126 v127 v128 v129 v130 v131 v132 v133 v134 v135 v136 v137 v138 v139 v140 v141 v142 v143 v144 v145 v146 v147 v148 v149 v150 v151 v152 v153 v154 v155 : Value) (p' : Nat) (w' : World), l.drop p' = q → p' ≤ l.length → p < p' → x.v.length ≤ 50000 → RD w (x.k :: seen) (x.k :: seen) (wrongS a x.f x.k x.v).1 w' → Q .normal { tmps := #[.slice (some ⟨b, off, none⟩) L bc, u1, .pointer (some ⟨w.heap.size, 0, none⟩), .pointer (some ⟨w.heap.size + 1, 0, none⟩), .pointer (some ⟨w.heap.size + 2, 0, none⟩), .pointer (some ⟨w.heap.size + 3, 0, none⟩), .pointer (some ⟨w.heap.size + 4, 0, none⟩), .pointer (some ⟨w.heap.size + 5, 0, none⟩), .int .i64 (p' : Int), .int .i64 (hd : Int), v10, v11, v12, v13, v14, v15, v16, u17, u18, u19, u20, u21, u22, u23, u24, u25, u26, u27, u28, u29, u30, u31, u32, u33, u34, u35, u36, v37, v38, v39, v40, v41, v42, v43, v44, v45, v46, v47, v48, v49, v50, v51, v52, v53, v54, v55, v56, v57, v58, v59, v60, v61, v62, v63, v64, v65, v66, v67, v68, v69, v70, v71, v72, v73, v74, v75, v76, v77, v78, v79, v80, v81, v82, v83, v84, v85, v86, v87, v88, v89, v90, v91, v92, v93, v94, v95, v96, v97, v98, v99, v100, v101, v102, v103, v104, v105, v106, v107, v108, v109, v110, v111, v112, v113, v114, v115, v116, v117, v118, v119, v120, v121, v122, v123, v124, v125, v126, v127, v128, v129, v130, v131, v132, v133, v134, v135, v136, v137, v138, v139, v140, v141, v142, v143, v144, v145, v146, v147, v148, v149, v150, v151, v152, v153, v154, v155, u156, u157, u158], defers := [] } w')
    (hR : ∀ x q, att1 (l.drop p) = some (x, q) → x.k ∉ seen → (wrongS a x.f x.k x.v).2 ≠ 0 → ∀ (v8 v10 v11 v12 v13 v14 v15 v16 v37 v38 v39 v40 v41 v42 v43 v44 v45 v46 v47 v48 v49 v50 v51 v52 v53 v54 v55 v56 v57 v58 v59 v60 v61 v62 v63 v64 v65 v66 v67 v68 v69 v70 v71 v72 v73 v74 v75 v76 v77 v78 v79 v80 v81 v82 v83 v84 v85 v86 v87 v88 v89 v90 v91 v92 v93 v94 v95 v96 v97 v98 v99 v100 v101 v102 v103 v104 v105 v106 v107 v108 v109 v110 v111 v112 v113 v114 v115 v116 v117 v118 v119 v120 v121 v122 v123 v124 v125 v126 v127 v128 v129 v130 v131 v132 v133 v134 v135 v136 v137 v138 v139 v140 v141 v142 v143 v144 v145 v146 v147 v148 v149 v150 v151 v152 v153 v154 v155 : Value) (aA : Option Addr) (ac : Nat) (w' : World), Bk w' w.heap.size 29 zeroC.toArray → Bk w' (w.heap.size + 1) 33 (ntc (wrongS a x.f x.k x.v).2 aA x.all.length ac) → Below w.heap.size w w' → (∀ w2 G, Bn w2 G (some ⟨b, off, none⟩) bc l → Bn w2 G aA ac x.all) → Q .ret { tmps := #[.slice (some ⟨b, off, none⟩) L bc, u1, .pointer (some ⟨w.heap.size, 0, none⟩), .pointer (some ⟨w.heap.size + 1, 0, none⟩), .pointer (some ⟨w.heap.size + 2, 0, none⟩), .pointer (some ⟨w.heap.size + 3, 0, none⟩), .pointer (some ⟨w.heap.size + 4, 0, none⟩), .pointer (some ⟨w.heap.size + 5, 0, none⟩), v8, .int .i64 (hd : Int), v10, v11, v12, v13, v14, v15, v16, u17, u18, u19, u20, u21, u22, u23, u24, u25, u26, u27, u28, u29, u30, u31, u32, u33, u34, u35, u36, v37, v38, v39, v40, v41, v42, v43, v44, v45, v46, v47, v48, v49, v50, v51, v52, v53, v54, v55, v56, v57, v58, v59, v60, v61, v62, v63, v64, v65, v66, v67, v68, v69, v70, v71, v72, v73, v74, v75, v76, v77, v78, v79, v80, v81, v82, v83, v84, v85, v86, v87, v88, v89, v90, v91, v92, v93, v94, v95, v96, v97, v98, v99, v100, v101, v102, v103, v104, v105, v106, v107, v108, v109, v110, v111, v112, v113, v114, v115, v116, v117, v118, v119, v120, v121, v122, v123, v124, v125, v126, v127, v128, v129, v130, v131, v132, v133, v134, v135, v136, v137, v138, v139, v140, v141, v142, v143, v144, v145, v146, v147, v148, v149, v150, v151, v152, v153, v154, v155, u156, u157, u158], defers := [] } w') :
    Code.wp Tryz.prog (right (right (inner (right (inner (inner (right (left (right (right (right (right (bodyOf Tryz.f31))))))))))))) Q { tmps := #[.slice (some ⟨b, off, none⟩) L bc, u1, .pointer (some ⟨w.heap.size, 0, none⟩), .pointer (some ⟨w.heap.size + 1, 0, none⟩), .pointer (some ⟨w.heap.size + 2, 0, none⟩), .pointer (some ⟨w.heap.size + 3, 0, none⟩), .pointer (some ⟨w.heap.size + 4, 0, none⟩), .pointer (some ⟨w.heap.size + 5, 0, none⟩), .int .i64 (p : Int), .int .i64 (hd : Int), u10, u11, u12, u13, u14, u15, u16, u17, u18, u19, u20, u21, u22, u23, u24, u25, u26, u27, u28, u29, u30, u31, u32, u33, u34, u35, u36, u37, u38, u39, u40, u41, u42, u43, u44, u45, u46, u47, u48, u49, u50, u51, u52, u53, u54, u55, u56, u57, u58, u59, u60, u61, u62, u63, u64, u65, u66, u67, u68, u69, u70, u71, u72, u73, u74, u75, u76, u77, u78, u79, u80, u81, u82, u83, u84, u85, u86, u87, u88, u89, u90, u91, u92, u93, u94, u95, u96, u97, u98, u99, u100, u101, u102, u103, u104, u105, u106, u107, u108, u109, u110, u111, u112, u113, u114, u115, u116, u117, u118, u119, u120, u121, u122, u123, u124, u125, u126, u127, u128, u129, u130, u131, u132, u133, u134, u135, u136, u137, u138, u139, u140, u141, u142, u143, u144, u145, u146, u147, u148, u149, u150, u151, u152, u153, u154, u155, u156, u157, u158], defers := [] } wa := by
  have HQL := Lib.hid hL_
  have HQ := Lib.hid hQ
  have HR := Lib.hid hR
  have HRD := Lib.hid hrd
  have HSz : Hid ((Tryz.prog.info? 29).map (·.size) = some 9) := info_atr
  have HSn : Hid ((Tryz.prog.info? 33).map (·.size) = some 3) := info_ntc
  have hln := lenN_le fb.toNat
  have htl : t.length + 2 = l.length - p := by
    have := congrArg List.length hq
    simp at this
    omega
  obtain ⟨f, hf⟩ : ∃ f, f = fb.toNat := ⟨_, rfl⟩
  obtain ⟨k, hk⟩ : ∃ k, k = kb.toNat := ⟨_, rfl⟩
  have hf255 : f ≤ 255 := by have := fb.toNat_lt; omega
  have hk255 : k ≤ 255 := by have := kb.toNat_lt; omega
  have e0 : l[p]? = some fb := by
    have : (l.drop p)[0]? = l[p]? := by rw [List.getElem?_drop]; simp
    rw [← this, hq]; rfl
  have e1 : l[p + 1]? = some kb := by
    have : (l.drop p)[1]? = l[p + 1]? := by rw [List.getElem?_drop]
    rw [← this, hq]; rfl
  obtain ⟨y0, hbl⟩ := bn_cell hb e0
  have y1 := (bn_cell hb e1).1
  rw [← hf] at y0
  rw [← hk] at y1
  have ht : t = l.drop (p + 2) := by
    have : (l.drop p).drop 2 = l.drop (p + 2) := by rw [List.drop_drop]
    rw [← this, hq]; rfl
  obtain ⟨n, hn⟩ : ∃ n, n = num (t.take (lenN f)) := ⟨_, rfl⟩
  rw [← hf] at hhd hln
  have hn16 : n ≤ 65535 := by
    have h1 := num_lt (t.take (lenN f))
    have : 256 ^ (t.take (lenN f)).length ≤ 256 ^ 2 := Nat.pow_le_pow_right (by omega) (by rw [List.length_take]; omega)
    omega
  have HNo : Hid (L < p + hd + n → att1 (l.drop p) = none) := fun h => att1_no hq (by rw [← hf]; omega) (by rw [← hf, ← hn, List.length_drop]; omega)
  have HYe : Hid (p + hd + n ≤ L → att1 (l.drop p) = some (⟨f, k, (l.drop (p + hd)).take n, (l.drop p).take (hd + n)⟩, l.drop (p + hd + n))) := fun h => by
    have := att1_yes hq (by rw [← hf]; omega) (by rw [← hf, ← hn, List.length_drop]; omega)
    rw [← hf, ← hk, ← hn, ← hhd] at this
    exact this
  obtain ⟨sA, sc, hsl, hs⟩ := cut_bn (lo := p + 2) (n := hd - 2) (l := L) (c := bc) ⟨b, off, none⟩ (by have := hb.cap; omega) hb.max (by omega)
  have hsl2 : ∀ w', (Instr.slice 22 (.slice (some ⟨b, off, none⟩) L bc) (some (.int .i64 ((p : Int) + 2))) (some (.int .i64 ((p : Int) + (hd : Int)))) none).run Tryz.prog w' = .ok (.slice sA (hd - 2) sc) w' := fun w' => by
    have := hsl w'
    rw [show ((p + 2 : Nat) : Int) = (p : Int) + 2 by omega, show (p : Int) + 2 + ((hd - 2 : Nat) : Int) = (p : Int) + (hd : Int) by omega] at this
    exact this
  have HNm : Hid (∀ w', Below wa.heap.size wa w' → Calls Tryz.prog 29 #[.slice sA (hd - 2) sc] w' fun e w2 => e = .returned (.int .u32 (n : Int)) ∧ w' = w2) := fun w' hbw => by
    have h1 := hs w' _ l hL.symm (hb.bel hbw)
    have h2 : (l.drop (p + 2)).take (hd - 2) = t.take (lenN f) := by rw [← ht, hhd, Nat.add_sub_cancel]
    rw [h2] at h1
    have h3 := Num_any sA sc _ (t.take (lenN f)) w' (by rw [List.length_take]; omega) h1.bs
    rw [← hn, show (t.take (lenN f)).length = hd - 2 by rw [List.length_take]; omega] at h3
    exact h3
  have HBn := Lib.hid hb
  have HLl := Lib.hid hL
  have hLl : L ≤ 50000 := by omega
  have hpL : p + hd ≤ L := by omega
  have hcapL : L ≤ bc := by have := hb.cap; omega
  have d1 : decide ((L : Int) < (p : Int) + (hd : Int)) = false := by rw [decide_eq_false_iff_not]; omega
  have i1 : (p : Int) + 1 < (L : Int) := by omega
  have i0 : (p : Int) < (L : Int) := by omega
  have wr1 : IntKind.i64.wrap ((p : Int) + 1) = (p : Int) + 1 := by rw [IntKind.wrap_i64]; omega
  have wr2 : IntKind.i64.wrap (f : Int) = (f : Int) := by rw [IntKind.wrap_i64]; omega
  have wr3 : IntKind.i64.wrap (k : Int) = (k : Int) := by rw [IntKind.wrap_i64]; omega
  have i2 : (0 : Int) ≤ (p : Int) + 1 := by omega
  have hd3 : 3 ≤ hd := by omega
  generalize hm2 : hd - 2 = m2 at *
  clear hL_ hQ hR hrd hb e0 e1 hbl hsl hs ht hn hf hk hq htl hhd hln hm2 hL hl hp
  refine wp_seq_k (x := left (right (right (inner (right (inner (inner (right (left (right (right (right (right (bodyOf Tryz.f31)))))))))))))) (y := right (right (right (inner (right (inner (inner (right (left (right (right (right (right (bodyOf Tryz.f31)))))))))))))) fun K hK => ?_
  have HK := Lib.hid hK
  clear hK
  simp only [left, right, inner, yes, no, bodyOf, Tryz.f31]
  go_wp2_with fail
  refine HK.out _ _ ?_
  clear HK
  refine wp_seq_k (x := left (right (right (right (inner (right (inner (inner (right (left (right (right (right (right (bodyOf Tryz.f31))))))))))))))) (y := right (right (right (right (inner (right (inner (inner (right (left (right (right (right (right (bodyOf Tryz.f31))))))))))))))) fun K hK => ?_
  have HK := Lib.hid hK
  clear hK
  simp only [left, right, inner, yes, no, bodyOf, Tryz.f31]
  refine wp_region_noPanic ?_
  refine wp_region_held_drew (S := fun w' => w'.cell? ⟨b, off + p, none⟩ = some (.int .u8 (f : Int)) ∧ w'.cell? ⟨b, off + (p + 1), none⟩ = some (.int .u8 (k : Int))) (by kernel_rfl) ?_ (fun hHeld => ?_)
  · exact ⟨y0, y1⟩
  refine wpAnyH_take (i := 0) (oi := _) (v := ?_) rfl (by kernel_rfl) (by kernel_rfl) (by kernel_rfl) (fun _ _ _ h => h) (Or.inl ⟨by rfl, ?_⟩) (by assumption) ?_
  rotate_left
  · (intro w hSw; (try dsimp only at hSw); go_simp <;> with_reducible rfl)
  try simp only [Act.put, List.getElem_toArray, List.getElem_cons_succ, List.getElem_cons_zero, List.setIfInBounds_toArray, List.set_cons_zero, List.set_cons_succ]
  refine wpAnyH_take (i := 1) (oi := _) (v := ?_) rfl (by kernel_rfl) (by kernel_rfl) (by kernel_rfl) (fun _ _ _ h => h) (Or.inl ⟨by rfl, ?_⟩) (by assumption) ?_
  rotate_left
  · (intro w hSw; (try dsimp only at hSw); go_simp <;> with_reducible rfl)
  try simp only [Act.put, List.getElem_toArray, List.getElem_cons_succ, List.getElem_cons_zero, List.setIfInBounds_toArray, List.set_cons_zero, List.set_cons_succ]
  refine wpAnyH_take (i := 2) (oi := _) (v := ?_) rfl (by kernel_rfl) (by kernel_rfl) (by kernel_rfl) (fun _ _ _ h => h) (Or.inl ⟨by rfl, ?_⟩) (by assumption) ?_
  rotate_left
  · (intro w hSw; (try dsimp only at hSw); go_simp <;> with_reducible rfl)
  try simp only [Act.put, List.getElem_toArray, List.getElem_cons_succ, List.getElem_cons_zero, List.setIfInBounds_toArray, List.set_cons_zero, List.set_cons_succ]
  refine wpAnyH_take (i := 3) (oi := _) (v := ?_) rfl (by kernel_rfl) (by kernel_rfl) (by kernel_rfl) (fun _ _ _ h => h) (Or.inl ⟨by rfl, ?_⟩) (by assumption) ?_
  rotate_left
  · (intro w hSw; (try dsimp only at hSw); go_simp <;> with_reducible rfl)
  try simp only [Act.put, List.getElem_toArray, List.getElem_cons_succ, List.getElem_cons_zero, List.setIfInBounds_toArray, List.set_cons_zero, List.set_cons_succ]
  refine wpAnyH_take (i := 4) (oi := _) (v := ?_) rfl (by kernel_rfl) (by kernel_rfl) (by kernel_rfl) (fun _ _ _ h => h) (Or.inl ⟨by rfl, ?_⟩) (by assumption) ?_
  rotate_left
  · (intro w hSw; (try dsimp only at hSw); go_simp <;> with_reducible rfl)
  try simp only [Act.put, List.getElem_toArray, List.getElem_cons_succ, List.getElem_cons_zero, List.setIfInBounds_toArray, List.set_cons_zero, List.set_cons_succ]
  refine wpAnyH_take (i := 5) (oi := _) (v := ?_) rfl (by kernel_rfl) (by kernel_rfl) (by kernel_rfl) (fun _ _ _ h => h) (Or.inl ⟨by rfl, ?_⟩) (by assumption) ?_
  rotate_left
  · (intro w hSw; (try dsimp only at hSw); go_simp <;> with_reducible rfl)
  try simp only [Act.put, List.getElem_toArray, List.getElem_cons_succ, List.getElem_cons_zero, List.setIfInBounds_toArray, List.set_cons_zero, List.set_cons_succ]
  refine wpAnyH_take (i := 6) (oi := _) (v := ?_) rfl (by kernel_rfl) (by kernel_rfl) (by kernel_rfl) (fun _ _ _ h => h) (Or.inl ⟨by rfl, ?_⟩) (by assumption) ?_
  rotate_left
  · (intro w hSw; (try dsimp only at hSw); go_simp <;> with_reducible rfl)
  try simp only [Act.put, List.getElem_toArray, List.getElem_cons_succ, List.getElem_cons_zero, List.setIfInBounds_toArray, List.set_cons_zero, List.set_cons_succ]
  refine wpAnyH_take (i := 7) (oi := _) (v := ?_) rfl (by kernel_rfl) (by kernel_rfl) (by kernel_rfl) (fun _ _ _ h => h) (Or.inl ⟨by rfl, ?_⟩) (by assumption) ?_
  rotate_left
  · (intro w hSw; (try dsimp only at hSw); go_simp <;> with_reducible rfl)
  try simp only [Act.put, List.getElem_toArray, List.getElem_cons_succ, List.getElem_cons_zero, List.setIfInBounds_toArray, List.set_cons_zero, List.set_cons_succ]
  refine wpAnyH_take (i := 8) (oi := _) (v := ?_) rfl (by kernel_rfl) (by kernel_rfl) (by kernel_rfl) (fun _ _ _ h => h) (Or.inl ⟨by rfl, ?_⟩) (by assumption) ?_
  rotate_left
  · (intro w hSw; (try dsimp only at hSw); go_simp <;> with_reducible rfl)
  try simp only [Act.put, List.getElem_toArray, List.getElem_cons_succ, List.getElem_cons_zero, List.setIfInBounds_toArray, List.set_cons_zero, List.set_cons_succ]
  refine wpAnyH_take (i := 9) (oi := _) (v := ?_) rfl (by kernel_rfl) (by kernel_rfl) (by kernel_rfl) (fun _ _ _ h => h) (Or.inl ⟨by rfl, ?_⟩) (by assumption) ?_
  rotate_left
  · (intro w hSw; (try dsimp only at hSw); go_simp <;> with_reducible rfl)
  try simp only [Act.put, List.getElem_toArray, List.getElem_cons_succ, List.getElem_cons_zero, List.setIfInBounds_toArray, List.set_cons_zero, List.set_cons_succ]
  refine wpAnyH_take (i := 10) (oi := _) (v := ?_) rfl (by kernel_rfl) (by kernel_rfl) (by kernel_rfl) (fun _ _ _ h => h) (Or.inl ⟨by rfl, ?_⟩) (by assumption) ?_
  rotate_left
  · (intro w hSw; (try dsimp only at hSw); go_simp <;> with_reducible rfl)
  try simp only [Act.put, List.getElem_toArray, List.getElem_cons_succ, List.getElem_cons_zero, List.setIfInBounds_toArray, List.set_cons_zero, List.set_cons_succ]
  refine wpAnyH_take (i := 11) (oi := _) (v := ?_) rfl (by kernel_rfl) (by kernel_rfl) (by kernel_rfl) (fun _ _ _ h => h) (Or.inl ⟨by rfl, ?_⟩) (by assumption) ?_
  rotate_left
  · (intro w hSw; (try dsimp only at hSw); go_simp <;> with_reducible rfl)
  try simp only [Act.put, List.getElem_toArray, List.getElem_cons_succ, List.getElem_cons_zero, List.setIfInBounds_toArray, List.set_cons_zero, List.set_cons_succ]
  refine wpAnyH_take (i := 12) (oi := _) (v := ?_) rfl (by kernel_rfl) (by kernel_rfl) (by kernel_rfl) (fun _ _ _ h => h) (Or.inl ⟨by rfl, ?_⟩) (by assumption) ?_
  rotate_left
  · (intro w hSw; (try dsimp only at hSw); go_simp <;> with_reducible rfl)
  try simp only [Act.put, List.getElem_toArray, List.getElem_cons_succ, List.getElem_cons_zero, List.setIfInBounds_toArray, List.set_cons_zero, List.set_cons_succ]
  refine wpAnyH_done (by kernel_rfl) ?_ _
  refine NoPanic.normal ?_
  have HRD := Lib.hid (HRD.out.go (Below.refl _ _).drew)
  have HBn := Lib.hid (HBn.out.bel (Below.refl _ _).drew)
  have HNx := Lib.hid (HNm.out wa.drew (Below.refl _ _).drew)
  clear y0 y1 HNm
  go_wp2_with fail
  refine HK.out _ _ ?_
  clear HK
  generalize wa.drew = wb at *
  refine wp_seq_k (x := left (right (right (right (right (inner (right (inner (inner (right (left (right (right (right (right (bodyOf Tryz.f31)))))))))))))))) (y := right (right (right (right (right (inner (right (inner (inner (right (left (right (right (right (right (bodyOf Tryz.f31)))))))))))))))) fun K hK => ?_
  have HK := Lib.hid hK
  clear hK
  simp only [left, right, inner, yes, no, bodyOf, Tryz.f31]
  go_wp2_with (go_at_call 29; refine HNx.out.mono ?_; rintro e w' ⟨rfl, rfl⟩)
  refine HK.out _ _ ?_
  clear HK
  refine wp_seq_k (x := left (right (right (right (right (right (inner (right (inner (inner (right (left (right (right (right (right (bodyOf Tryz.f31))))))))))))))))) (y := right (right (right (right (right (right (inner (right (inner (inner (right (left (right (right (right (right (bodyOf Tryz.f31))))))))))))))))) fun K hK => ?_
  have HK := Lib.hid hK
  clear hK
  have HSeen : Hid (wb.cell? ⟨w.heap.size + 5, k, none⟩ = some (.bool (decide (k ∈ seen)))) := by
    obtain ⟨cs, s1, s2, s3⟩ := HRD.out.sn
    exact (s1.cell k).trans (s3 k (by omega))
  by_cases hlong : L < p + hd + n
  · have HA := Lib.hid (HNo.out hlong)
    have d2 : decide ((L : Int) < (p : Int) + (hd : Int) + (n : Int)) = true := by rw [decide_eq_true_iff]; omega
    have HQl := Lib.hid (HQL.out (.inl HA.out))
    clear HQ HR HYe HNo HQL HSeen
    simp only [left, right, inner, yes, no, bodyOf, Tryz.f31]
    go_upto_region 14 with fail
    have H0 := Lib.hid (HRD.out.go (Below.refl _ _).drew).z0
    have H1 := Lib.hid (HRD.out.go (Below.refl _ _).drew).z1
    have H3 := Lib.hid (HRD.out.go (Below.refl _ _).drew).z3
    have H4 := Lib.hid (HRD.out.go (Below.refl _ _).drew).z4
    have HBd := Lib.hid (HRD.out.go (Below.refl _ _).drew).bel
    refine wp_region_noPanic ?_
    refine wp_region_held_drew (S := fun w' => Bk w' (w.heap.size + 3) 29 zeroC.toArray ∧ Bk w' (w.heap.size + 4) 33 #[.int .i64 3, .int .i64 1, .slice none 0 0]) (by kernel_rfl) ?_ (fun hHeld => ?_)
    · exact ⟨H3.out, H4.out⟩
    refine wpAnyH_take (i := 0) (oi := _) (v := .agg zeroC.toArray) rfl (by kernel_rfl) (by kernel_rfl) (by kernel_rfl) (fun _ _ _ h => h) (yields_load rfl 29 (.tmp 5) rfl (w.heap.size + 3) (by rfl) 29 zeroC.toArray _ Tryz.underlying29 (by rfl) HSz.out (fun w h => h.1)) (by assumption) ?_
    try simp only [Act.put, List.getElem_toArray, List.getElem_cons_succ, List.getElem_cons_zero, List.setIfInBounds_toArray, List.set_cons_zero, List.set_cons_succ]
    refine wpAnyH_take (i := 1) (oi := _) (v := .agg #[.int .i64 3, .int .i64 1, .slice none 0 0]) rfl (by kernel_rfl) (by kernel_rfl) (by kernel_rfl) (fun _ _ _ h => h) (yields_load rfl 33 (.tmp 6) rfl (w.heap.size + 4) (by rfl) 33 #[.int .i64 3, .int .i64 1, .slice none 0 0] _ Tryz.underlying33 (by rfl) HSn.out (fun w h => h.2)) (by assumption) ?_
    try simp only [Act.put, List.getElem_toArray, List.getElem_cons_succ, List.getElem_cons_zero, List.setIfInBounds_toArray, List.set_cons_zero, List.set_cons_succ]
    refine wpAnyH_ready (rs := [2]) (by kernel_rfl) (by simp) ?_
    refine AllReadyH.cons (o := _) rfl (fun K hK => ?_) AllReadyH.nil
    refine step_store rfl 29 (.tmp 2) (.tmp 78) rfl w.heap.size (by rfl) zeroC.toArray (by rfl) 29 zeroC.toArray H0.out HSz.out rfl (by rfl) ?_
    intro w7 h5 h6 h7
    have K5 := Lib.hid h5
    have K6 := Lib.hid h6
    have J1 := Lib.hid (H1.out.chg h6 (by omega))
    have J3 := Lib.hid (H3.out.chg h6 (by omega))
    have J4 := Lib.hid (H4.out.chg h6 (by omega))
    clear h5 h6 h7
    refine hK.out _ _ ?_ (fun hHeld => ?_)
    · exact ⟨J3.out, J4.out⟩
    clear hK K
    try simp only [Act.put, List.getElem_toArray, List.getElem_cons_succ, List.getElem_cons_zero, List.setIfInBounds_toArray, List.set_cons_zero, List.set_cons_succ]
    refine wpAnyH_ready (rs := [3]) (by kernel_rfl) (by simp) ?_
    refine AllReadyH.cons (o := _) rfl (fun K hK => ?_) AllReadyH.nil
    refine step_store rfl 33 (.tmp 3) (.tmp 79) rfl (w.heap.size + 1) (by rfl) #[.int .i64 3, .int .i64 1, .slice none 0 0] (by rfl) 33 #[.int .i64 0, .int .i64 0, .slice none 0 0] J1.out HSn.out rfl (by rfl) ?_
    intro w8 h5 h6 h7
    have K7 := Lib.hid h5
    have K8 := Lib.hid (K5.out.chg h6 (by omega))
    have K9 := Lib.hid ((HBd.out.trans (K6.out.below (fun j e => by omega) HBd.out.size)).trans (h6.below (fun j e => by omega) (Nat.le_trans HBd.out.size K6.out.size)))
    have I3 := Lib.hid (J3.out.chg h6 (by omega))
    have I4 := Lib.hid (J4.out.chg h6 (by omega))
    clear h5 h6 h7
    refine hK.out _ _ ?_ (fun hHeld => ?_)
    · exact ⟨I3.out, I4.out⟩
    clear hK K
    try simp only [Act.put, List.getElem_toArray, List.getElem_cons_succ, List.getElem_cons_zero, List.setIfInBounds_toArray, List.set_cons_zero, List.set_cons_succ]
    refine wpAnyH_done (by kernel_rfl) ?_ _
    refine NoPanic.normal ?_
    go_wp2_with fail
    exact HQl.out _ _ _ _ _ _ _ _ _ _ _ _ _ _ _ _ _ _ _ _ _ _ _ _ _ _ _ _ _ _ _ _ _ _ _ _ _ _ _ _ _ _ _ _ _ _ _ _ _ _ _ _ _ _ _ _ _ _ _ _ _ _ _ _ _ _ _ _ _ _ _ _ _ _ _ _ _ _ _ _ _ _ _ _ _ _ _ _ _ _ _ _ _ _ _ _ _ _ _ _ _ _ _ _ _ _ _ _ _ _ _ _ _ _ _ _ _ _ _ _ _ _ _ _ _ _ _ _ K8.out K7.out K9.out
  · have HA := Lib.hid (HYe.out (by omega))
    have d2 : decide ((L : Int) < (p : Int) + (hd : Int) + (n : Int)) = false := by rw [decide_eq_false_iff_not]; omega
    have q0 := HSeen.out
    have hk256 : (k : Int) < 256 := by omega
    clear HNo HYe
    by_cases hks : k ∈ seen
    · have HQl := Lib.hid (HQL.out (.inr ⟨_, _, HA.out, hks⟩))
      rw [decide_eq_true hks] at q0
      clear HQ HR HQL HSeen hks
      simp only [left, right, inner, yes, no, bodyOf, Tryz.f31]
      go_upto_region 14 with fail
      have H0 := Lib.hid (HRD.out.go (Below.refl _ _).drew).z0
      have H1 := Lib.hid (HRD.out.go (Below.refl _ _).drew).z1
      have H3 := Lib.hid (HRD.out.go (Below.refl _ _).drew).z3
      have H4 := Lib.hid (HRD.out.go (Below.refl _ _).drew).z4
      have HBd := Lib.hid (HRD.out.go (Below.refl _ _).drew).bel
      refine wp_region_noPanic ?_
      refine wp_region_held_drew (S := fun w' => Bk w' (w.heap.size + 3) 29 zeroC.toArray ∧ Bk w' (w.heap.size + 4) 33 #[.int .i64 3, .int .i64 1, .slice none 0 0]) (by kernel_rfl) ?_ (fun hHeld => ?_)
      · exact ⟨H3.out, H4.out⟩
      refine wpAnyH_take (i := 0) (oi := _) (v := .agg zeroC.toArray) rfl (by kernel_rfl) (by kernel_rfl) (by kernel_rfl) (fun _ _ _ h => h) (yields_load rfl 29 (.tmp 5) rfl (w.heap.size + 3) (by rfl) 29 zeroC.toArray _ Tryz.underlying29 (by rfl) HSz.out (fun w h => h.1)) (by assumption) ?_
      try simp only [Act.put, List.getElem_toArray, List.getElem_cons_succ, List.getElem_cons_zero, List.setIfInBounds_toArray, List.set_cons_zero, List.set_cons_succ]
      refine wpAnyH_take (i := 1) (oi := _) (v := .agg #[.int .i64 3, .int .i64 1, .slice none 0 0]) rfl (by kernel_rfl) (by kernel_rfl) (by kernel_rfl) (fun _ _ _ h => h) (yields_load rfl 33 (.tmp 6) rfl (w.heap.size + 4) (by rfl) 33 #[.int .i64 3, .int .i64 1, .slice none 0 0] _ Tryz.underlying33 (by rfl) HSn.out (fun w h => h.2)) (by assumption) ?_
      try simp only [Act.put, List.getElem_toArray, List.getElem_cons_succ, List.getElem_cons_zero, List.setIfInBounds_toArray, List.set_cons_zero, List.set_cons_succ]
      refine wpAnyH_ready (rs := [2]) (by kernel_rfl) (by simp) ?_
      refine AllReadyH.cons (o := _) rfl (fun K hK => ?_) AllReadyH.nil
      refine step_store rfl 29 (.tmp 2) (.tmp 78) rfl w.heap.size (by rfl) zeroC.toArray (by rfl) 29 zeroC.toArray H0.out HSz.out rfl (by rfl) ?_
      intro w7 h5 h6 h7
      have K5 := Lib.hid h5
      have K6 := Lib.hid h6
      have J1 := Lib.hid (H1.out.chg h6 (by omega))
      have J3 := Lib.hid (H3.out.chg h6 (by omega))
      have J4 := Lib.hid (H4.out.chg h6 (by omega))
      clear h5 h6 h7
      refine hK.out _ _ ?_ (fun hHeld => ?_)
      · exact ⟨J3.out, J4.out⟩
      clear hK K
      try simp only [Act.put, List.getElem_toArray, List.getElem_cons_succ, List.getElem_cons_zero, List.setIfInBounds_toArray, List.set_cons_zero, List.set_cons_succ]
      refine wpAnyH_ready (rs := [3]) (by kernel_rfl) (by simp) ?_
      refine AllReadyH.cons (o := _) rfl (fun K hK => ?_) AllReadyH.nil
      refine step_store rfl 33 (.tmp 3) (.tmp 79) rfl (w.heap.size + 1) (by rfl) #[.int .i64 3, .int .i64 1, .slice none 0 0] (by rfl) 33 #[.int .i64 0, .int .i64 0, .slice none 0 0] J1.out HSn.out rfl (by rfl) ?_
      intro w8 h5 h6 h7
      have K7 := Lib.hid h5
      have K8 := Lib.hid (K5.out.chg h6 (by omega))
      have K9 := Lib.hid ((HBd.out.trans (K6.out.below (fun j e => by omega) HBd.out.size)).trans (h6.below (fun j e => by omega) (Nat.le_trans HBd.out.size K6.out.size)))
      have I3 := Lib.hid (J3.out.chg h6 (by omega))
      have I4 := Lib.hid (J4.out.chg h6 (by omega))
      clear h5 h6 h7
      refine hK.out _ _ ?_ (fun hHeld => ?_)
      · exact ⟨I3.out, I4.out⟩
      clear hK K
      try simp only [Act.put, List.getElem_toArray, List.getElem_cons_succ, List.getElem_cons_zero, List.setIfInBounds_toArray, List.set_cons_zero, List.set_cons_succ]
      refine wpAnyH_done (by kernel_rfl) ?_ _
      refine NoPanic.normal ?_
      go_wp2_with fail
      exact HQl.out _ _ _ _ _ _ _ _ _ _ _ _ _ _ _ _ _ _ _ _ _ _ _ _ _ _ _ _ _ _ _ _ _ _ _ _ _ _ _ _ _ _ _ _ _ _ _ _ _ _ _ _ _ _ _ _ _ _ _ _ _ _ _ _ _ _ _ _ _ _ _ _ _ _ _ _ _ _ _ _ _ _ _ _ _ _ _ _ _ _ _ _ _ _ _ _ _ _ _ _ _ _ _ _ _ _ _ _ _ _ _ _ _ _ _ _ _ _ _ _ _ _ _ _ _ _ _ _ K8.out K7.out K9.out
    · have HQn := Lib.hid (fun h => HQ.out _ _ HA.out hks h)
      have HRn := Lib.hid (fun h => HR.out _ _ HA.out hks h)
      rw [decide_eq_false hks] at q0
      clear HQ HR HQL HSeen
      simp only [left, right, inner, yes, no, bodyOf, Tryz.f31]
      go_wp2_with fail
      refine HK.out _ _ ?_
      have hLl2 := HLl.out
      have hal : ((l.drop p).take (hd + n)).length = hd + n := by rw [List.length_take, List.length_drop]; omega
      refine mid6 Q HRD.out hks hk255 hf255 HBn.out HLl.out (by omega) (by omega) _ _ _ _ _ _ _ _ _ _ _ _ _ _ _ _ _ _ _ _ _ _ _ _ _ _ _ _ _ _ _ _ _ _ _ _ _ _ _ _ _ _ _ _ _ _ _ _ _ _ _ _ _ _ _ _ _ _ _ _ _ _ _ _ _ _ _ _ _ _ _ _ _ _ _ _ _ _ _ _ _ _ _ _ _ _ _ _ _ _ _ _ _ _ _ _ _ _ _ _ _ _ _ _ _ _ _ _ _ _ _ _ _ _ _ _ _ _ _ _ _ _ _ _ _ _ _ _ _ _ _ _ _ _ _ _ _ _ _ _ _ _ _ _ _ _ _ ?_ ?_
      · intro hs v13 v14 v15 v16 v80 v81 v82 v83 v84 v85 v86 v87 v88 v89 v90 v91 v92 v93 v94 v95 v96 v97 v98 v99 v100 v101 v102 v103 v104 v105 v106 v107 v108 v109 v110 v111 v112 v113 v114 v115 v116 v117 v118 v119 v120 v121 v122 v123 v124 v125 v126 v127 v128 v129 v130 v131 v132 v133 v134 v135 v136 v137 v138 v139 v140 v141 v142 v143 v144 v145 v146 v147 v148 v149 v150 v151 v152 v153 v154 v155 w' h1
        refine HQn.out hs _ _ _ _ _ _ _ _ _ _ _ _ _ _ _ _ _ _ _ _ _ _ _ _ _ _ _ _ _ _ _ _ _ _ _ _ _ _ _ _ _ _ _ _ _ _ _ _ _ _ _ _ _ _ _ _ _ _ _ _ _ _ _ _ _ _ _ _ _ _ _ _ _ _ _ _ _ _ _ _ _ _ _ _ _ _ _ _ _ _ _ _ _ _ _ _ _ _ _ _ _ _ _ _ _ _ _ _ _ _ _ _ _ _ _ _ _ _ _ _ _ _ _ _ _ _ (p + hd + n) w' rfl (by omega) (by omega) ?_ h1
        show ((l.drop (p + hd)).take n).length ≤ 50000
        rw [List.length_take, List.length_drop]
        omega
      · intro hs v8 v13 v14 v15 v16 v80 v81 v82 v83 v84 v85 v86 v87 v88 v89 v90 v91 v92 v93 v94 v95 v96 v97 v98 v99 v100 v101 v102 v103 v104 v105 v106 v107 v108 v109 v110 v111 v112 v113 v114 v115 v116 v117 v118 v119 v120 v121 v122 v123 v124 v125 v126 v127 v128 v129 v130 v131 v132 v133 v134 v135 v136 v137 v138 v139 v140 v141 v142 v143 v144 v145 v146 v147 v148 v149 v150 v151 v152 v153 v154 v155 aA ac w' h1 h2 h3 h4
        refine HRn.out hs _ _ _ _ _ _ _ _ _ _ _ _ _ _ _ _ _ _ _ _ _ _ _ _ _ _ _ _ _ _ _ _ _ _ _ _ _ _ _ _ _ _ _ _ _ _ _ _ _ _ _ _ _ _ _ _ _ _ _ _ _ _ _ _ _ _ _ _ _ _ _ _ _ _ _ _ _ _ _ _ _ _ _ _ _ _ _ _ _ _ _ _ _ _ _ _ _ _ _ _ _ _ _ _ _ _ _ _ _ _ _ _ _ _ _ _ _ _ _ _ _ _ _ _ _ _ _ aA ac w' h1 ?_ h3 h4
        show Bk w' (w.heap.size + 1) 33 (ntc _ aA ((l.drop p).take (hd + n)).length ac)
        rw [hal]
        exact h2
end Go.Proofs.YtaeeeinpelfppaaGreat.attr
