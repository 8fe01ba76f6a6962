/- The attribute's own flags, and its bytes, in confluenceref08.Decode. Conditions as each lemma states. Printed by gen_refdec8.py. -/
import Derived.Test.YtaeeeinpelfppaaGreatRefDecB
import Derived.Deep.RegionHeld3
namespace Go.Proofs.YtaeeeinpelfppaaGreat.attr
open Go.RowKit Go.Proofs.YtaeeeinpelfppaaGreat.kit Go.Proofs.YtaeeeinpelfppaaGreat.mem Go.Proofs.YtaeeeinpelfppaaGreat.foot Go.Proofs.YtaeeeinpelfppaaGreat.nums Go.Proofs.YtaeeeinpelfppaaGreat.asn Go.Proofs.YtaeeeinpelfppaaGreat.pth Go.Proofs.YtaeeeinpelfppaaGreat.octet Go.Proofs.YtaeeeinpelfppaaGreat.code
set_option linter.unusedVariables false
set_option linter.unusedSimpArgs false
theorem and32 (x : Nat) (h : x ≤ 255) : bits .and .i64 (x : Int) 32 = if x / 32 % 2 = 1 then 32 else 0 := by
  have : ∀ x : Fin 256, bits .and .i64 (x.val : Int) 32 = if x.val / 32 % 2 = 1 then 32 else 0 := by decide +kernel
  exact this ⟨x, by omega⟩
set_option maxRecDepth 100000 in
set_option maxHeartbeats 8000000 in
theorem own9 {w wa : World} {seen ms : List Nat} {a : Atr} {k f L bc al ac vc : Nat} {bA aA vA : Option Addr} {v : List UInt8} (Q : Exit → Act → World → Prop) (hrd : RD w seen ms a wa) (hks : k ∉ seen) (hk : k ≤ 255) (hf : f ≤ 255) (hv : Bn wa (fun _ => True) vA vc v) (hl : v.length ≤ 50000) (u1 u8 u9 u15 u16 u17 u18 u19 u20 u21 u22 u23 u24 u25 u26 u27 u28 u29 u30 u31 u32 u33 u34 u35 u36 u37 u38 u39 u40 u41 u42 u43 u44 u45 u46 u47 u48 u49 u50 u51 u52 u53 u54 u55 u56 u57 u58 u59 u60 u61 u62 u63 u64 u65 u66 u67 u68 u69 u70 u71 u72 u73 u74 u75 u76 u77 u78 u79 u80 u81 u82 u83 u84 u85 u86 u87 u88 u89 u90 u91 u92 u93 u94 u95 u96 u97 u98 u99 u100 u101 u102 u103 u104 u105 u106 u107 u108 u109 u110 u111 u112 u113 u114 u115 u116 u117 u118 u119 u120 u121 u122 u123 u124 u125 u126 u127 u128 u129 u130 u131 u132 u133 u134 u135 u136 u137 u138 u139 u140 u141 u142 u143 u144 u145 u146 u147 u148 u149 u150 u151 u152 u153 u154 u155 u156 u157 u158 : Value)
    (hQ : (wrongS a f k v).2 = 0 → ∀ (v15 v16 v105 v106 v107 v108 v109 v110 v111 v112 v113 v114 v115 v116 v117 v118 v119 v120 v121 v122 v123 v124 v125 v126 v127 v128 v129 v130 v131 v132 v133 v134 v135 v136 v137 v138 v139 v140 v141 v142 v143 v144 v145 v146 v147 v148 v149 v150 v151 v152 v153 v154 v155 : Value) (w' : World), RD w (k :: seen) ms (wrongS a f k v).1 w' → Q .normal { tmps := #[.slice bA L bc, u1, .pointer (some ⟨w.heap.size, 0, none⟩), .pointer (some ⟨w.heap.size + 1, 0, none⟩), .pointer (some ⟨w.heap.size + 2, 0, none⟩), .pointer (some ⟨w.heap.size + 3, 0, none⟩), .pointer (some ⟨w.heap.size + 4, 0, none⟩), .pointer (some ⟨w.heap.size + 5, 0, none⟩), u8, u9, .int .i64 (k : Int), .int .i64 (f : Int), .int .i64 (v.length : Int), .slice vA v.length vc, .slice aA al ac, v15, v16, u17, u18, u19, u20, u21, u22, u23, u24, u25, u26, u27, u28, u29, u30, u31, u32, u33, u34, u35, u36, u37, u38, u39, u40, u41, u42, u43, u44, u45, u46, u47, u48, u49, u50, u51, u52, u53, u54, u55, u56, u57, u58, u59, u60, u61, u62, u63, u64, u65, u66, u67, u68, u69, u70, u71, u72, u73, u74, u75, u76, u77, u78, u79, u80, u81, u82, u83, u84, u85, u86, u87, u88, u89, u90, u91, u92, u93, u94, u95, u96, u97, u98, u99, u100, u101, u102, u103, u104, v105, v106, v107, v108, v109, v110, v111, v112, v113, v114, v115, v116, v117, v118, v119, v120, v121, v122, v123, v124, v125, v126, v127, v128, v129, v130, v131, v132, v133, v134, v135, v136, v137, v138, v139, v140, v141, v142, v143, v144, v145, v146, v147, v148, v149, v150, v151, v152, v153, v154, v155, u156, u157, u158], defers := [] } w')
    (hR : (wrongS a f k v).2 ≠ 0 → ∀ (v15 v16 v105 v106 v107 v108 v109 v110 v111 v112 v113 v114 v115 v116 v117 v118 v119 v120 v121 v122 v123 v124 v125 v126 v127 v128 v129 v130 v131 v132 v133 v134 v135 v136 v137 v138 v139 v140 v141 v142 v143 v144 v145 v146 v147 v148 v149 v150 v151 v152 v153 v154 v155 : Value) (w' : World), Bk w' w.heap.size 29 zeroC.toArray → Bk w' (w.heap.size + 1) 33 (ntc (wrongS a f k v).2 aA al ac) → Below w.heap.size w w' → Q .ret { tmps := #[.slice bA L bc, u1, .pointer (some ⟨w.heap.size, 0, none⟩), .pointer (some ⟨w.heap.size + 1, 0, none⟩), .pointer (some ⟨w.heap.size + 2, 0, none⟩), .pointer (some ⟨w.heap.size + 3, 0, none⟩), .pointer (some ⟨w.heap.size + 4, 0, none⟩), .pointer (some ⟨w.heap.size + 5, 0, none⟩), u8, u9, .int .i64 (k : Int), .int .i64 (f : Int), .int .i64 (v.length : Int), .slice vA v.length vc, .slice aA al ac, v15, v16, u17, u18, u19, u20, u21, u22, u23, u24, u25, u26, u27, u28, u29, u30, u31, u32, u33, u34, u35, u36, u37, u38, u39, u40, u41, u42, u43, u44, u45, u46, u47, u48, u49, u50, u51, u52, u53, u54, u55, u56, u57, u58, u59, u60, u61, u62, u63, u64, u65, u66, u67, u68, u69, u70, u71, u72, u73, u74, u75, u76, u77, u78, u79, u80, u81, u82, u83, u84, u85, u86, u87, u88, u89, u90, u91, u92, u93, u94, u95, u96, u97, u98, u99, u100, u101, u102, u103, u104, v105, v106, v107, v108, v109, v110, v111, v112, v113, v114, v115, v116, v117, v118, v119, v120, v121, v122, v123, v124, v125, v126, v127, v128, v129, v130, v131, v132, v133, v134, v135, v136, v137, v138, v139, v140, v141, v142, v143, v144, v145, v146, v147, v148, v149, v150, v151, v152, v153, v154, v155, u156, u157, u158], defers := [] } w') :
    Code.wp Tryz.prog (right (right (right (right (right (right (right (right (right (inner (right (inner (inner (right (left (right (right (right (right (bodyOf Tryz.f31)))))))))))))))))))) Q { tmps := #[.slice bA L bc, u1, .pointer (some ⟨w.heap.size, 0, none⟩), .pointer (some ⟨w.heap.size + 1, 0, none⟩), .pointer (some ⟨w.heap.size + 2, 0, none⟩), .pointer (some ⟨w.heap.size + 3, 0, none⟩), .pointer (some ⟨w.heap.size + 4, 0, none⟩), .pointer (some ⟨w.heap.size + 5, 0, none⟩), u8, u9, .int .i64 (k : Int), .int .i64 (f : Int), .int .i64 (v.length : Int), .slice vA v.length vc, .slice aA al ac, u15, u16, u17, u18, u19, u20, u21, u22, u23, u24, u25, u26, u27, u28, u29, u30, u31, u32, u33, u34, u35, u36, u37, u38, u39, u40, u41, u42, u43, u44, u45, u46, u47, u48, u49, u50, u51, u52, u53, u54, u55, u56, u57, u58, u59, u60, u61, u62, u63, u64, u65, u66, u67, u68, u69, u70, u71, u72, u73, u74, u75, u76, u77, u78, u79, u80, u81, u82, u83, u84, u85, u86, u87, u88, u89, u90, u91, u92, u93, u94, u95, u96, u97, u98, u99, u100, u101, u102, u103, u104, u105, u106, u107, u108, u109, u110, u111, u112, u113, u114, u115, u116, u117, u118, u119, u120, u121, u122, u123, u124, u125, u126, u127, u128, u129, u130, u131, u132, u133, u134, u135, u136, u137, u138, u139, u140, u141, u142, u143, u144, u145, u146, u147, u148, u149, u150, u151, u152, u153, u154, u155, u156, u157, u158], defers := [] } wa := by
  have HQ := Lib.hid hQ
  have HR := Lib.hid hR
  have HRD := Lib.hid hrd
  have HV := Lib.hid hv
  have HKs := Lib.hid hks
  clear hQ hR hrd hv hks
  have a16 := and16 f hf
  have hue := unExt_le f
  have a32 := and32 (unExt f) (by omega)
  have HSub := Lib.hid (fun (own : Nat) (ho : own = if 7 ≤ k then unPart (unExt f) else unExt f) => sub13 (bA := bA) (aA := aA) (L := L) (bc := bc) (al := al) (ac := ac) Q HRD.out HKs.out hk hf ho HV.out hl)
  have HSub : Hid (∀ (own : Nat), (own = if 7 ≤ k then unPart (unExt f) else unExt f) → ∀ (u105 u106 u107 u108 u109 u110 u111 u112 u113 u114 u115 u116 u117 u118 u119 u120 u121 u122 u123 u124 u125 u126 u127 u128 u129 u130 u131 u132 u133 u134 u135 u136 u137 u138 u139 u140 u141 u142 u143 u144 u145 u146 u147 u148 u149 u150 u151 u152 u153 u154 u155 : Value), Code.wp Tryz.prog (right (right (right (right (right (right (right (right (right (right (right (right (right (inner (right (inner (inner (right (left (right (right (right (right (bodyOf Tryz.f31)))))))))))))))))))))))) Q { tmps := #[.slice bA L bc, u1, .pointer (some ⟨w.heap.size, 0, none⟩), .pointer (some ⟨w.heap.size + 1, 0, none⟩), .pointer (some ⟨w.heap.size + 2, 0, none⟩), .pointer (some ⟨w.heap.size + 3, 0, none⟩), .pointer (some ⟨w.heap.size + 4, 0, none⟩), .pointer (some ⟨w.heap.size + 5, 0, none⟩), u8, u9, .int .i64 (k : Int), .int .i64 (f : Int), .int .i64 (v.length : Int), .slice vA v.length vc, .slice aA al ac, .int .i64 (own : Int), .int .i64 0, u17, u18, u19, u20, u21, u22, u23, u24, u25, u26, u27, u28, u29, u30, u31, u32, u33, u34, u35, u36, u37, u38, u39, u40, u41, u42, u43, u44, u45, u46, u47, u48, u49, u50, u51, u52, u53, u54, u55, u56, u57, u58, u59, u60, u61, u62, u63, u64, u65, u66, u67, u68, u69, u70, u71, u72, u73, u74, u75, u76, u77, u78, u79, u80, u81, u82, u83, u84, u85, u86, u87, u88, u89, u90, u91, u92, u93, u94, u95, u96, u97, u98, u99, u100, u101, u102, u103, u104, u105, u106, u107, u108, u109, u110, u111, u112, u113, u114, u115, u116, u117, u118, u119, u120, u121, u122, u123, u124, u125, u126, u127, u128, u129, u130, u131, u132, u133, u134, u135, u136, u137, u138, u139, u140, u141, u142, u143, u144, u145, u146, u147, u148, u149, u150, u151, u152, u153, u154, u155, u156, u157, u158], defers := [] } wa) := by
    intro own ho
    intro u105 u106 u107 u108 u109 u110 u111 u112 u113 u114 u115 u116 u117 u118 u119 u120 u121 u122 u123 u124 u125 u126 u127 u128 u129 u130 u131 u132 u133 u134 u135 u136 u137 u138 u139 u140 u141 u142 u143 u144 u145 u146 u147 u148 u149 u150 u151 u152 u153 u154 u155
    refine HSub.out own ho _ _ _ _ _ _ _ _ _ _ _ _ _ _ _ _ _ _ _ _ _ _ _ _ _ _ _ _ _ _ _ _ _ _ _ _ _ _ _ _ _ _ _ _ _ _ _ _ _ _ _ _ _ _ _ _ _ _ _ _ _ _ _ _ _ _ _ _ _ _ _ _ _ _ _ _ _ _ _ _ _ _ _ _ _ _ _ _ _ _ _ _ _ _ _ _ _ _ _ _ _ _ _ _ _ _ _ _ _ _ _ _ _ _ _ _ _ _ _ _ _ _ _ _ _ _ _ _ _ _ _ _ _ _ _ _ _ _ _ _ _ _ _ _ _ ?_ ?_
    · intro hs v16 v120 v121 v122 v123 v124 v125 v126 v127 v128 v129 v130 v131 v132 v133 v134 v135 v136 v137 v138 v139 v140 v141 v142 v143 v144 v145 v146 v147 v148 v149 v150 v151 v152 v153 v154 v155 w' h1
      exact HQ.out hs _ _ _ _ _ _ _ _ _ _ _ _ _ _ _ _ _ _ _ _ _ _ _ _ _ _ _ _ _ _ _ _ _ _ _ _ _ _ _ _ _ _ _ _ _ _ _ _ _ _ _ _ _ w' h1
    · intro hs v16 v120 v121 v122 v123 v124 v125 v126 v127 v128 v129 v130 v131 v132 v133 v134 v135 v136 v137 v138 v139 v140 v141 v142 v143 v144 v145 v146 v147 v148 v149 v150 v151 v152 v153 v154 v155 w' h1 h2 h3
      exact HR.out hs _ _ _ _ _ _ _ _ _ _ _ _ _ _ _ _ _ _ _ _ _ _ _ _ _ _ _ _ _ _ _ _ _ _ _ _ _ _ _ _ _ _ _ _ _ _ _ _ _ _ _ _ _ w' h1 h2 h3
  clear HQ HR HRD HV HKs
  by_cases he : ext f = true
  · have h16 : 16 ≤ f := by
      unfold ext at he
      have := of_decide_eq_true he
      omega
    have hun : unExt f = f - 16 := by unfold unExt; rw [if_pos he]
    have hx : (f : Int) - 16 = (unExt f : Int) := by omega
    rw [if_pos he] at a16
    clear he hun
    have hw : k < 7 ∨ (7 ≤ k ∧ (unExt f) / 32 % 2 = 1) ∨ (7 ≤ k ∧ ¬ (unExt f) / 32 % 2 = 1) := by omega
    rcases hw with h | ⟨h, h2⟩ | ⟨h, h2⟩
    · have HO : Hid ((unExt f) = if 7 ≤ k then unPart (unExt f) else (unExt f)) := by rw [Hid, if_neg (by omega)]
      have d7 : decide ((7 : Int) ≤ (k : Int)) = false := by rw [decide_eq_false_iff_not]; omega
      clear a32
      refine wp_seq_k (x := left (right (right (right (right (right (right (right (right (right (inner (right (inner (inner (right (left (right (right (right (right (bodyOf Tryz.f31))))))))))))))))))))) (y := right (right (right (right (right (right (right (right (right (right (inner (right (inner (inner (right (left (right (right (right (right (bodyOf Tryz.f31))))))))))))))))))))) fun K hK => ?_
      have HK := Lib.hid hK
      clear hK
      simp only [left, right, inner, yes, no, bodyOf, Tryz.f31]
      go_wp2_with fail
      refine HK.out _ _ ?_
      clear HK
      refine wp_seq_k (x := left (right (right (right (right (right (right (right (right (right (right (inner (right (inner (inner (right (left (right (right (right (right (bodyOf Tryz.f31)))))))))))))))))))))) (y := right (right (right (right (right (right (right (right (right (right (right (inner (right (inner (inner (right (left (right (right (right (right (bodyOf Tryz.f31)))))))))))))))))))))) fun K hK => ?_
      have HK := Lib.hid hK
      clear hK
      simp only [left, right, inner, yes, no, bodyOf, Tryz.f31]
      go_wp2_with fail
      try simp only [hx]
      refine HK.out _ _ ?_
      clear HK
      refine wp_seq_k (x := left (right (right (right (right (right (right (right (right (right (right (right (inner (right (inner (inner (right (left (right (right (right (right (bodyOf Tryz.f31))))))))))))))))))))))) (y := right (right (right (right (right (right (right (right (right (right (right (right (inner (right (inner (inner (right (left (right (right (right (right (bodyOf Tryz.f31))))))))))))))))))))))) fun K hK => ?_
      have HK := Lib.hid hK
      clear hK
      simp only [left, right, inner, yes, no, bodyOf, Tryz.f31]
      go_wp2_with fail
      refine HK.out _ _ ?_
      clear HK
      refine wp_seq_k (x := left (right (right (right (right (right (right (right (right (right (right (right (right (inner (right (inner (inner (right (left (right (right (right (right (bodyOf Tryz.f31)))))))))))))))))))))))) (y := right (right (right (right (right (right (right (right (right (right (right (right (right (inner (right (inner (inner (right (left (right (right (right (right (bodyOf Tryz.f31)))))))))))))))))))))))) fun K hK => ?_
      have HK := Lib.hid hK
      clear hK
      simp only [left, right, inner, yes, no, bodyOf, Tryz.f31]
      go_wp2_with fail
      refine HK.out _ _ ?_
      clear HK
      first | exact HSub.out ((unExt f)) HO.out _ _ _ _ _ _ _ _ _ _ _ _ _ _ _ _ _ _ _ _ _ _ _ _ _ _ _ _ _ _ _ _ _ _ _ _ _ _ _ _ _ _ _ _ _ _ _ _ _ _ _ | (rw [hx]; exact HSub.out ((unExt f)) HO.out _ _ _ _ _ _ _ _ _ _ _ _ _ _ _ _ _ _ _ _ _ _ _ _ _ _ _ _ _ _ _ _ _ _ _ _ _ _ _ _ _ _ _ _ _ _ _ _ _ _ _)
    · have HO : Hid ((unExt f) - 32 = if 7 ≤ k then unPart (unExt f) else (unExt f)) := by rw [Hid, if_pos h]; unfold unPart; rw [if_pos h2]
      have d7 : decide ((7 : Int) ≤ (k : Int)) = true := by rw [decide_eq_true_iff]; omega
      rw [if_pos h2] at a32
      have hx2 : (((unExt f) - 32 : Nat) : Int) = ((unExt f) : Int) - 32 := by omega
      refine wp_seq_k (x := left (right (right (right (right (right (right (right (right (right (inner (right (inner (inner (right (left (right (right (right (right (bodyOf Tryz.f31))))))))))))))))))))) (y := right (right (right (right (right (right (right (right (right (right (inner (right (inner (inner (right (left (right (right (right (right (bodyOf Tryz.f31))))))))))))))))))))) fun K hK => ?_
      have HK := Lib.hid hK
      clear hK
      simp only [left, right, inner, yes, no, bodyOf, Tryz.f31]
      go_wp2_with fail
      refine HK.out _ _ ?_
      clear HK
      refine wp_seq_k (x := left (right (right (right (right (right (right (right (right (right (right (inner (right (inner (inner (right (left (right (right (right (right (bodyOf Tryz.f31)))))))))))))))))))))) (y := right (right (right (right (right (right (right (right (right (right (right (inner (right (inner (inner (right (left (right (right (right (right (bodyOf Tryz.f31)))))))))))))))))))))) fun K hK => ?_
      have HK := Lib.hid hK
      clear hK
      simp only [left, right, inner, yes, no, bodyOf, Tryz.f31]
      go_wp2_with fail
      try simp only [hx]
      refine HK.out _ _ ?_
      clear HK
      refine wp_seq_k (x := left (right (right (right (right (right (right (right (right (right (right (right (inner (right (inner (inner (right (left (right (right (right (right (bodyOf Tryz.f31))))))))))))))))))))))) (y := right (right (right (right (right (right (right (right (right (right (right (right (inner (right (inner (inner (right (left (right (right (right (right (bodyOf Tryz.f31))))))))))))))))))))))) fun K hK => ?_
      have HK := Lib.hid hK
      clear hK
      simp only [left, right, inner, yes, no, bodyOf, Tryz.f31]
      go_wp2_with fail
      refine HK.out _ _ ?_
      clear HK
      refine wp_seq_k (x := left (right (right (right (right (right (right (right (right (right (right (right (right (inner (right (inner (inner (right (left (right (right (right (right (bodyOf Tryz.f31)))))))))))))))))))))))) (y := right (right (right (right (right (right (right (right (right (right (right (right (right (inner (right (inner (inner (right (left (right (right (right (right (bodyOf Tryz.f31)))))))))))))))))))))))) fun K hK => ?_
      have HK := Lib.hid hK
      clear hK
      simp only [left, right, inner, yes, no, bodyOf, Tryz.f31]
      go_wp2_with fail
      refine HK.out _ _ ?_
      clear HK
      first | exact HSub.out ((unExt f) - 32) HO.out _ _ _ _ _ _ _ _ _ _ _ _ _ _ _ _ _ _ _ _ _ _ _ _ _ _ _ _ _ _ _ _ _ _ _ _ _ _ _ _ _ _ _ _ _ _ _ _ _ _ _ | (rw [← hx2]; exact HSub.out ((unExt f) - 32) HO.out _ _ _ _ _ _ _ _ _ _ _ _ _ _ _ _ _ _ _ _ _ _ _ _ _ _ _ _ _ _ _ _ _ _ _ _ _ _ _ _ _ _ _ _ _ _ _ _ _ _ _) | (rw [hx, ← hx2]; exact HSub.out ((unExt f) - 32) HO.out _ _ _ _ _ _ _ _ _ _ _ _ _ _ _ _ _ _ _ _ _ _ _ _ _ _ _ _ _ _ _ _ _ _ _ _ _ _ _ _ _ _ _ _ _ _ _ _ _ _ _)
    · have HO : Hid ((unExt f) = if 7 ≤ k then unPart (unExt f) else (unExt f)) := by rw [Hid, if_pos h]; unfold unPart; rw [if_neg h2]
      have d7 : decide ((7 : Int) ≤ (k : Int)) = true := by rw [decide_eq_true_iff]; omega
      rw [if_neg h2] at a32
      refine wp_seq_k (x := left (right (right (right (right (right (right (right (right (right (inner (right (inner (inner (right (left (right (right (right (right (bodyOf Tryz.f31))))))))))))))))))))) (y := right (right (right (right (right (right (right (right (right (right (inner (right (inner (inner (right (left (right (right (right (right (bodyOf Tryz.f31))))))))))))))))))))) fun K hK => ?_
      have HK := Lib.hid hK
      clear hK
      simp only [left, right, inner, yes, no, bodyOf, Tryz.f31]
      go_wp2_with fail
      refine HK.out _ _ ?_
      clear HK
      refine wp_seq_k (x := left (right (right (right (right (right (right (right (right (right (right (inner (right (inner (inner (right (left (right (right (right (right (bodyOf Tryz.f31)))))))))))))))))))))) (y := right (right (right (right (right (right (right (right (right (right (right (inner (right (inner (inner (right (left (right (right (right (right (bodyOf Tryz.f31)))))))))))))))))))))) fun K hK => ?_
      have HK := Lib.hid hK
      clear hK
      simp only [left, right, inner, yes, no, bodyOf, Tryz.f31]
      go_wp2_with fail
      try simp only [hx]
      refine HK.out _ _ ?_
      clear HK
      refine wp_seq_k (x := left (right (right (right (right (right (right (right (right (right (right (right (inner (right (inner (inner (right (left (right (right (right (right (bodyOf Tryz.f31))))))))))))))))))))))) (y := right (right (right (right (right (right (right (right (right (right (right (right (inner (right (inner (inner (right (left (right (right (right (right (bodyOf Tryz.f31))))))))))))))))))))))) fun K hK => ?_
      have HK := Lib.hid hK
      clear hK
      simp only [left, right, inner, yes, no, bodyOf, Tryz.f31]
      go_wp2_with fail
      refine HK.out _ _ ?_
      clear HK
      refine wp_seq_k (x := left (right (right (right (right (right (right (right (right (right (right (right (right (inner (right (inner (inner (right (left (right (right (right (right (bodyOf Tryz.f31)))))))))))))))))))))))) (y := right (right (right (right (right (right (right (right (right (right (right (right (right (inner (right (inner (inner (right (left (right (right (right (right (bodyOf Tryz.f31)))))))))))))))))))))))) fun K hK => ?_
      have HK := Lib.hid hK
      clear hK
      simp only [left, right, inner, yes, no, bodyOf, Tryz.f31]
      go_wp2_with fail
      refine HK.out _ _ ?_
      clear HK
      first | exact HSub.out ((unExt f)) HO.out _ _ _ _ _ _ _ _ _ _ _ _ _ _ _ _ _ _ _ _ _ _ _ _ _ _ _ _ _ _ _ _ _ _ _ _ _ _ _ _ _ _ _ _ _ _ _ _ _ _ _ | (rw [hx]; exact HSub.out ((unExt f)) HO.out _ _ _ _ _ _ _ _ _ _ _ _ _ _ _ _ _ _ _ _ _ _ _ _ _ _ _ _ _ _ _ _ _ _ _ _ _ _ _ _ _ _ _ _ _ _ _ _ _ _ _)
  · have hun : unExt f = f := by unfold unExt; rw [if_neg he]
    rw [if_neg he] at a16
    rw [hun] at a32 HSub
    clear he hun hue
    have hw : k < 7 ∨ (7 ≤ k ∧ f / 32 % 2 = 1) ∨ (7 ≤ k ∧ ¬ f / 32 % 2 = 1) := by omega
    rcases hw with h | ⟨h, h2⟩ | ⟨h, h2⟩
    · have HO : Hid (f = if 7 ≤ k then unPart f else f) := by rw [Hid, if_neg (by omega)]
      have d7 : decide ((7 : Int) ≤ (k : Int)) = false := by rw [decide_eq_false_iff_not]; omega
      clear a32
      refine wp_seq_k (x := left (right (right (right (right (right (right (right (right (right (inner (right (inner (inner (right (left (right (right (right (right (bodyOf Tryz.f31))))))))))))))))))))) (y := right (right (right (right (right (right (right (right (right (right (inner (right (inner (inner (right (left (right (right (right (right (bodyOf Tryz.f31))))))))))))))))))))) fun K hK => ?_
      have HK := Lib.hid hK
      clear hK
      simp only [left, right, inner, yes, no, bodyOf, Tryz.f31]
      go_wp2_with fail
      refine HK.out _ _ ?_
      clear HK
      refine wp_seq_k (x := left (right (right (right (right (right (right (right (right (right (right (inner (right (inner (inner (right (left (right (right (right (right (bodyOf Tryz.f31)))))))))))))))))))))) (y := right (right (right (right (right (right (right (right (right (right (right (inner (right (inner (inner (right (left (right (right (right (right (bodyOf Tryz.f31)))))))))))))))))))))) fun K hK => ?_
      have HK := Lib.hid hK
      clear hK
      simp only [left, right, inner, yes, no, bodyOf, Tryz.f31]
      go_wp2_with fail
      refine HK.out _ _ ?_
      clear HK
      refine wp_seq_k (x := left (right (right (right (right (right (right (right (right (right (right (right (inner (right (inner (inner (right (left (right (right (right (right (bodyOf Tryz.f31))))))))))))))))))))))) (y := right (right (right (right (right (right (right (right (right (right (right (right (inner (right (inner (inner (right (left (right (right (right (right (bodyOf Tryz.f31))))))))))))))))))))))) fun K hK => ?_
      have HK := Lib.hid hK
      clear hK
      simp only [left, right, inner, yes, no, bodyOf, Tryz.f31]
      go_wp2_with fail
      refine HK.out _ _ ?_
      clear HK
      refine wp_seq_k (x := left (right (right (right (right (right (right (right (right (right (right (right (right (inner (right (inner (inner (right (left (right (right (right (right (bodyOf Tryz.f31)))))))))))))))))))))))) (y := right (right (right (right (right (right (right (right (right (right (right (right (right (inner (right (inner (inner (right (left (right (right (right (right (bodyOf Tryz.f31)))))))))))))))))))))))) fun K hK => ?_
      have HK := Lib.hid hK
      clear hK
      simp only [left, right, inner, yes, no, bodyOf, Tryz.f31]
      go_wp2_with fail
      refine HK.out _ _ ?_
      clear HK
      first | exact HSub.out (f) HO.out _ _ _ _ _ _ _ _ _ _ _ _ _ _ _ _ _ _ _ _ _ _ _ _ _ _ _ _ _ _ _ _ _ _ _ _ _ _ _ _ _ _ _ _ _ _ _ _ _ _ _ | (rw [hx]; exact HSub.out (f) HO.out _ _ _ _ _ _ _ _ _ _ _ _ _ _ _ _ _ _ _ _ _ _ _ _ _ _ _ _ _ _ _ _ _ _ _ _ _ _ _ _ _ _ _ _ _ _ _ _ _ _ _)
    · have HO : Hid (f - 32 = if 7 ≤ k then unPart f else f) := by rw [Hid, if_pos h]; unfold unPart; rw [if_pos h2]
      have d7 : decide ((7 : Int) ≤ (k : Int)) = true := by rw [decide_eq_true_iff]; omega
      rw [if_pos h2] at a32
      have hx2 : ((f - 32 : Nat) : Int) = (f : Int) - 32 := by omega
      refine wp_seq_k (x := left (right (right (right (right (right (right (right (right (right (inner (right (inner (inner (right (left (right (right (right (right (bodyOf Tryz.f31))))))))))))))))))))) (y := right (right (right (right (right (right (right (right (right (right (inner (right (inner (inner (right (left (right (right (right (right (bodyOf Tryz.f31))))))))))))))))))))) fun K hK => ?_
      have HK := Lib.hid hK
      clear hK
      simp only [left, right, inner, yes, no, bodyOf, Tryz.f31]
      go_wp2_with fail
      refine HK.out _ _ ?_
      clear HK
      refine wp_seq_k (x := left (right (right (right (right (right (right (right (right (right (right (inner (right (inner (inner (right (left (right (right (right (right (bodyOf Tryz.f31)))))))))))))))))))))) (y := right (right (right (right (right (right (right (right (right (right (right (inner (right (inner (inner (right (left (right (right (right (right (bodyOf Tryz.f31)))))))))))))))))))))) fun K hK => ?_
      have HK := Lib.hid hK
      clear hK
      simp only [left, right, inner, yes, no, bodyOf, Tryz.f31]
      go_wp2_with fail
      refine HK.out _ _ ?_
      clear HK
      refine wp_seq_k (x := left (right (right (right (right (right (right (right (right (right (right (right (inner (right (inner (inner (right (left (right (right (right (right (bodyOf Tryz.f31))))))))))))))))))))))) (y := right (right (right (right (right (right (right (right (right (right (right (right (inner (right (inner (inner (right (left (right (right (right (right (bodyOf Tryz.f31))))))))))))))))))))))) fun K hK => ?_
      have HK := Lib.hid hK
      clear hK
      simp only [left, right, inner, yes, no, bodyOf, Tryz.f31]
      go_wp2_with fail
      refine HK.out _ _ ?_
      clear HK
      refine wp_seq_k (x := left (right (right (right (right (right (right (right (right (right (right (right (right (inner (right (inner (inner (right (left (right (right (right (right (bodyOf Tryz.f31)))))))))))))))))))))))) (y := right (right (right (right (right (right (right (right (right (right (right (right (right (inner (right (inner (inner (right (left (right (right (right (right (bodyOf Tryz.f31)))))))))))))))))))))))) fun K hK => ?_
      have HK := Lib.hid hK
      clear hK
      simp only [left, right, inner, yes, no, bodyOf, Tryz.f31]
      go_wp2_with fail
      refine HK.out _ _ ?_
      clear HK
      first | exact HSub.out (f - 32) HO.out _ _ _ _ _ _ _ _ _ _ _ _ _ _ _ _ _ _ _ _ _ _ _ _ _ _ _ _ _ _ _ _ _ _ _ _ _ _ _ _ _ _ _ _ _ _ _ _ _ _ _ | (rw [← hx2]; exact HSub.out (f - 32) HO.out _ _ _ _ _ _ _ _ _ _ _ _ _ _ _ _ _ _ _ _ _ _ _ _ _ _ _ _ _ _ _ _ _ _ _ _ _ _ _ _ _ _ _ _ _ _ _ _ _ _ _) | (rw [hx, ← hx2]; exact HSub.out (f - 32) HO.out _ _ _ _ _ _ _ _ _ _ _ _ _ _ _ _ _ _ _ _ _ _ _ _ _ _ _ _ _ _ _ _ _ _ _ _ _ _ _ _ _ _ _ _ _ _ _ _ _ _ _)
    · have HO : Hid (f = if 7 ≤ k then unPart f else f) := by rw [Hid, if_pos h]; unfold unPart; rw [if_neg h2]
      have d7 : decide ((7 : Int) ≤ (k : Int)) = true := by rw [decide_eq_true_iff]; omega
      rw [if_neg h2] at a32
      refine wp_seq_k (x := left (right (right (right (right (right (right (right (right (right (inner (right (inner (inner (right (left (right (right (right (right (bodyOf Tryz.f31))))))))))))))))))))) (y := right (right (right (right (right (right (right (right (right (right (inner (right (inner (inner (right (left (right (right (right (right (bodyOf Tryz.f31))))))))))))))))))))) fun K hK => ?_
      have HK := Lib.hid hK
      clear hK
      simp only [left, right, inner, yes, no, bodyOf, Tryz.f31]
      go_wp2_with fail
      refine HK.out _ _ ?_
      clear HK
      refine wp_seq_k (x := left (right (right (right (right (right (right (right (right (right (right (inner (right (inner (inner (right (left (right (right (right (right (bodyOf Tryz.f31)))))))))))))))))))))) (y := right (right (right (right (right (right (right (right (right (right (right (inner (right (inner (inner (right (left (right (right (right (right (bodyOf Tryz.f31)))))))))))))))))))))) fun K hK => ?_
      have HK := Lib.hid hK
      clear hK
      simp only [left, right, inner, yes, no, bodyOf, Tryz.f31]
      go_wp2_with fail
      refine HK.out _ _ ?_
      clear HK
      refine wp_seq_k (x := left (right (right (right (right (right (right (right (right (right (right (right (inner (right (inner (inner (right (left (right (right (right (right (bodyOf Tryz.f31))))))))))))))))))))))) (y := right (right (right (right (right (right (right (right (right (right (right (right (inner (right (inner (inner (right (left (right (right (right (right (bodyOf Tryz.f31))))))))))))))))))))))) fun K hK => ?_
      have HK := Lib.hid hK
      clear hK
      simp only [left, right, inner, yes, no, bodyOf, Tryz.f31]
      go_wp2_with fail
      refine HK.out _ _ ?_
      clear HK
      refine wp_seq_k (x := left (right (right (right (right (right (right (right (right (right (right (right (right (inner (right (inner (inner (right (left (right (right (right (right (bodyOf Tryz.f31)))))))))))))))))))))))) (y := right (right (right (right (right (right (right (right (right (right (right (right (right (inner (right (inner (inner (right (left (right (right (right (right (bodyOf Tryz.f31)))))))))))))))))))))))) fun K hK => ?_
      have HK := Lib.hid hK
      clear hK
      simp only [left, right, inner, yes, no, bodyOf, Tryz.f31]
      go_wp2_with fail
      refine HK.out _ _ ?_
      clear HK
      first | exact HSub.out (f) HO.out _ _ _ _ _ _ _ _ _ _ _ _ _ _ _ _ _ _ _ _ _ _ _ _ _ _ _ _ _ _ _ _ _ _ _ _ _ _ _ _ _ _ _ _ _ _ _ _ _ _ _ | (rw [hx]; exact HSub.out (f) HO.out _ _ _ _ _ _ _ _ _ _ _ _ _ _ _ _ _ _ _ _ _ _ _ _ _ _ _ _ _ _ _ _ _ _ _ _ _ _ _ _ _ _ _ _ _ _ _ _ _ _ _)
theorem cut_bn {c l lo n : Nat} (ad : Addr) (hc : l ≤ c) (hm : c ≤ maxLen) (h2 : lo + n ≤ l) :
    ∃ A' c', (∀ w, (Instr.slice 22 (.slice (some ad) l c) (some (.int .i64 (lo : Int))) (some (.int .i64 ((lo : Int) + (n : Int)))) none).run Tryz.prog w = .ok (.slice A' n c') w) ∧
      (∀ w G (x : List UInt8), x.length = l → Bn w G (some ad) c x → Bn w G A' c' ((x.drop lo).take n)) := by
  have hm' := hm
  unfold maxLen at hm
  have h3 : (lo : Int) + (n : Int) ≤ (c : Int) := by omega
  have h4 : (lo : Int) ≤ (lo : Int) + (n : Int) := by omega
  by_cases hz : c = lo
  · subst hz
    obtain rfl : n = 0 := by omega
    refine ⟨some ad, 0, fun w => ?_, fun w G x hx h => ?_⟩
    · go_simp
    · rw [List.take_zero]; exact ⟨(fun h => by cases h), Nat.le_refl _, Nat.zero_le _, Rg.nil _ _ _ _⟩
  · refine ⟨some (ad.add lo), c - lo, fun w => ?_, fun w G x hx h => ?_⟩
    · go_simp
      try omega
    · have h5 := (Rg.skip h.rg (k := lo) (by omega)).take (k := n) (by omega)
      rw [Nat.mul_one, Nat.mul_one, ← bv_drop, ← bv_take] at h5
      have e : ((x.drop lo).take n).length = n := by rw [List.length_take, List.length_drop]; omega
      exact ⟨(fun h => by cases h), by omega, by unfold maxLen; omega, by rw [e]; exact h5⟩
end Go.Proofs.YtaeeeinpelfppaaGreat.attr
