/- Which error is told of an attribute in confluenceref08.Decode. Conditions as the lemma states. Printed by gen_refdec8.py. -/
import Derived.Test.YtafepficapdepaaRefDecA
namespace Go.Proofs.Ytafepficapdepaa.attr
open Go.RowKit Go.Proofs.Ytafepficapdepaa.kit Go.Proofs.Ytafepficapdepaa.mem Go.Proofs.Ytafepficapdepaa.foot Go.Proofs.Ytafepficapdepaa.nums Go.Proofs.Ytafepficapdepaa.asn Go.Proofs.Ytafepficapdepaa.pth Go.Proofs.Ytafepficapdepaa.octet Go.Proofs.Ytafepficapdepaa.code
set_option linter.unusedVariables false
set_option linter.unusedSimpArgs false
set_option maxRecDepth 100000 in
set_option maxHeartbeats 8000000 in
theorem sub13 {w wa : World} {seen ms : List Nat} {a : Atr} {k f own L bc al ac vc : Nat} {bA aA vA : Option Addr} {v : List UInt8} (Q : Exit → Act → World → Prop) (hrd : RD w seen ms a wa) (hks : k ∉ seen) (hk : k ≤ 255) (hf : f ≤ 255) (hown : own = if 7 ≤ k then unPart (unExt f) else unExt f) (hv : Bn wa (fun _ => True) vA vc v) (hl : v.length ≤ 50000) (u1 u8 u9 u17 u18 u19 u20 u21 u22 u23 u24 u25 u26 u27 u28 u29 u30 u31 u32 u33 u34 u35 u36 u37 u38 u39 u40 u41 u42 u43 u44 u45 u46 u47 u48 u49 u50 u51 u52 u53 u54 u55 u56 u57 u58 u59 u60 u61 u62 u63 u64 u65 u66 u67 u68 u69 u70 u71 u72 u73 u74 u75 u76 u77 u78 u79 u80 u81 u82 u83 u84 u85 u86 u87 u88 u89 u90 u91 u92 u93 u94 u95 u96 u97 u98 u99 u100 u101 u102 u103 u104 u105 u106 u107 u108 u109 u110 u111 u112 u113 u114 u115 u116 u117 u118 u119 u120 u121 u122 u123 u124 u125 u126 u127 u128 u129 u130 u131 u132 u133 u134 u135 u136 u137 u138 u139 u140 u141 u142 u143 u144 u145 u146 u147 u148 u149 u150 u151 u152 u153 u154 u155 u156 u157 u158 : Value)
    (hQ : (wrongS a f k v).2 = 0 → ∀ (v16 v120 v121 v122 v123 v124 v125 v126 v127 v128 v129 v130 v131 v132 v133 v134 v135 v136 v137 v138 v139 v140 v141 v142 v143 v144 v145 v146 v147 v148 v149 v150 v151 v152 v153 v154 v155 : Value) (w' : World), RD w (k :: seen) ms (wrongS a f k v).1 w' → Q .normal { tmps := #[.slice bA L bc, u1, .pointer (some ⟨w.heap.size, 0, none⟩), .pointer (some ⟨w.heap.size + 1, 0, none⟩), .pointer (some ⟨w.heap.size + 2, 0, none⟩), .pointer (some ⟨w.heap.size + 3, 0, none⟩), .pointer (some ⟨w.heap.size + 4, 0, none⟩), .pointer (some ⟨w.heap.size + 5, 0, none⟩), u8, u9, .int .i64 (k : Int), .int .i64 (f : Int), .int .i64 (v.length : Int), .slice vA v.length vc, .slice aA al ac, .int .i64 (own : Int), v16, u17, u18, u19, u20, u21, u22, u23, u24, u25, u26, u27, u28, u29, u30, u31, u32, u33, u34, u35, u36, u37, u38, u39, u40, u41, u42, u43, u44, u45, u46, u47, u48, u49, u50, u51, u52, u53, u54, u55, u56, u57, u58, u59, u60, u61, u62, u63, u64, u65, u66, u67, u68, u69, u70, u71, u72, u73, u74, u75, u76, u77, u78, u79, u80, u81, u82, u83, u84, u85, u86, u87, u88, u89, u90, u91, u92, u93, u94, u95, u96, u97, u98, u99, u100, u101, u102, u103, u104, u105, u106, u107, u108, u109, u110, u111, u112, u113, u114, u115, u116, u117, u118, u119, v120, v121, v122, v123, v124, v125, v126, v127, v128, v129, v130, v131, v132, v133, v134, v135, v136, v137, v138, v139, v140, v141, v142, v143, v144, v145, v146, v147, v148, v149, v150, v151, v152, v153, v154, v155, u156, u157, u158], defers := [] } w')
    (hR : (wrongS a f k v).2 ≠ 0 → ∀ (v16 v120 v121 v122 v123 v124 v125 v126 v127 v128 v129 v130 v131 v132 v133 v134 v135 v136 v137 v138 v139 v140 v141 v142 v143 v144 v145 v146 v147 v148 v149 v150 v151 v152 v153 v154 v155 : Value) (w' : World), Bk w' w.heap.size 76 zeroC.toArray → Bk w' (w.heap.size + 1) 34 (ntc (wrongS a f k v).2 aA al ac) → Below w.heap.size w w' → Q .ret { tmps := #[.slice bA L bc, u1, .pointer (some ⟨w.heap.size, 0, none⟩), .pointer (some ⟨w.heap.size + 1, 0, none⟩), .pointer (some ⟨w.heap.size + 2, 0, none⟩), .pointer (some ⟨w.heap.size + 3, 0, none⟩), .pointer (some ⟨w.heap.size + 4, 0, none⟩), .pointer (some ⟨w.heap.size + 5, 0, none⟩), u8, u9, .int .i64 (k : Int), .int .i64 (f : Int), .int .i64 (v.length : Int), .slice vA v.length vc, .slice aA al ac, .int .i64 (own : Int), v16, u17, u18, u19, u20, u21, u22, u23, u24, u25, u26, u27, u28, u29, u30, u31, u32, u33, u34, u35, u36, u37, u38, u39, u40, u41, u42, u43, u44, u45, u46, u47, u48, u49, u50, u51, u52, u53, u54, u55, u56, u57, u58, u59, u60, u61, u62, u63, u64, u65, u66, u67, u68, u69, u70, u71, u72, u73, u74, u75, u76, u77, u78, u79, u80, u81, u82, u83, u84, u85, u86, u87, u88, u89, u90, u91, u92, u93, u94, u95, u96, u97, u98, u99, u100, u101, u102, u103, u104, u105, u106, u107, u108, u109, u110, u111, u112, u113, u114, u115, u116, u117, u118, u119, v120, v121, v122, v123, v124, v125, v126, v127, v128, v129, v130, v131, v132, v133, v134, v135, v136, v137, v138, v139, v140, v141, v142, v143, v144, v145, v146, v147, v148, v149, v150, v151, v152, v153, v154, v155, u156, u157, u158], defers := [] } w') :
    Code.wp Try.prog (right (right (right (right (right (right (right (right (right (right (right (right (right (inner (right (inner (inner (right (left (right (right (right (right (bodyOf Try.f37)))))))))))))))))))))))) Q { tmps := #[.slice bA L bc, u1, .pointer (some ⟨w.heap.size, 0, none⟩), .pointer (some ⟨w.heap.size + 1, 0, none⟩), .pointer (some ⟨w.heap.size + 2, 0, none⟩), .pointer (some ⟨w.heap.size + 3, 0, none⟩), .pointer (some ⟨w.heap.size + 4, 0, none⟩), .pointer (some ⟨w.heap.size + 5, 0, none⟩), u8, u9, .int .i64 (k : Int), .int .i64 (f : Int), .int .i64 (v.length : Int), .slice vA v.length vc, .slice aA al ac, .int .i64 (own : Int), .int .i64 0, u17, u18, u19, u20, u21, u22, u23, u24, u25, u26, u27, u28, u29, u30, u31, u32, u33, u34, u35, u36, u37, u38, u39, u40, u41, u42, u43, u44, u45, u46, u47, u48, u49, u50, u51, u52, u53, u54, u55, u56, u57, u58, u59, u60, u61, u62, u63, u64, u65, u66, u67, u68, u69, u70, u71, u72, u73, u74, u75, u76, u77, u78, u79, u80, u81, u82, u83, u84, u85, u86, u87, u88, u89, u90, u91, u92, u93, u94, u95, u96, u97, u98, u99, u100, u101, u102, u103, u104, u105, u106, u107, u108, u109, u110, u111, u112, u113, u114, u115, u116, u117, u118, u119, u120, u121, u122, u123, u124, u125, u126, u127, u128, u129, u130, u131, u132, u133, u134, u135, u136, u137, u138, u139, u140, u141, u142, u143, u144, u145, u146, u147, u148, u149, u150, u151, u152, u153, u154, u155, u156, u157, u158], defers := [] } wa := by
  have HQ := Lib.hid hQ
  have HR := Lib.hid hR
  have HRD := Lib.hid hrd
  have HZ0 := Lib.hid hrd.z0
  have HZ1 := Lib.hid hrd.z1
  have HZ3 := Lib.hid hrd.z3
  have HKs := Lib.hid hks
  have HFl : Hid (∀ w', Calls Try.prog 71 #[.int .i64 (k : Int)] w' fun e w2 => e = .returned (.int .i64 (flg (k : Int))) ∧ Below w'.heap.size w' w2) := fun w' => refFlags_any k w'
  have HBx : Hid (∀ wx w', Below w.heap.size w wx → Chg (fun k => k = w.heap.size ∨ k = w.heap.size + 1) wx w' → Below w.heap.size w w') := fun wx w' h1 h2 => h1.trans (h2.below (fun k e => by omega) h1.size)
  have HBa := Lib.hid hrd.bel
  refine wp_seq_k (x := left (right (right (right (right (right (right (right (right (right (right (right (right (right (inner (right (inner (inner (right (left (right (right (right (right (bodyOf Try.f37))))))))))))))))))))))))) (y := right (right (right (right (right (right (right (right (right (right (right (right (right (right (inner (right (inner (inner (right (left (right (right (right (right (bodyOf Try.f37))))))))))))))))))))))))) fun K hK => ?_
  have HK := Lib.hid hK
  clear hQ hR hK hks
  by_cases hu : 1 ≤ k ∧ k ≤ 8
  · have hk1 : decide ((k : Int) < 1) = false := by rw [decide_eq_false_iff_not]; omega
    have hk8 : decide ((8 : Int) < (k : Int)) = false := by rw [decide_eq_false_iff_not]; omega
    have hofl : own = ownF f k := by
      rw [hown]
      unfold ownF
      by_cases h7 : 7 ≤ k
      · rw [if_pos h7, if_pos (by omega)]
      · rw [if_neg h7, if_neg (by omega)]
    have hfb : ((own : Int) == flg (k : Int)) = flaggedB f k := by
      rw [hofl]
      unfold flaggedB
      rw [Bool.eq_iff_iff, beq_iff_eq, decide_eq_true_iff]
    have HLg : Hid (∀ w', Calls Try.prog 72 #[.int .i64 (k : Int), .int .i64 (v.length : Int)] w' fun e w2 => e = .returned (.bool (longB k v.length)) ∧ Below w'.heap.size w' w2) := fun w' => refLong_any k v.length w' hu.1 hu.2
    obtain ⟨Ap, cp, Ac, cc, hbk, ham⟩ := hrd.at_
    have HLy : Hid (∀ w', longB k v.length = true → Below wa.heap.size wa w' → Calls Try.prog 73 #[.pointer (some ⟨w.heap.size + 2, 0, none⟩), .int .i64 (k : Int), .slice vA v.length vc] w' (RetLy (w.heap.size + 2) (layS a k v).1 (layS a k v).2 (fun j => w.heap.size + 5 < j ∧ j < w'.heap.size) w')) := fun w' h hb => refLay_any vc (w.heap.size + 2) k vA a Ap Ac cp cc _ w' v hu.1 hu.2 h hl (hbk.below hb hbk.lt) ((ham.bel hb).mono fun j hj h => ⟨h, hj⟩) (fun j hj => ⟨hj.2, by omega⟩) (hv.bel hb)
    have HHs := Lib.hid (layS_has a k v)
    have HBo := Lib.hid (fun h => hrd.bits.next HKs.out (f := f) (v := v) h)
    have hh := hrd.bits.1
    clear hbk ham hv hrd
    cases hfl : flaggedB f k
    · have e : wrongS a f k v = (a, 4) := by unfold wrongS; rw [if_pos hu, hfl, if_pos rfl]
      rw [e] at HQ HR
      rw [hfl] at hfb
      have d1 : ((own : Int) != flg (k : Int)) = true := by rw [bne, hfb]; rfl
      clear e hfl hofl hown hfb
      generalize flg (k : Int) = fk at *
      generalize (own : Int) = ow at *
      simp only [left, right, inner, yes, no, bodyOf, Try.f37]
      go_wp2_with (go_at_call 71; refine (HFl.out _).mono ?_; rintro e w2 ⟨rfl, h1⟩; have HB2 := Lib.hid (HBa.out.trans (h1.mono HBa.out.size)); have HY0 := Lib.hid (HZ0.out.below h1 HZ0.out.lt); have HY1 := Lib.hid (HZ1.out.below h1 HZ1.out.lt); have HY3 := Lib.hid (HZ3.out.below h1 HZ3.out.lt); clear h1)
      refine HK.out _ _ (end14 (w := w) (s := 4) Q HY0.out HY1.out HY3.out _ _ _ _ _ _ _ _ _ _ _ _ _ _ _ _ _ _ _ _ _ _ _ _ _ _ _ _ _ _ _ _ _ _ _ _ _ _ _ _ _ _ _ _ _ _ _ _ _ _ _ _ _ _ _ _ _ _ _ _ _ _ _ _ _ _ _ _ _ _ _ _ _ _ _ _ _ _ _ _ _ _ _ _ _ _ _ _ _ _ _ _ _ _ _ _ _ _ _ _ _ _ _ _ _ _ _ _ _ _ _ _ _ _ _ _ _ _ _ _ _ _ _ _ _ _ _ _ _ _ _ _ _ _ _ _ _ _ _ _ _ _ _ _ _ _ _ _ _ _ (fun hs => ?_) (fun hs => ?_))
      · exact absurd hs (by decide)
      · intro v146 v147 v148 v149 v150 v151 v152 v153 v154 v155 w' k0 k1 k2
        exact HR.out (by decide) _ _ _ _ _ _ _ _ _ _ _ _ _ _ _ _ _ _ _ _ _ _ _ _ _ _ _ _ _ _ _ _ _ _ _ _ _ _ k0 k1 (HBx.out _ _ HB2.out k2)
    · have d1 : ((own : Int) != flg (k : Int)) = false := by rw [bne, hfb, hfl]; rfl
      cases hlg : longB k v.length
      · have e : wrongS a f k v = (a, 5) := by unfold wrongS; rw [if_pos hu, hfl, if_neg (by decide), hlg, if_pos rfl]
        rw [e] at HQ HR
        rw [hlg] at HLg
        clear e hfl hofl hown hfb hlg
        generalize flg (k : Int) = fk at *
        generalize (own : Int) = ow at *
        simp only [left, right, inner, yes, no, bodyOf, Try.f37]
        go_wp2_with (first
          | (go_at_call 71; refine (HFl.out _).mono ?_; rintro e w2 ⟨rfl, h1⟩; have HB2 := Lib.hid (HBa.out.trans (h1.mono HBa.out.size)); have HX0 := Lib.hid (HZ0.out.below h1 HZ0.out.lt); have HX1 := Lib.hid (HZ1.out.below h1 HZ1.out.lt); have HX3 := Lib.hid (HZ3.out.below h1 HZ3.out.lt); clear h1)
          | (go_at_call 72; refine (HLg.out _).mono ?_; rintro e w3 ⟨rfl, h1⟩; have HB3 := Lib.hid (HB2.out.trans (h1.mono HB2.out.size)); have HY0 := Lib.hid (HX0.out.below h1 HX0.out.lt); have HY1 := Lib.hid (HX1.out.below h1 HX1.out.lt); have HY3 := Lib.hid (HX3.out.below h1 HX3.out.lt); clear h1))
        refine HK.out _ _ (end14 (w := w) (s := 5) Q HY0.out HY1.out HY3.out _ _ _ _ _ _ _ _ _ _ _ _ _ _ _ _ _ _ _ _ _ _ _ _ _ _ _ _ _ _ _ _ _ _ _ _ _ _ _ _ _ _ _ _ _ _ _ _ _ _ _ _ _ _ _ _ _ _ _ _ _ _ _ _ _ _ _ _ _ _ _ _ _ _ _ _ _ _ _ _ _ _ _ _ _ _ _ _ _ _ _ _ _ _ _ _ _ _ _ _ _ _ _ _ _ _ _ _ _ _ _ _ _ _ _ _ _ _ _ _ _ _ _ _ _ _ _ _ _ _ _ _ _ _ _ _ _ _ _ _ _ _ _ _ _ _ _ _ _ _ (fun hs => ?_) (fun hs => ?_))
        · exact absurd hs (by decide)
        · intro v146 v147 v148 v149 v150 v151 v152 v153 v154 v155 w' k0 k1 k2
          exact HR.out (by decide) _ _ _ _ _ _ _ _ _ _ _ _ _ _ _ _ _ _ _ _ _ _ _ _ _ _ _ _ _ _ _ _ _ _ _ _ _ _ k0 k1 (HBx.out _ _ HB3.out k2)
      · have e : (wrongS a f k v).2 = (layS a k v).2 ∧ ((layS a k v).2 = 0 → (wrongS a f k v).1 = { (layS a k v).1 with has := a.has + 2 ^ k }) := by
          unfold wrongS
          rw [if_pos hu, hfl, if_neg (by decide), hlg, if_neg (by decide)]
          split
          · rename_i h; exact ⟨rfl, fun h2 => absurd h2 h⟩
          · rename_i h; exact ⟨(Classical.not_not.1 h).symm, fun _ => rfl⟩
        have HE2 := Lib.hid e.2
        have HLx := Lib.hid (fun w' hb => HLy.out w' hlg hb)
        rw [hlg] at HLg
        rw [e.1] at HQ HR HBo
        have HPw : Hid ((2 : Int) ^ k ≤ 256 ∧ (0 : Int) < 2 ^ k) := by
          have : ∀ k : Fin 9, (2 : Int) ^ k.val ≤ 256 ∧ (0 : Int) < 2 ^ k.val := by decide +kernel
          exact this ⟨k, by omega⟩
        have HSv : Hid (Value.int .i64 (wrap64 (a.has + wrap64 (2 ^ k))) = .int .i64 (a.has + 2 ^ k)) := by
          have ew : wrap64 ((2 : Int) ^ k) = 2 ^ k := by
            have : ∀ k : Fin 9, wrap64 ((2 : Int) ^ k.val) = 2 ^ k.val := by decide +kernel
            exact this ⟨k, by omega⟩
          obtain ⟨hp1, hp0⟩ := HPw.out
          have e2 : wrap64 (a.has + 2 ^ k) = a.has + 2 ^ k := by unfold wrap64; omega
          rw [Hid, ew, e2]
        have HWf : Hid ((Lit.int .i64 (a.has + 2 ^ k)).wf = true) := by
          obtain ⟨hp1, hp0⟩ := HPw.out
          exact wf_small (by omega) (by omega)
        generalize layS a k v = ly at *
        clear e hfl hofl hown hfb hlg HLy HPw
        generalize flg (k : Int) = fk at *
        generalize (own : Int) = ow at *
        simp only [left, right, inner, yes, no, bodyOf, Try.f37]
        go_wp2_with (first
          | (go_at_call 71; refine (HFl.out _).mono ?_; rintro e w2 ⟨rfl, h1⟩; have HB2 := Lib.hid h1; clear h1)
          | (go_at_call 72; refine (HLg.out _).mono ?_; rintro e w3 ⟨rfl, h1⟩; have HB3 := Lib.hid (HB2.out.trans (h1.mono HB2.out.size)); have HLz := Lib.hid (HLx.out w3 HB3.out); clear h1)
          | (go_at_call 73; refine HLz.out.mono ?_; rintro e w4 ⟨rfl, Ax, cx, Ay, cy, h2⟩; have HL4 := Lib.hid h2; have q0 := (h2.bk.cell 0).trans (show _ = some (Value.int .i64 ly.1.has) from rfl); rw [HHs.out] at q0; have qf := h2.bk.free 0; have ql := h2.bk.lt; clear h2))
        have HD4 := Lib.hid (HRD.out.go HB3.out)
        have hch : Chg (fun j => j = w.heap.size + 2) w3 (w4.setCell ⟨w.heap.size + 2, 0, none⟩ (.int .i64 (a.has + 2 ^ k))) := HL4.out.ch.trans ((Chg.refl (fun j => j = w.heap.size + 2) w4).put (p := ⟨w.heap.size + 2, 0, none⟩) (.inl rfl) _) fun _ _ e => e
        have HC4 := Lib.hid hch
        have HY0 := Lib.hid (HD4.out.z0.chg hch (by omega))
        have HY1 := Lib.hid (HD4.out.z1.chg hch (by omega))
        have HY3 := Lib.hid (HD4.out.z3.chg hch (by omega))
        have HB4 := Lib.hid (HD4.out.bel.trans (hch.below (fun j e => by omega) HD4.out.bel.size))
        clear hch q0 qf ql
        rw [HSv.out]
        refine HK.out _ _ (end14 (w := w) (s := ly.2) Q HY0.out HY1.out HY3.out _ _ _ _ _ _ _ _ _ _ _ _ _ _ _ _ _ _ _ _ _ _ _ _ _ _ _ _ _ _ _ _ _ _ _ _ _ _ _ _ _ _ _ _ _ _ _ _ _ _ _ _ _ _ _ _ _ _ _ _ _ _ _ _ _ _ _ _ _ _ _ _ _ _ _ _ _ _ _ _ _ _ _ _ _ _ _ _ _ _ _ _ _ _ _ _ _ _ _ _ _ _ _ _ _ _ _ _ _ _ _ _ _ _ _ _ _ _ _ _ _ _ _ _ _ _ _ _ _ _ _ _ _ _ _ _ _ _ _ _ _ _ _ _ _ _ _ _ _ _ (fun hs => ?_) (fun hs => ?_))
        · intro v146 v147 v148 v149 v150 v151 v152 v153 v154 v155
          have hw4 := HL4.out.am.wf
          have e2 := HE2.out hs
          refine HQ.out hs _ _ _ _ _ _ _ _ _ _ _ _ _ _ _ _ _ _ _ _ _ _ _ _ _ _ _ _ _ _ _ _ _ _ _ _ _ _ ?_
          rw [e2]
          exact HD4.out.step (HL4.out.wide (fun j hj => hj.1) (by omega)) rfl ⟨HWf.out, hw4.orig, hw4.hop, hw4.med, hw4.pref, hw4.aas, hw4.aid⟩ rfl rfl (e2 ▸ HBo.out hs)
        · intro v146 v147 v148 v149 v150 v151 v152 v153 v154 v155 w' k0 k1 k2
          exact HR.out hs _ _ _ _ _ _ _ _ _ _ _ _ _ _ _ _ _ _ _ _ _ _ _ _ _ _ _ _ _ _ _ _ _ _ _ _ _ _ k0 k1 (HBx.out _ _ HB4.out k2)
  · have hw : k < 1 ∨ (¬ k < 1 ∧ 8 < k) := by omega
    have ew : wrongS a f k v = if f < 128 then (a, 2) else (a, 0) := by unfold wrongS; rw [if_neg hu]
    clear hrd hv hown hl HFl
    generalize (own : Int) = ow at *
    by_cases h128 : f < 128
    · rw [if_pos h128] at ew
      rw [ew] at HQ HR
      have d1 : decide ((f : Int) < 128) = true := by rw [decide_eq_true_iff]; omega
      clear ew hu
      rcases hw with h | ⟨h, h2⟩
      · have hk1 : decide ((k : Int) < 1) = true := by rw [decide_eq_true_iff]; omega
        simp only [left, right, inner, yes, no, bodyOf, Try.f37]
        go_wp2_with fail
        refine HK.out _ _ (end14 (w := w) (s := 2) Q HZ0.out HZ1.out HZ3.out _ _ _ _ _ _ _ _ _ _ _ _ _ _ _ _ _ _ _ _ _ _ _ _ _ _ _ _ _ _ _ _ _ _ _ _ _ _ _ _ _ _ _ _ _ _ _ _ _ _ _ _ _ _ _ _ _ _ _ _ _ _ _ _ _ _ _ _ _ _ _ _ _ _ _ _ _ _ _ _ _ _ _ _ _ _ _ _ _ _ _ _ _ _ _ _ _ _ _ _ _ _ _ _ _ _ _ _ _ _ _ _ _ _ _ _ _ _ _ _ _ _ _ _ _ _ _ _ _ _ _ _ _ _ _ _ _ _ _ _ _ _ _ _ _ _ _ _ _ _ (fun hs => ?_) (fun hs => ?_))
        · exact absurd hs (by decide)
        · intro v146 v147 v148 v149 v150 v151 v152 v153 v154 v155 w' k0 k1 k2
          exact HR.out (by decide) _ _ _ _ _ _ _ _ _ _ _ _ _ _ _ _ _ _ _ _ _ _ _ _ _ _ _ _ _ _ _ _ _ _ _ _ _ _ k0 k1 (HBx.out _ _ HBa.out k2)
      · have hk1 : decide ((k : Int) < 1) = false := by rw [decide_eq_false_iff_not]; omega
        have hk8 : decide ((8 : Int) < (k : Int)) = true := by rw [decide_eq_true_iff]; omega
        simp only [left, right, inner, yes, no, bodyOf, Try.f37]
        go_wp2_with fail
        refine HK.out _ _ (end14 (w := w) (s := 2) Q HZ0.out HZ1.out HZ3.out _ _ _ _ _ _ _ _ _ _ _ _ _ _ _ _ _ _ _ _ _ _ _ _ _ _ _ _ _ _ _ _ _ _ _ _ _ _ _ _ _ _ _ _ _ _ _ _ _ _ _ _ _ _ _ _ _ _ _ _ _ _ _ _ _ _ _ _ _ _ _ _ _ _ _ _ _ _ _ _ _ _ _ _ _ _ _ _ _ _ _ _ _ _ _ _ _ _ _ _ _ _ _ _ _ _ _ _ _ _ _ _ _ _ _ _ _ _ _ _ _ _ _ _ _ _ _ _ _ _ _ _ _ _ _ _ _ _ _ _ _ _ _ _ _ _ _ _ _ _ (fun hs => ?_) (fun hs => ?_))
        · exact absurd hs (by decide)
        · intro v146 v147 v148 v149 v150 v151 v152 v153 v154 v155 w' k0 k1 k2
          exact HR.out (by decide) _ _ _ _ _ _ _ _ _ _ _ _ _ _ _ _ _ _ _ _ _ _ _ _ _ _ _ _ _ _ _ _ _ _ _ _ _ _ k0 k1 (HBx.out _ _ HBa.out k2)
    · rw [if_neg h128] at ew
      have HBo := Lib.hid (HRD.out.bits.next HKs.out (f := f) (v := v) (by rw [ew]))
      rw [ew] at HQ HR HBo
      have d1 : decide ((f : Int) < 128) = false := by rw [decide_eq_false_iff_not]; omega
      clear ew hu
      have HD2 : Hid (RD w (k :: seen) ms a wa) := ⟨HRD.out.z0, HRD.out.z1, HRD.out.at_, HRD.out.z3, HRD.out.z4, HRD.out.sn, HRD.out.bel, HBo.out⟩
      rcases hw with h | ⟨h, h2⟩
      · have hk1 : decide ((k : Int) < 1) = true := by rw [decide_eq_true_iff]; omega
        simp only [left, right, inner, yes, no, bodyOf, Try.f37]
        go_wp2_with fail
        refine HK.out _ _ (end14 (w := w) (s := 0) Q HZ0.out HZ1.out HZ3.out _ _ _ _ _ _ _ _ _ _ _ _ _ _ _ _ _ _ _ _ _ _ _ _ _ _ _ _ _ _ _ _ _ _ _ _ _ _ _ _ _ _ _ _ _ _ _ _ _ _ _ _ _ _ _ _ _ _ _ _ _ _ _ _ _ _ _ _ _ _ _ _ _ _ _ _ _ _ _ _ _ _ _ _ _ _ _ _ _ _ _ _ _ _ _ _ _ _ _ _ _ _ _ _ _ _ _ _ _ _ _ _ _ _ _ _ _ _ _ _ _ _ _ _ _ _ _ _ _ _ _ _ _ _ _ _ _ _ _ _ _ _ _ _ _ _ _ _ _ _ (fun hs => ?_) (fun hs => ?_))
        · intro v146 v147 v148 v149 v150 v151 v152 v153 v154 v155
          exact HQ.out (by first | trivial | rfl) _ _ _ _ _ _ _ _ _ _ _ _ _ _ _ _ _ _ _ _ _ _ _ _ _ _ _ _ _ _ _ _ _ _ _ _ _ _ HD2.out
        · exact absurd rfl hs
      · have hk1 : decide ((k : Int) < 1) = false := by rw [decide_eq_false_iff_not]; omega
        have hk8 : decide ((8 : Int) < (k : Int)) = true := by rw [decide_eq_true_iff]; omega
        simp only [left, right, inner, yes, no, bodyOf, Try.f37]
        go_wp2_with fail
        refine HK.out _ _ (end14 (w := w) (s := 0) Q HZ0.out HZ1.out HZ3.out _ _ _ _ _ _ _ _ _ _ _ _ _ _ _ _ _ _ _ _ _ _ _ _ _ _ _ _ _ _ _ _ _ _ _ _ _ _ _ _ _ _ _ _ _ _ _ _ _ _ _ _ _ _ _ _ _ _ _ _ _ _ _ _ _ _ _ _ _ _ _ _ _ _ _ _ _ _ _ _ _ _ _ _ _ _ _ _ _ _ _ _ _ _ _ _ _ _ _ _ _ _ _ _ _ _ _ _ _ _ _ _ _ _ _ _ _ _ _ _ _ _ _ _ _ _ _ _ _ _ _ _ _ _ _ _ _ _ _ _ _ _ _ _ _ _ _ _ _ _ (fun hs => ?_) (fun hs => ?_))
        · intro v146 v147 v148 v149 v150 v151 v152 v153 v154 v155
          exact HQ.out (by first | trivial | rfl) _ _ _ _ _ _ _ _ _ _ _ _ _ _ _ _ _ _ _ _ _ _ _ _ _ _ _ _ _ _ _ _ _ _ _ _ _ _ HD2.out
        · exact absurd rfl hs
end Go.Proofs.Ytafepficapdepaa.attr
