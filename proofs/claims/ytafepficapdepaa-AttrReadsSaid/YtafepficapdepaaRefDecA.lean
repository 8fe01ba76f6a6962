/- The memory within confluenceref08.Decode; the end of its round. Conditions as each lemma states. Printed by gen_refdec8.py. -/
import Derived.Test.YtafepficapdepaaRefLay8
import Derived.Test.YtafepficapdepaaRefNorm8
import Derived.Test.YtafepficapdepaaAttrDecode
import Derived.Test.YtafepficapdepaaCode
namespace Go.Proofs.Ytafepficapdepaa.attr
open Go.RowKit Go.Proofs.Ytafepficapdepaa.kit Go.Proofs.Ytafepficapdepaa.mem Go.Proofs.Ytafepficapdepaa.foot Go.Proofs.Ytafepficapdepaa.nums Go.Proofs.Ytafepficapdepaa.asn Go.Proofs.Ytafepficapdepaa.pth Go.Proofs.Ytafepficapdepaa.octet Go.Proofs.Ytafepficapdepaa.code
set_option linter.unusedVariables false
set_option linter.unusedSimpArgs false
/-- the memory within the loop -/
structure RD (w : World) (seen ms : List Nat) (a : Atr) (wr : World) : Prop where
  z0 : Bk wr w.heap.size 76 zeroC.toArray
  z1 : Bk wr (w.heap.size + 1) 34 #[.int .i64 0, .int .i64 0, .slice none 0 0]
  at_ : ∃ Ap cp Ac cc, Bk wr (w.heap.size + 2) 76 (atc a Ap cp Ac cc).toArray ∧ Am wr (fun k => w.heap.size + 5 < k) a Ap cp Ac cc
  z3 : Bk wr (w.heap.size + 3) 76 zeroC.toArray
  z4 : Bk wr (w.heap.size + 4) 34 #[.int .i64 3, .int .i64 1, .slice none 0 0]
  sn : ∃ cs : Array Value, Bk wr (w.heap.size + 5) 129 cs ∧ cs.size = 256 ∧ ∀ k, k < 256 → cs[k]? = some (.bool (decide (k ∈ ms)))
  bel : Below w.heap.size w wr
  bits : BitsOk seen a
section
variable {w wr w' : World} {seen ms : List Nat} {a : Atr}
theorem RD.go (h : RD w seen ms a wr) (hb : Below wr.heap.size wr w') : RD w seen ms a w' := by
  obtain ⟨Ap, cp, Ac, cc, k1, k2⟩ := h.at_
  obtain ⟨cs, s1, s2, s3⟩ := h.sn
  exact ⟨h.z0.below hb h.z0.lt, h.z1.below hb h.z1.lt, ⟨Ap, cp, Ac, cc, k1.below hb k1.lt, k2.bel hb⟩, h.z3.below hb h.z3.lt, h.z4.below hb h.z4.lt, ⟨cs, s1.below hb s1.lt, s2, s3⟩, h.bel.trans (hb.mono h.bel.size), h.bits⟩
/-- a type marked as seen -/
theorem RD.mark (h : RD w seen ms a wr) {k : Nat} (hk : k < 256) : RD w seen (k :: ms) a (wr.setCell ⟨w.heap.size + 5, k, none⟩ (.bool true)) := by
  obtain ⟨Ap, cp, Ac, cc, k1, k2⟩ := h.at_
  obtain ⟨cs, s1, s2, s3⟩ := h.sn
  have hc : Chg (fun j => j = w.heap.size + 5) wr (wr.setCell ⟨w.heap.size + 5, k, none⟩ (.bool true)) := (Chg.refl (fun j => j = w.heap.size + 5) wr).put (p := ⟨w.heap.size + 5, k, none⟩) (.inl rfl) _
  refine ⟨h.z0.chg hc (by omega), h.z1.chg hc (by omega), ⟨Ap, cp, Ac, cc, k1.chg hc (by omega), k2.chg hc fun k _ hk e => by omega⟩, h.z3.chg hc (by omega), h.z4.chg hc (by omega), ⟨cs.setIfInBounds k (.bool true), s1.put k _, by simp [s2], fun j hj => ?_⟩, h.bel.trans (hc.below (fun k e => by omega) h.bel.size), h.bits⟩
  rw [Array.getElem?_setIfInBounds]
  by_cases e : k = j
  · subst e
    rw [if_pos rfl, if_pos (by omega)]
    simp
  · rw [if_neg e, s3 j hj]
    have : (j ∈ k :: ms) ↔ (j ∈ ms) := by
      rw [List.mem_cons]
      constructor
      · rintro (h | h)
        · exact absurd h.symm e
        · exact h
      · exact .inr
    simp only [this]
/-- an attribute laid among the others -/
theorem RD.step {Ap Ac : Option Addr} {cp cc : Nat} {a' a2 : Atr} (h : RD w seen ms a wr) (hl : LR wr (w.heap.size + 2) a' Ap cp Ac cc (fun k => w.heap.size + 5 < k) w') {v : Value} {seen2 : List Nat}
    (hp : (atc a' Ap cp Ac cc).toArray.setIfInBounds 0 v = (atc a2 Ap cp Ac cc).toArray) (hw : Awf a2) (h1 : a2.path = a'.path) (h2 : a2.comms = a'.comms) (hb : BitsOk seen2 a2) : RD w seen2 ms a2 (w'.setCell ⟨w.heap.size + 2, 0, none⟩ v) := by
  obtain ⟨cs, s1, s2, s3⟩ := h.sn
  have hl2 := hl.put 0 v hp (am_set hl.am hw h1 h2)
  have hc := hl2.ch
  have hlt := s1.lt
  exact ⟨h.z0.chg hc (by omega), h.z1.chg hc (by omega), ⟨Ap, cp, Ac, cc, hl2.bk, hl2.am.mono fun k _ hk => by omega⟩, h.z3.chg hc (by omega), h.z4.chg hc (by omega), ⟨cs, s1.chg hc (by omega), s2, s3⟩, h.bel.trans (hc.below (fun k e => by omega) h.bel.size), hb⟩
end
/-- .. seen with fewer bounds -/
theorem LR.wide {w wr : World} {g cp cc : Nat} {a : Atr} {Ap Ac : Option Addr} {G H : Foot} (h : LR w g a Ap cp Ac cc G wr) (hG : ∀ j, G j → H j) (hg : ¬ H g) : LR w g a Ap cp Ac cc H wr := ⟨h.bk, h.am.mono fun j _ hj => hj.imp (hG j) id, h.ch, h.gl, hg⟩
theorem yields_load {P : Program} {ops : Array Oper} {S : World → Prop} {o : Oper} {a : Act} (hgd : o.guard = none) (ty : TypeId) (x : Operand) (ho : o.op = .load ty x) (g : Nat) (hx : a.eval x = .pointer (some ⟨g, 0, none⟩)) (t : TypeId) (cs : Array Value) (d : TypeDesc)
    (hu : P.underlying ty = some d) (hd : (match d with | .struct _ | .array _ _ => true | _ => false) = true) (hi : (P.info? ty).map (·.size) = some cs.size) (hS : ∀ w, S w → Bk w g t cs) : YieldsIf P ops S o (.agg cs) a :=
  Or.inl ⟨by simp [Region.wanted, hgd], fun w hw => by
    unfold execOp
    simp only [ho, hx, Instr.loadAt, Instr.sureAddr, Sem.run_bind, Sem.run_pure, Result.andThen_ok, run_loadVar_row w g t ty cs (0, 0) d (hS w hw) hu hd hi]⟩
/-- a whole block written, at a step -/
theorem step_store {P : Program} {ops : Array Oper} {o : Oper} {a : Act} {w : World} {K : Act → World → Prop} {Q : Exit → Act → World → Prop} {E : Prop} (hgd : o.guard = none) (ty : TypeId) (x y : Operand) (ho : o.op = .store ty x y)
    (g : Nat) (hx : a.eval x = .pointer (some ⟨g, 0, none⟩)) (cs : Array Value) (hy : a.eval y = .agg cs) (t : TypeId) (old : Array Value) (hg : Bk w g t old)
    (hi : (P.info? ty).map (·.size) = some cs.size) (hold : old.size = cs.size) (h1 : cs.toList.all (·.oneCell') = true)
    (h : ∀ w', Bk w' g t cs → Chg (fun k => k = g) w w' → w'.heap.size = w.heap.size → K (a.put o.dst undef) w') : if Region.wanted o (yielded ops a.tmps) = true then Oper.wp P o a w K Q else E := by
  have hw : Region.wanted o (yielded ops a.tmps) = true := by simp [Region.wanted, hgd]
  rw [if_pos hw]
  exact wp_store_row ty x y ho g cs hx hy t old hg hi hold (by rw [← Array.all_toList]; exact h1) (h _ (bk_row hg cs) (chg_row w g cs) (by simp))
/-- what is told -/
def ntc (s : Nat) (A : Option Addr) (n c : Nat) : Array Value := if s = 11 then #[.int .i64 3, .int .i64 11, .slice none 0 0] else #[.int .i64 3, .int .i64 (s : Int), .slice A n c]
set_option maxRecDepth 100000 in
set_option maxHeartbeats 4000000 in
theorem end14 {w wa : World} {s L bc al ac : Nat} {bA aA : Option Addr} (Q : Exit → Act → World → Prop) (h0 : Bk wa w.heap.size 76 zeroC.toArray) (h1 : Bk wa (w.heap.size + 1) 34 #[.int .i64 0, .int .i64 0, .slice none 0 0]) (h3 : Bk wa (w.heap.size + 3) 76 zeroC.toArray) (u1 u8 u9 u10 u11 u12 u13 u15 u17 u18 u19 u20 u21 u22 u23 u24 u25 u26 u27 u28 u29 u30 u31 u32 u33 u34 u35 u36 u37 u38 u39 u40 u41 u42 u43 u44 u45 u46 u47 u48 u49 u50 u51 u52 u53 u54 u55 u56 u57 u58 u59 u60 u61 u62 u63 u64 u65 u66 u67 u68 u69 u70 u71 u72 u73 u74 u75 u76 u77 u78 u79 u80 u81 u82 u83 u84 u85 u86 u87 u88 u89 u90 u91 u92 u93 u94 u95 u96 u97 u98 u99 u100 u101 u102 u103 u104 u105 u106 u107 u108 u109 u110 u111 u112 u113 u114 u115 u116 u117 u118 u119 u120 u121 u122 u123 u124 u125 u126 u127 u128 u129 u130 u131 u132 u133 u134 u135 u136 u137 u138 u139 u140 u141 u142 u143 u144 u145 u146 u147 u148 u149 u150 u151 u152 u153 u154 u155 u156 u157 u158 : Value)
    (hQ : s = 0 → ∀ (v146 v147 v148 v149 v150 v151 v152 v153 v154 v155 : Value), Q .normal { tmps := #[.slice bA L bc, u1, .pointer (some ⟨w.heap.size, 0, none⟩), .pointer (some ⟨w.heap.size + 1, 0, none⟩), .pointer (some ⟨w.heap.size + 2, 0, none⟩), .pointer (some ⟨w.heap.size + 3, 0, none⟩), .pointer (some ⟨w.heap.size + 4, 0, none⟩), .pointer (some ⟨w.heap.size + 5, 0, none⟩), u8, u9, u10, u11, u12, u13, .slice aA al ac, u15, .int .i64 (s : Int), u17, u18, u19, u20, u21, u22, u23, u24, u25, u26, u27, u28, u29, u30, u31, u32, u33, u34, u35, u36, u37, u38, u39, u40, u41, u42, u43, u44, u45, u46, u47, u48, u49, u50, u51, u52, u53, u54, u55, u56, u57, u58, u59, u60, u61, u62, u63, u64, u65, u66, u67, u68, u69, u70, u71, u72, u73, u74, u75, u76, u77, u78, u79, u80, u81, u82, u83, u84, u85, u86, u87, u88, u89, u90, u91, u92, u93, u94, u95, u96, u97, u98, u99, u100, u101, u102, u103, u104, u105, u106, u107, u108, u109, u110, u111, u112, u113, u114, u115, u116, u117, u118, u119, u120, u121, u122, u123, u124, u125, u126, u127, u128, u129, u130, u131, u132, u133, u134, u135, u136, u137, u138, u139, u140, u141, u142, u143, u144, u145, v146, v147, v148, v149, v150, v151, v152, v153, v154, v155, u156, u157, u158], defers := [] } wa)
    (hR : s ≠ 0 → ∀ (v146 v147 v148 v149 v150 v151 v152 v153 v154 v155 : Value) (w' : World), Bk w' w.heap.size 76 zeroC.toArray → Bk w' (w.heap.size + 1) 34 (ntc s aA al ac) → Chg (fun k => k = w.heap.size ∨ k = w.heap.size + 1) wa w' → Q .ret { tmps := #[.slice bA L bc, u1, .pointer (some ⟨w.heap.size, 0, none⟩), .pointer (some ⟨w.heap.size + 1, 0, none⟩), .pointer (some ⟨w.heap.size + 2, 0, none⟩), .pointer (some ⟨w.heap.size + 3, 0, none⟩), .pointer (some ⟨w.heap.size + 4, 0, none⟩), .pointer (some ⟨w.heap.size + 5, 0, none⟩), u8, u9, u10, u11, u12, u13, .slice aA al ac, u15, .int .i64 (s : Int), u17, u18, u19, u20, u21, u22, u23, u24, u25, u26, u27, u28, u29, u30, u31, u32, u33, u34, u35, u36, u37, u38, u39, u40, u41, u42, u43, u44, u45, u46, u47, u48, u49, u50, u51, u52, u53, u54, u55, u56, u57, u58, u59, u60, u61, u62, u63, u64, u65, u66, u67, u68, u69, u70, u71, u72, u73, u74, u75, u76, u77, u78, u79, u80, u81, u82, u83, u84, u85, u86, u87, u88, u89, u90, u91, u92, u93, u94, u95, u96, u97, u98, u99, u100, u101, u102, u103, u104, u105, u106, u107, u108, u109, u110, u111, u112, u113, u114, u115, u116, u117, u118, u119, u120, u121, u122, u123, u124, u125, u126, u127, u128, u129, u130, u131, u132, u133, u134, u135, u136, u137, u138, u139, u140, u141, u142, u143, u144, u145, v146, v147, v148, v149, v150, v151, v152, v153, v154, v155, u156, u157, u158], defers := [] } w') :
    Code.wp Try.prog (right (right (right (right (right (right (right (right (right (right (right (right (right (right (inner (right (inner (inner (right (left (right (right (right (right (bodyOf Try.f37))))))))))))))))))))))))) Q { tmps := #[.slice bA L bc, u1, .pointer (some ⟨w.heap.size, 0, none⟩), .pointer (some ⟨w.heap.size + 1, 0, none⟩), .pointer (some ⟨w.heap.size + 2, 0, none⟩), .pointer (some ⟨w.heap.size + 3, 0, none⟩), .pointer (some ⟨w.heap.size + 4, 0, none⟩), .pointer (some ⟨w.heap.size + 5, 0, none⟩), u8, u9, u10, u11, u12, u13, .slice aA al ac, u15, .int .i64 (s : Int), u17, u18, u19, u20, u21, u22, u23, u24, u25, u26, u27, u28, u29, u30, u31, u32, u33, u34, u35, u36, u37, u38, u39, u40, u41, u42, u43, u44, u45, u46, u47, u48, u49, u50, u51, u52, u53, u54, u55, u56, u57, u58, u59, u60, u61, u62, u63, u64, u65, u66, u67, u68, u69, u70, u71, u72, u73, u74, u75, u76, u77, u78, u79, u80, u81, u82, u83, u84, u85, u86, u87, u88, u89, u90, u91, u92, u93, u94, u95, u96, u97, u98, u99, u100, u101, u102, u103, u104, u105, u106, u107, u108, u109, u110, u111, u112, u113, u114, u115, u116, u117, u118, u119, u120, u121, u122, u123, u124, u125, u126, u127, u128, u129, u130, u131, u132, u133, u134, u135, u136, u137, u138, u139, u140, u141, u142, u143, u144, u145, u146, u147, u148, u149, u150, u151, u152, u153, u154, u155, u156, u157, u158], defers := [] } wa := by
  have HSz : Hid ((Try.prog.info? 76).map (·.size) = some 9) := info_atr
  have HSn : Hid ((Try.prog.info? 34).map (·.size) = some 3) := info_ntc
  have H0 := Lib.hid h0
  have H1 := Lib.hid h1
  have H3 := Lib.hid h3
  clear h0 h1 h3
  rcases Nat.eq_zero_or_pos s with hs | hs
  · have HQ := Lib.hid (hQ hs)
    clear hQ hR
    subst hs
    simp only [left, right, inner, yes, no, bodyOf, Try.f37]
    go_wp2_with fail
    exact HQ.out _ _ _ _ _ _ _ _ _ _
  · have HR := Lib.hid (hR (by omega))
    clear hQ hR
    by_cases h11 : s = 11
    · subst h11
      simp only [left, right, inner, yes, no, bodyOf, Try.f37]
      go_wp2_with (first
      | (refine wpList_loadBk rfl 76 (.tmp 5) rfl (w.heap.size + 3) (by rfl) 76 zeroC.toArray _ H3.out Try.underlying76 (by rfl) HSz.out ?_)
      | (refine wpList_storeBk rfl 76 (.tmp 2) (.tmp 148) rfl w.heap.size (by rfl) zeroC.toArray (by rfl) 76 zeroC.toArray H0.out HSz.out rfl (by rfl) ?_; intro w7 h5 h6 h7; have K5 := Lib.hid h5; have K6 := Lib.hid h6; have H1 := Lib.hid (H1.out.chg h6 (by omega)); clear h5 h6 h7)
      | (refine wpList_storeBk rfl 34 (.tmp 3) (.tmp 149) rfl (w.heap.size + 1) (by rfl) #[.int .i64 3, .int .i64 11, .slice none 0 0] (by rfl) 34 #[.int .i64 0, .int .i64 0, .slice none 0 0] H1.out HSn.out rfl (by rfl) ?_; intro w8 h5 h6 h7; have K7 := Lib.hid h5; have K8 := Lib.hid (K6.out.mono (G := fun k => k = w.heap.size ∨ k = w.heap.size + 1) fun k _ e => .inl e); have K9 := Lib.hid (K8.out.trans h6 fun k _ e => .inr e); have K10 := Lib.hid (K5.out.chg h6 (by omega)); clear h5 h6 h7))
      exact HR.out _ _ _ _ _ _ _ _ _ _ _ K10.out K7.out K9.out
    · have e : ntc s aA al ac = #[.int .i64 3, .int .i64 (s : Int), .slice aA al ac] := if_neg h11
      rw [e] at HR
      have d1 : ((s : Int) == 11) = false := by rw [beq_eq_false_iff_ne]; omega
      have d2 : ((s : Int) != 0) = true := by rw [bne_iff_ne]; omega
      have d3 : ((s : Int) == 0) = false := by rw [beq_eq_false_iff_ne]; omega
      clear e h11 hs
      generalize (s : Int) = n at *
      simp only [left, right, inner, yes, no, bodyOf, Try.f37]
      go_wp2_with (first
      | (refine wpList_loadBk rfl 76 (.tmp 5) rfl (w.heap.size + 3) (by rfl) 76 zeroC.toArray _ H3.out Try.underlying76 (by rfl) HSz.out ?_)
      | (refine wpList_storeBk rfl 76 (.tmp 2) (.tmp 152) rfl w.heap.size (by rfl) zeroC.toArray (by rfl) 76 zeroC.toArray H0.out HSz.out rfl (by rfl) ?_; intro w7 h5 h6 h7; have K5 := Lib.hid h5; have K6 := Lib.hid h6; have H1 := Lib.hid (H1.out.chg h6 (by omega)); clear h5 h6 h7)
      | (refine wpList_storeBk rfl 34 (.tmp 3) (.tmp 155) rfl (w.heap.size + 1) (by rfl) #[.int .i64 3, .int .i64 n, .slice aA al ac] (by rfl) 34 #[.int .i64 0, .int .i64 0, .slice none 0 0] H1.out HSn.out rfl (by rfl) ?_; intro w8 h5 h6 h7; have K7 := Lib.hid h5; have K8 := Lib.hid (K6.out.mono (G := fun k => k = w.heap.size ∨ k = w.heap.size + 1) fun k _ e => .inl e); have K9 := Lib.hid (K8.out.trans h6 fun k _ e => .inr e); have K10 := Lib.hid (K5.out.chg h6 (by omega)); clear h5 h6 h7))
      exact HR.out _ _ _ _ _ _ _ _ _ _ _ K10.out K7.out K9.out
end Go.Proofs.Ytafepficapdepaa.attr
