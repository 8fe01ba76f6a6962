/- The memory within confluenceref08.Decode; the end of its round. Conditions as each lemma states. Printed by gen_refdec8.py. Which error is told of an attribute in confluenceref08.Decode. Conditions as the lemma states. Printed by gen_refdec8.py. -/
import Derived.Test.YtaeeeinpelfppaaGreatRefLay8
import Derived.Test.YtaeeeinpelfppaaGreatRefNorm8
import Derived.Test.YtaeeeinpelfppaaGreatAttrDecSz
import Derived.Test.YtaeeeinpelfppaaGreatCode
namespace Go.Proofs.YtaeeeinpelfppaaGreat.attr
open Go.RowKit Go.Proofs.YtaeeeinpelfppaaGreat.kit Go.Proofs.YtaeeeinpelfppaaGreat.mem Go.Proofs.YtaeeeinpelfppaaGreat.foot Go.Proofs.YtaeeeinpelfppaaGreat.nums Go.Proofs.YtaeeeinpelfppaaGreat.asn Go.Proofs.YtaeeeinpelfppaaGreat.pth Go.Proofs.YtaeeeinpelfppaaGreat.octet Go.Proofs.YtaeeeinpelfppaaGreat.code
set_option linter.unusedVariables false
set_option linter.unusedSimpArgs false
/-- the memory within the loop -/
structure RD (w : World) (seen ms : List Nat) (a : Atr) (wr : World) : Prop where
  z0 : Bk wr w.heap.size 29 zeroC.toArray
  z1 : Bk wr (w.heap.size + 1) 33 #[.int .i64 0, .int .i64 0, .slice none 0 0]
  at_ : ∃ Ap cp Ac cc, Bk wr (w.heap.size + 2) 29 (atc a Ap cp Ac cc).toArray ∧ Am wr (fun k => w.heap.size + 5 < k) a Ap cp Ac cc
  z3 : Bk wr (w.heap.size + 3) 29 zeroC.toArray
  z4 : Bk wr (w.heap.size + 4) 33 #[.int .i64 3, .int .i64 1, .slice none 0 0]
  sn : ∃ cs : Array Value, Bk wr (w.heap.size + 5) 88 cs ∧ cs.size = 256 ∧ ∀ k, k < 256 → cs[k]? = some (.bool (decide (k ∈ ms)))
  bel : Below w.heap.size w wr
  bits : BitsOk seen a
section
variable {w wr w' : World} {seen ms : List Nat} {a : Atr}
theorem RD.go (h : RD w seen ms a wr) (hb : Below wr.heap.size wr w') : RD w seen ms a w' := by
  obtain ⟨Ap, cp, Ac, cc, k1, k2⟩ := h.at_
  obtain ⟨cs, s1, s2, s3⟩ := h.sn
  exact ⟨h.z0.below hb h.z0.lt, h.z1.below hb h.z1.lt, ⟨Ap, cp, Ac, cc, k1.below hb k1.lt, k2.bel hb⟩, h.z3.below hb h.z3.lt, h.z4.below hb h.z4.lt, ⟨cs, s1.below hb s1.lt, s2, s3⟩, h.bel.trans (hb.mono h.bel.size), h.bits⟩
/-- a type marked as seen -/
theorem RD.mark (h : RD w seen ms a wr) {k : Nat} (hk : k < 256) : RD w seen (k :: ms) a (wr.setCell ⟨w.heap.size + 5, k, none⟩ (.bool true)) := by
  obtain ⟨Ap, cp, Ac, cc, k1, k2⟩ := h.at_
  obtain ⟨cs, s1, s2, s3⟩ := h.sn
  have hc : Chg (fun j => j = w.heap.size + 5) wr (wr.setCell ⟨w.heap.size + 5, k, none⟩ (.bool true)) := (Chg.refl (fun j => j = w.heap.size + 5) wr).put (p := ⟨w.heap.size + 5, k, none⟩) (.inl rfl) _
  refine ⟨h.z0.chg hc (by omega), h.z1.chg hc (by omega), ⟨Ap, cp, Ac, cc, k1.chg hc (by omega), k2.chg hc fun k _ hk e => by omega⟩, h.z3.chg hc (by omega), h.z4.chg hc (by omega), ⟨cs.setIfInBounds k (.bool true), s1.put k _, by simp [s2], fun j hj => ?_⟩, h.bel.trans (hc.below (fun k e => by omega) h.bel.size), h.bits⟩
  rw [Array.getElem?_setIfInBounds]
  by_cases e : k = j
  · subst e
    rw [if_pos rfl, if_pos (by omega)]
    simp
  · rw [if_neg e, s3 j hj]
    have : (j ∈ k :: ms) ↔ (j ∈ ms) := by
      rw [List.mem_cons]
      constructor
      · rintro (h | h)
        · exact absurd h.symm e
        · exact h
      · exact .inr
    simp only [this]
/-- an attribute laid among the others -/
theorem RD.step {Ap Ac : Option Addr} {cp cc : Nat} {a' a2 : Atr} (h : RD w seen ms a wr) (hl : LR wr (w.heap.size + 2) a' Ap cp Ac cc (fun k => w.heap.size + 5 < k) w') {v : Value} {seen2 : List Nat}
    (hp : (atc a' Ap cp Ac cc).toArray.setIfInBounds 0 v = (atc a2 Ap cp Ac cc).toArray) (hw : Awf a2) (h1 : a2.path = a'.path) (h2 : a2.comms = a'.comms) (hb : BitsOk seen2 a2) : RD w seen2 ms a2 (w'.setCell ⟨w.heap.size + 2, 0, none⟩ v) := by
  obtain ⟨cs, s1, s2, s3⟩ := h.sn
  have hl2 := hl.put 0 v hp (am_set hl.am hw h1 h2)
  have hc := hl2.ch
  have hlt := s1.lt
  exact ⟨h.z0.chg hc (by omega), h.z1.chg hc (by omega), ⟨Ap, cp, Ac, cc, hl2.bk, hl2.am.mono fun k _ hk => by omega⟩, h.z3.chg hc (by omega), h.z4.chg hc (by omega), ⟨cs, s1.chg hc (by omega), s2, s3⟩, h.bel.trans (hc.below (fun k e => by omega) h.bel.size), hb⟩
end
/-- .. seen with fewer bounds -/
theorem LR.wide {w wr : World} {g cp cc : Nat} {a : Atr} {Ap Ac : Option Addr} {G H : Foot} (h : LR w g a Ap cp Ac cc G wr) (hG : ∀ j, G j → H j) (hg : ¬ H g) : LR w g a Ap cp Ac cc H wr := ⟨h.bk, h.am.mono fun j _ hj => hj.imp (hG j) id, h.ch, h.gl, hg⟩
theorem yields_load {P : Program} {ops : Array Oper} {S : World → Prop} {o : Oper} {a : Act} (hgd : o.guard = none) (ty : TypeId) (x : Operand) (ho : o.op = .load ty x) (g : Nat) (hx : a.eval x = .pointer (some ⟨g, 0, none⟩)) (t : TypeId) (cs : Array Value) (d : TypeDesc)
    (hu : P.underlying ty = some d) (hd : (match d with | .struct _ | .array _ _ => true | _ => false) = true) (hi : (P.info? ty).map (·.size) = some cs.size) (hS : ∀ w, S w → Bk w g t cs) : YieldsIf P ops S o (.agg cs) a :=
  Or.inl ⟨by simp [Region.wanted, hgd], fun w hw => by
    unfold execOp
    simp only [ho, hx, Instr.loadAt, Instr.sureAddr, Sem.run_bind, Sem.run_pure, Result.andThen_ok, run_loadVar_row w g t ty cs (0, 0) d (hS w hw) hu hd hi]⟩
/-- a whole block written, at a step -/
theorem step_store {P : Program} {ops : Array Oper} {o : Oper} {a : Act} {w : World} {K : Act → World → Prop} {Q : Exit → Act → World → Prop} {E : Prop} (hgd : o.guard = none) (ty : TypeId) (x y : Operand) (ho : o.op = .store ty x y)
    (g : Nat) (hx : a.eval x = .pointer (some ⟨g, 0, none⟩)) (cs : Array Value) (hy : a.eval y = .agg cs) (t : TypeId) (old : Array Value) (hg : Bk w g t old)
    (hi : (P.info? ty).map (·.size) = some cs.size) (hold : old.size = cs.size) (h1 : cs.toList.all (·.oneCell') = true)
    (h : ∀ w', Bk w' g t cs → Chg (fun k => k = g) w w' → w'.heap.size = w.heap.size → K (a.put o.dst undef) w') : if Region.wanted o (yielded ops a.tmps) = true then Oper.wp P o a w K Q else E := by
  have hw : Region.wanted o (yielded ops a.tmps) = true := by simp [Region.wanted, hgd]
  rw [if_pos hw]
  exact wp_store_row ty x y ho g cs hx hy t old hg hi hold (by rw [← Array.all_toList]; exact h1) (h _ (bk_row hg cs) (chg_row w g cs) (by simp))
/-- what is told -/
def ntc (s : Nat) (A : Option Addr) (n c : Nat) : Array Value := if s = 11 then #[.int .i64 3, .int .i64 11, .slice none 0 0] else #[.int .i64 3, .int .i64 (s : Int), .slice A n c]
set_option maxRecDepth 100000 in
set_option maxHeartbeats 4000000 in
theorem end14 {w wa : World} {s L bc al ac : Nat} {bA aA : Option Addr} (Q : Exit → Act → World → Prop) (h0 : Bk wa w.heap.size 29 zeroC.toArray) (h1 : Bk wa (w.heap.size + 1) 33 #[.int .i64 0, .int .i64 0, .slice none 0 0]) (h3 : Bk wa (w.heap.size + 3) 29 zeroC.toArray) (u1 u8 u9 u10 u11 u12 u13 u15 u17 u18 u19 u20 u21 u22 u23 u24 u25 u26 u27 u28 u29 u30 u31 u32 u33 u34 u35 u36 u37 u38 u39 u40 u41 u42 u43 u44 u45 u46 u47 u48 u49 u50 u51 u52 u53 u54 u55 u56 u57 u58 u59 u60 u61 u62 u63 u64 u65 u66 u67 u68 u69 u70 u71 u72 u73 u74 u75 u76 u77 u78 u79 u80 u81 u82 u83 u84 u85 u86 u87 u88 u89 u90 u91 u92 u93 u94 u95 u96 u97 u98 u99 u100 u101 u102 u103 u104 u105 u106 u107 u108 u109 u110 u111 u112 u113 u114 u115 u116 u117 u118 u119 u120 u121 u122 u123 u124 u125 u126 u127 u128 u129 u130 u131 u132 u133 u134 u135 u136 u137 u138 u139 u140 u141 u142 u143 u144 u145 u146 u147 u148 u149 u150 u151 u152 u153 u154 u155 u156 u157 u158 : Value)
    (hQ : s = 0 → ∀ (v146 v147 v148 v149 v150 v151 v152 v153 v154 v155 : Value), Q .normal { tmps := #[.slice bA L bc, u1, .pointer (some ⟨w.heap.size, 0, none⟩), .pointer (some ⟨w.heap.size + 1, 0, none⟩), .pointer (some ⟨w.heap.size + 2, 0, none⟩), .pointer (some ⟨w.heap.size + 3, 0, none⟩), .pointer (some ⟨w.heap.size + 4, 0, none⟩), .pointer (some ⟨w.heap.size + 5, 0, none⟩), u8, u9, u10, u11, u12, u13, .slice aA al ac, u15, .int .i64 (s : Int), u17, u18, u19, u20, u21, u22, u23, u24, u25, u26, u27, u28, u29, u30, u31, u32, u33, u34, u35, u36, u37, u38, u39, u40, u41, u42, u43, u44, u45, u46, u47, u48, u49, u50, u51, u52, u53, u54, u55, u56, u57, u58, u59, u60, u61, u62, u63, u64, u65, u66, u67, u68, u69, u70, u71, u72, u73, u74, u75, u76, u77, u78, u79, u80, u81, u82, u83, u84, u85, u86, u87, u88, u89, u90, u91, u92, u93, u94, u95, u96, u97, u98, u99, u100, u101, u102, u103, u104, u105, u106, u107, u108, u109, u110, u111, u112, u113, u114, u115, u116, u117, u118, u119, u120, u121, u122, u123, u124, u125, u126, u127, u128, u129, u130, u131, u132, u133, u134, u135, u136, u137, u138, u139, u140, u141, u142, u143, u144, u145, v146, v147, v148, v149, v150, v151, v152, v153, v154, v155, u156, u157, u158], defers := [] } wa)
    (hR : s ≠ 0 → ∀ (v146 v147 v148 v149 v150 v151 v152 v153 v154 v155 : Value) (w' : World), Bk w' w.heap.size 29 zeroC.toArray → Bk w' (w.heap.size + 1) 33 (ntc s aA al ac) → Chg (fun k => k = w.heap.size ∨ k = w.heap.size + 1) wa w' → Q .ret { tmps := #[.slice bA L bc, u1, .pointer (some ⟨w.heap.size, 0, none⟩), .pointer (some ⟨w.heap.size + 1, 0, none⟩), .pointer (some ⟨w.heap.size + 2, 0, none⟩), .pointer (some ⟨w.heap.size + 3, 0, none⟩), .pointer (some ⟨w.heap.size + 4, 0, none⟩), .pointer (some ⟨w.heap.size + 5, 0, none⟩), u8, u9, u10, u11, u12, u13, .slice aA al ac, u15, .int .i64 (s : Int), u17, u18, u19, u20, u21, u22, u23, u24, u25, u26, u27, u28, u29, u30, u31, u32, u33, u34, u35, u36, u37, u38, u39, u40, u41, u42, u43, u44, u45, u46, u47, u48, u49, u50, u51, u52, u53, u54, u55, u56, u57, u58, u59, u60, u61, u62, u63, u64, u65, u66, u67, u68, u69, u70, u71, u72, u73, u74, u75, u76, u77, u78, u79, u80, u81, u82, u83, u84, u85, u86, u87, u88, u89, u90, u91, u92, u93, u94, u95, u96, u97, u98, u99, u100, u101, u102, u103, u104, u105, u106, u107, u108, u109, u110, u111, u112, u113, u114, u115, u116, u117, u118, u119, u120, u121, u122, u123, u124, u125, u126, u127, u128, u129, u130, u131, u132, u133, u134, u135, u136, u137, u138, u139, u140, u141, u142, u143, u144, u145, v146, v147, v148, v149, v150, v151, v152, v153, v154, v155, u156, u157, u158], defers := [] } w') :
    Code.wp Tryz.prog (right (right (right (right (right (right (right (right (right (right (right (right (right (right (inner (right (inner (inner (right (left (right (right (right (right (bodyOf Tryz.f31))))))))))))))))))))))))) Q { tmps := #[.slice bA L bc, u1, .pointer (some ⟨w.heap.size, 0, none⟩), .pointer (some ⟨w.heap.size + 1, 0, none⟩), .pointer (some ⟨w.heap.size + 2, 0, none⟩), .pointer (some ⟨w.heap.size + 3, 0, none⟩), .pointer (some ⟨w.heap.size + 4, 0, none⟩), .pointer (some ⟨w.heap.size + 5, 0, none⟩), u8, u9, u10, u11, u12, u13, .slice aA al ac, u15, .int .i64 (s : Int), u17, u18, u19, u20, u21, u22, u23, u24, u25, u26, u27, u28, u29, u30, u31, u32, u33, u34, u35, u36, u37, u38, u39, u40, u41, u42, u43, u44, u45, u46, u47, u48, u49, u50, u51, u52, u53, u54, u55, u56, u57, u58, u59, u60, u61, u62, u63, u64, u65, u66, u67, u68, u69, u70, u71, u72, u73, u74, u75, u76, u77, u78, u79, u80, u81, u82, u83, u84, u85, u86, u87, u88, u89, u90, u91, u92, u93, u94, u95, u96, u97, u98, u99, u100, u101, u102, u103, u104, u105, u106, u107, u108, u109, u110, u111, u112, u113, u114, u115, u116, u117, u118, u119, u120, u121, u122, u123, u124, u125, u126, u127, u128, u129, u130, u131, u132, u133, u134, u135, u136, u137, u138, u139, u140, u141, u142, u143, u144, u145, u146, u147, u148, u149, u150, u151, u152, u153, u154, u155, u156, u157, u158], defers := [] } wa := by
  have HSz : Hid ((Tryz.prog.info? 29).map (·.size) = some 9) := info_atr
  have HSn : Hid ((Tryz.prog.info? 33).map (·.size) = some 3) := info_ntc
  have H0 := Lib.hid h0
  have H1 := Lib.hid h1
  have H3 := Lib.hid h3
  clear h0 h1 h3
  rcases Nat.eq_zero_or_pos s with hs | hs
  · have HQ := Lib.hid (hQ hs)
    clear hQ hR
    subst hs
    simp only [left, right, inner, yes, no, bodyOf, Tryz.f31]
    go_wp2_with fail
    exact HQ.out _ _ _ _ _ _ _ _ _ _
  · have HR := Lib.hid (hR (by omega))
    clear hQ hR
    by_cases h11 : s = 11
    · subst h11
      simp only [left, right, inner, yes, no, bodyOf, Tryz.f31]
      go_wp2_with (first
      | (refine wpList_loadBk rfl 29 (.tmp 5) rfl (w.heap.size + 3) (by rfl) 29 zeroC.toArray _ H3.out Tryz.underlying29 (by rfl) HSz.out ?_)
      | (refine wpList_storeBk rfl 29 (.tmp 2) (.tmp 148) rfl w.heap.size (by rfl) zeroC.toArray (by rfl) 29 zeroC.toArray H0.out HSz.out rfl (by rfl) ?_; intro w7 h5 h6 h7; have K5 := Lib.hid h5; have K6 := Lib.hid h6; have H1 := Lib.hid (H1.out.chg h6 (by omega)); clear h5 h6 h7)
      | (refine wpList_storeBk rfl 33 (.tmp 3) (.tmp 149) rfl (w.heap.size + 1) (by rfl) #[.int .i64 3, .int .i64 11, .slice none 0 0] (by rfl) 33 #[.int .i64 0, .int .i64 0, .slice none 0 0] H1.out HSn.out rfl (by rfl) ?_; intro w8 h5 h6 h7; have K7 := Lib.hid h5; have K8 := Lib.hid (K6.out.mono (G := fun k => k = w.heap.size ∨ k = w.heap.size + 1) fun k _ e => .inl e); have K9 := Lib.hid (K8.out.trans h6 fun k _ e => .inr e); have K10 := Lib.hid (K5.out.chg h6 (by omega)); clear h5 h6 h7))
      exact HR.out _ _ _ _ _ _ _ _ _ _ _ K10.out K7.out K9.out
    · have e : ntc s aA al ac = #[.int .i64 3, .int .i64 (s : Int), .slice aA al ac] := if_neg h11
      rw [e] at HR
      have d1 : ((s : Int) == 11) = false := by rw [beq_eq_false_iff_ne]; omega
      have d2 : ((s : Int) != 0) = true := by rw [bne_iff_ne]; omega
      have d3 : ((s : Int) == 0) = false := by rw [beq_eq_false_iff_ne]; omega
      clear e h11 hs
      generalize (s : Int) = n at *
      simp only [left, right, inner, yes, no, bodyOf, Tryz.f31]
      go_wp2_with (first
      | (refine wpList_loadBk rfl 29 (.tmp 5) rfl (w.heap.size + 3) (by rfl) 29 zeroC.toArray _ H3.out Tryz.underlying29 (by rfl) HSz.out ?_)
      | (refine wpList_storeBk rfl 29 (.tmp 2) (.tmp 152) rfl w.heap.size (by rfl) zeroC.toArray (by rfl) 29 zeroC.toArray H0.out HSz.out rfl (by rfl) ?_; intro w7 h5 h6 h7; have K5 := Lib.hid h5; have K6 := Lib.hid h6; have H1 := Lib.hid (H1.out.chg h6 (by omega)); clear h5 h6 h7)
      | (refine wpList_storeBk rfl 33 (.tmp 3) (.tmp 155) rfl (w.heap.size + 1) (by rfl) #[.int .i64 3, .int .i64 n, .slice aA al ac] (by rfl) 33 #[.int .i64 0, .int .i64 0, .slice none 0 0] H1.out HSn.out rfl (by rfl) ?_; intro w8 h5 h6 h7; have K7 := Lib.hid h5; have K8 := Lib.hid (K6.out.mono (G := fun k => k = w.heap.size ∨ k = w.heap.size + 1) fun k _ e => .inl e); have K9 := Lib.hid (K8.out.trans h6 fun k _ e => .inr e); have K10 := Lib.hid (K5.out.chg h6 (by omega)); clear h5 h6 h7))
      exact HR.out _ _ _ _ _ _ _ _ _ _ _ K10.out K7.out K9.out
end Go.Proofs.YtaeeeinpelfppaaGreat.attr

namespace Go.Proofs.YtaeeeinpelfppaaGreat.attr
open Go.RowKit Go.Proofs.YtaeeeinpelfppaaGreat.kit Go.Proofs.YtaeeeinpelfppaaGreat.mem Go.Proofs.YtaeeeinpelfppaaGreat.foot Go.Proofs.YtaeeeinpelfppaaGreat.nums Go.Proofs.YtaeeeinpelfppaaGreat.asn Go.Proofs.YtaeeeinpelfppaaGreat.pth Go.Proofs.YtaeeeinpelfppaaGreat.octet Go.Proofs.YtaeeeinpelfppaaGreat.code
set_option linter.unusedVariables false
set_option linter.unusedSimpArgs false
set_option maxRecDepth 100000 in
set_option maxHeartbeats 8000000 in
theorem sub13 {w wa : World} {seen ms : List Nat} {a : Atr} {k f own L bc al ac vc : Nat} {bA aA vA : Option Addr} {v : List UInt8} (Q : Exit → Act → World → Prop) (hrd : RD w seen ms a wa) (hks : k ∉ seen) (hk : k ≤ 255) (hf : f ≤ 255) (hown : own = if 7 ≤ k then unPart (unExt f) else unExt f) (hv : Bn wa (fun _ => True) vA vc v) (hl : v.length ≤ 50000) (u1 u8 u9 u17 u18 u19 u20 u21 u22 u23 u24 u25 u26 u27 u28 u29 u30 u31 u32 u33 u34 u35 u36 u37 u38 u39 u40 u41 u42 u43 u44 u45 u46 u47 u48 u49 u50 u51 u52 u53 u54 u55 u56 u57 u58 u59 u60 u61 u62 u63 u64 u65 u66 u67 u68 u69 u70 u71 u72 u73 u74 u75 u76 u77 u78 u79 u80 u81 u82 u83 u84 u85 u86 u87 u88 u89 u90 u91 u92 u93 u94 u95 u96 u97 u98 u99 u100 u101 u102 u103 u104 u105 u106 u107 u108 u109 u110 u111 u112 u113 u114 u115 u116 u117 u118 u119 u120 u121 u122 u123 u124 u125 u126 u127 u128 u129 u130 u131 u132 u133 u134 u135 u136 u137 u138 u139 u140 u141 u142 u143 u144 u145 u146 u147 u148 u149 u150 u151 u152 u153 u154 u155 u156 u157 u158 : Value)
    (hQ : (wrongS a f k v).2 = 0 → ∀ (v16 v120 v121 v122 v123 v124 v125 v126 v127 v128 v129 v130 v131 v132 v133 v134 v135 v136 v137 v138 v139 v140 v141 v142 v143 v144 v145 v146 v147 v148 v149 v150 v151 v152 v153 v154 v155 : Value) (w' : World), RD w (k :: seen) ms (wrongS a f k v).1 w' → Q .normal { tmps := #[.slice bA L bc, u1, .pointer (some ⟨w.heap.size, 0, none⟩), .pointer (some ⟨w.heap.size + 1, 0, none⟩), .pointer (some ⟨w.heap.size + 2, 0, none⟩), .pointer (some ⟨w.heap.size + 3, 0, none⟩), .pointer (some ⟨w.heap.size + 4, 0, none⟩), .pointer (some ⟨w.heap.size + 5, 0, none⟩), u8, u9, .int .i64 (k : Int), .int .i64 (f : Int), .int .i64 (v.length : Int), .slice vA v.length vc, .slice aA al ac, .int .i64 (own : Int), v16, u17, u18, u19, u20, u21, u22, u23, u24, u25, u26, u27, u28, u29, u30, u31, u32, u33, u34, u35, u36, u37, u38, u39, u40, u41, u42, u43, u44, u45, u46, u47, u48, u49, u50, u51, u52, u53, u54, u55, u56, u57, u58, u59, u60, u61, u62, u63, u64, u65, u66, u67, u68, u69, u70, u71, u72, u73, u74, u75, u76, u77, u78, u79, u80, u81, u82, u83, u84, u85, u86, u87, u88, u89, u90, u91, u92, u93, u94, u95, u96, u97, u98, u99, u100, u101, u102, u103, u104, u105, u106, u107, u108, u109, u110, u111, u112, u113, u114, u115, u116, u117, u118, u119, v120, v121, v122, v123, v124, v125, v126, v127, v128, v129, v130, v131, v132, v133, v134, v135, v136, v137, v138, v139, v140, v141, v142, v143, v144, v145, v146, v147, v148, v149, v150, v151, v152, v153, v154, v155, u156, u157, u158], defers := [] } w')
    (hR : (wrongS a f k v).2 ≠ 0 → ∀ (v16 v120 v121 v122 v123 v124 v125 v126 v127 v128 v129 v130 v131 v132 v133 v134 v135 v136 v137 v138 v139 v140 v141 v142 v143 v144 v145 v146 v147 v148 v149 v150 v151 v152 v153 v154 v155 : Value) (w' : World), Bk w' w.heap.size 29 zeroC.toArray → Bk w' (w.heap.size + 1) 33 (ntc (wrongS a f k v).2 aA al ac) → Below w.heap.size w w' → Q .ret { tmps := #[.slice bA L bc, u1, .pointer (some ⟨w.heap.size, 0, none⟩), .pointer (some ⟨w.heap.size + 1, 0, none⟩), .pointer (some ⟨w.heap.size + 2, 0, none⟩), .pointer (some ⟨w.heap.size + 3, 0, none⟩), .pointer (some ⟨w.heap.size + 4, 0, none⟩), .pointer (some ⟨w.heap.size + 5, 0, none⟩), u8, u9, .int .i64 (k : Int), .int .i64 (f : Int), .int .i64 (v.length : Int), .slice vA v.length vc, .slice aA al ac, .int .i64 (own : Int), v16, u17, u18, u19, u20, u21, u22, u23, u24, u25, u26, u27, u28, u29, u30, u31, u32, u33, u34, u35, u36, u37, u38, u39, u40, u41, u42, u43, u44, u45, u46, u47, u48, u49, u50, u51, u52, u53, u54, u55, u56, u57, u58, u59, u60, u61, u62, u63, u64, u65, u66, u67, u68, u69, u70, u71, u72, u73, u74, u75, u76, u77, u78, u79, u80, u81, u82, u83, u84, u85, u86, u87, u88, u89, u90, u91, u92, u93, u94, u95, u96, u97, u98, u99, u100, u101, u102, u103, u104, u105, u106, u107, u108, u109, u110, u111, u112, u113, u114, u115, u116, u117, u118, u119, v120, v121, v122, v123, v124, v125, v126, v127, v128, v129, v130, v131, v132, v133, v134, v135, v136, v137, v138, v139, v140, v141, v142, v143, v144, v145, v146, v147, v148, v149, v150, v151, v152, v153, v154, v155, u156, u157, u158], defers := [] } w') :
    Code.wp Tryz.prog (right (right (right (right (right (right (right (right (right (right (right (right (right (inner (right (inner (inner (right (left (right (right (right (right (bodyOf Tryz.f31)))))))))))))))))))))))) Q { tmps := #[.slice bA L bc, u1, .pointer (some ⟨w.heap.size, 0, none⟩), .pointer (some ⟨w.heap.size + 1, 0, none⟩), .pointer (some ⟨w.heap.size + 2, 0, none⟩), .pointer (some ⟨w.heap.size + 3, 0, none⟩), .pointer (some ⟨w.heap.size + 4, 0, none⟩), .pointer (some ⟨w.heap.size + 5, 0, none⟩), u8, u9, .int .i64 (k : Int), .int .i64 (f : Int), .int .i64 (v.length : Int), .slice vA v.length vc, .slice aA al ac, .int .i64 (own : Int), .int .i64 0, u17, u18, u19, u20, u21, u22, u23, u24, u25, u26, u27, u28, u29, u30, u31, u32, u33, u34, u35, u36, u37, u38, u39, u40, u41, u42, u43, u44, u45, u46, u47, u48, u49, u50, u51, u52, u53, u54, u55, u56, u57, u58, u59, u60, u61, u62, u63, u64, u65, u66, u67, u68, u69, u70, u71, u72, u73, u74, u75, u76, u77, u78, u79, u80, u81, u82, u83, u84, u85, u86, u87, u88, u89, u90, u91, u92, u93, u94, u95, u96, u97, u98, u99, u100, u101, u102, u103, u104, u105, u106, u107, u108, u109, u110, u111, u112, u113, u114, u115, u116, u117, u118, u119, u120, u121, u122, u123, u124, u125, u126, u127, u128, u129, u130, u131, u132, u133, u134, u135, u136, u137, u138, u139, u140, u141, u142, u143, u144, u145, u146, u147, u148, u149, u150, u151, u152, u153, u154, u155, u156, u157, u158], defers := [] } wa := by
  have HQ := Lib.hid hQ
  have HR := Lib.hid hR
  have HRD := Lib.hid hrd
  have HZ0 := Lib.hid hrd.z0
  have HZ1 := Lib.hid hrd.z1
  have HZ3 := Lib.hid hrd.z3
  have HKs := Lib.hid hks
  have HFl : Hid (∀ w', Calls Tryz.prog 63 #[.int .i64 (k : Int)] w' fun e w2 => e = .returned (.int .i64 (flg (k : Int))) ∧ Below w'.heap.size w' w2) := fun w' => refFlags_any k w'
  have HBx : Hid (∀ wx w', Below w.heap.size w wx → Chg (fun k => k = w.heap.size ∨ k = w.heap.size + 1) wx w' → Below w.heap.size w w') := fun wx w' h1 h2 => h1.trans (h2.below (fun k e => by omega) h1.size)
  have HBa := Lib.hid hrd.bel
  refine wp_seq_k (x := left (right (right (right (right (right (right (right (right (right (right (right (right (right (inner (right (inner (inner (right (left (right (right (right (right (bodyOf Tryz.f31))))))))))))))))))))))))) (y := right (right (right (right (right (right (right (right (right (right (right (right (right (right (inner (right (inner (inner (right (left (right (right (right (right (bodyOf Tryz.f31))))))))))))))))))))))))) fun K hK => ?_
  have HK := Lib.hid hK
  clear hQ hR hK hks
  by_cases hu : 1 ≤ k ∧ k ≤ 8
  · have hk1 : decide ((k : Int) < 1) = false := by rw [decide_eq_false_iff_not]; omega
    have hk8 : decide ((8 : Int) < (k : Int)) = false := by rw [decide_eq_false_iff_not]; omega
    have hofl : own = ownF f k := by
      rw [hown]
      unfold ownF
      by_cases h7 : 7 ≤ k
      · rw [if_pos h7, if_pos (by omega)]
      · rw [if_neg h7, if_neg (by omega)]
    have hfb : ((own : Int) == flg (k : Int)) = flaggedB f k := by
      rw [hofl]
      unfold flaggedB
      rw [Bool.eq_iff_iff, beq_iff_eq, decide_eq_true_iff]
    have HLg : Hid (∀ w', Calls Tryz.prog 64 #[.int .i64 (k : Int), .int .i64 (v.length : Int)] w' fun e w2 => e = .returned (.bool (longB k v.length)) ∧ Below w'.heap.size w' w2) := fun w' => refLong_any k v.length w' hu.1 hu.2
    obtain ⟨Ap, cp, Ac, cc, hbk, ham⟩ := hrd.at_
    have HLy : Hid (∀ w', longB k v.length = true → Below wa.heap.size wa w' → Calls Tryz.prog 65 #[.pointer (some ⟨w.heap.size + 2, 0, none⟩), .int .i64 (k : Int), .slice vA v.length vc] w' (RetLy (w.heap.size + 2) (layS a k v).1 (layS a k v).2 (fun j => w.heap.size + 5 < j ∧ j < w'.heap.size) w')) := fun w' h hb => refLay_any vc (w.heap.size + 2) k vA a Ap Ac cp cc _ w' v hu.1 hu.2 h hl (hbk.below hb hbk.lt) ((ham.bel hb).mono fun j hj h => ⟨h, hj⟩) (fun j hj => ⟨hj.2, by omega⟩) (hv.bel hb)
    have HHs := Lib.hid (layS_has a k v)
    have HBo := Lib.hid (fun h => hrd.bits.next HKs.out (f := f) (v := v) h)
    have hh := hrd.bits.1
    clear hbk ham hv hrd
    cases hfl : flaggedB f k
    · have e : wrongS a f k v = (a, 4) := by unfold wrongS; rw [if_pos hu, hfl, if_pos rfl]
      rw [e] at HQ HR
      rw [hfl] at hfb
      have d1 : ((own : Int) != flg (k : Int)) = true := by rw [bne, hfb]; rfl
      clear e hfl hofl hown hfb
      generalize flg (k : Int) = fk at *
      generalize (own : Int) = ow at *
      simp only [left, right, inner, yes, no, bodyOf, Tryz.f31]
      go_wp2_with (go_at_call 63; refine (HFl.out _).mono ?_; rintro e w2 ⟨rfl, h1⟩; have HB2 := Lib.hid (HBa.out.trans (h1.mono HBa.out.size)); have HY0 := Lib.hid (HZ0.out.below h1 HZ0.out.lt); have HY1 := Lib.hid (HZ1.out.below h1 HZ1.out.lt); have HY3 := Lib.hid (HZ3.out.below h1 HZ3.out.lt); clear h1)
      refine HK.out _ _ (end14 (w := w) (s := 4) Q HY0.out HY1.out HY3.out _ _ _ _ _ _ _ _ _ _ _ _ _ _ _ _ _ _ _ _ _ _ _ _ _ _ _ _ _ _ _ _ _ _ _ _ _ _ _ _ _ _ _ _ _ _ _ _ _ _ _ _ _ _ _ _ _ _ _ _ _ _ _ _ _ _ _ _ _ _ _ _ _ _ _ _ _ _ _ _ _ _ _ _ _ _ _ _ _ _ _ _ _ _ _ _ _ _ _ _ _ _ _ _ _ _ _ _ _ _ _ _ _ _ _ _ _ _ _ _ _ _ _ _ _ _ _ _ _ _ _ _ _ _ _ _ _ _ _ _ _ _ _ _ _ _ _ _ _ _ (fun hs => ?_) (fun hs => ?_))
      · exact absurd hs (by decide)
      · intro v146 v147 v148 v149 v150 v151 v152 v153 v154 v155 w' k0 k1 k2
        exact HR.out (by decide) _ _ _ _ _ _ _ _ _ _ _ _ _ _ _ _ _ _ _ _ _ _ _ _ _ _ _ _ _ _ _ _ _ _ _ _ _ _ k0 k1 (HBx.out _ _ HB2.out k2)
    · have d1 : ((own : Int) != flg (k : Int)) = false := by rw [bne, hfb, hfl]; rfl
      cases hlg : longB k v.length
      · have e : wrongS a f k v = (a, 5) := by unfold wrongS; rw [if_pos hu, hfl, if_neg (by decide), hlg, if_pos rfl]
        rw [e] at HQ HR
        rw [hlg] at HLg
        clear e hfl hofl hown hfb hlg
        generalize flg (k : Int) = fk at *
        generalize (own : Int) = ow at *
        simp only [left, right, inner, yes, no, bodyOf, Tryz.f31]
        go_wp2_with (first
          | (go_at_call 63; refine (HFl.out _).mono ?_; rintro e w2 ⟨rfl, h1⟩; have HB2 := Lib.hid (HBa.out.trans (h1.mono HBa.out.size)); have HX0 := Lib.hid (HZ0.out.below h1 HZ0.out.lt); have HX1 := Lib.hid (HZ1.out.below h1 HZ1.out.lt); have HX3 := Lib.hid (HZ3.out.below h1 HZ3.out.lt); clear h1)
          | (go_at_call 64; refine (HLg.out _).mono ?_; rintro e w3 ⟨rfl, h1⟩; have HB3 := Lib.hid (HB2.out.trans (h1.mono HB2.out.size)); have HY0 := Lib.hid (HX0.out.below h1 HX0.out.lt); have HY1 := Lib.hid (HX1.out.below h1 HX1.out.lt); have HY3 := Lib.hid (HX3.out.below h1 HX3.out.lt); clear h1))
        refine HK.out _ _ (end14 (w := w) (s := 5) Q HY0.out HY1.out HY3.out _ _ _ _ _ _ _ _ _ _ _ _ _ _ _ _ _ _ _ _ _ _ _ _ _ _ _ _ _ _ _ _ _ _ _ _ _ _ _ _ _ _ _ _ _ _ _ _ _ _ _ _ _ _ _ _ _ _ _ _ _ _ _ _ _ _ _ _ _ _ _ _ _ _ _ _ _ _ _ _ _ _ _ _ _ _ _ _ _ _ _ _ _ _ _ _ _ _ _ _ _ _ _ _ _ _ _ _ _ _ _ _ _ _ _ _ _ _ _ _ _ _ _ _ _ _ _ _ _ _ _ _ _ _ _ _ _ _ _ _ _ _ _ _ _ _ _ _ _ _ (fun hs => ?_) (fun hs => ?_))
        · exact absurd hs (by decide)
        · intro v146 v147 v148 v149 v150 v151 v152 v153 v154 v155 w' k0 k1 k2
          exact HR.out (by decide) _ _ _ _ _ _ _ _ _ _ _ _ _ _ _ _ _ _ _ _ _ _ _ _ _ _ _ _ _ _ _ _ _ _ _ _ _ _ k0 k1 (HBx.out _ _ HB3.out k2)
      · have e : (wrongS a f k v).2 = (layS a k v).2 ∧ ((layS a k v).2 = 0 → (wrongS a f k v).1 = { (layS a k v).1 with has := a.has + 2 ^ k }) := by
          unfold wrongS
          rw [if_pos hu, hfl, if_neg (by decide), hlg, if_neg (by decide)]
          split
          · rename_i h; exact ⟨rfl, fun h2 => absurd h2 h⟩
          · rename_i h; exact ⟨(Classical.not_not.1 h).symm, fun _ => rfl⟩
        have HE2 := Lib.hid e.2
        have HLx := Lib.hid (fun w' hb => HLy.out w' hlg hb)
        rw [hlg] at HLg
        rw [e.1] at HQ HR HBo
        have HPw : Hid ((2 : Int) ^ k ≤ 256 ∧ (0 : Int) < 2 ^ k) := by
          have : ∀ k : Fin 9, (2 : Int) ^ k.val ≤ 256 ∧ (0 : Int) < 2 ^ k.val := by decide +kernel
          exact this ⟨k, by omega⟩
        have HSv : Hid (Value.int .i64 (wrap64 (a.has + wrap64 (2 ^ k))) = .int .i64 (a.has + 2 ^ k)) := by
          have ew : wrap64 ((2 : Int) ^ k) = 2 ^ k := by
            have : ∀ k : Fin 9, wrap64 ((2 : Int) ^ k.val) = 2 ^ k.val := by decide +kernel
            exact this ⟨k, by omega⟩
          obtain ⟨hp1, hp0⟩ := HPw.out
          have e2 : wrap64 (a.has + 2 ^ k) = a.has + 2 ^ k := by unfold wrap64; omega
          rw [Hid, ew, e2]
        have HWf : Hid ((Lit.int .i64 (a.has + 2 ^ k)).wf = true) := by
          obtain ⟨hp1, hp0⟩ := HPw.out
          exact wf_small (by omega) (by omega)
        generalize layS a k v = ly at *
        clear e hfl hofl hown hfb hlg HLy HPw
        generalize flg (k : Int) = fk at *
        generalize (own : Int) = ow at *
        simp only [left, right, inner, yes, no, bodyOf, Tryz.f31]
        go_wp2_with (first
          | (go_at_call 63; refine (HFl.out _).mono ?_; rintro e w2 ⟨rfl, h1⟩; have HB2 := Lib.hid h1; clear h1)
          | (go_at_call 64; refine (HLg.out _).mono ?_; rintro e w3 ⟨rfl, h1⟩; have HB3 := Lib.hid (HB2.out.trans (h1.mono HB2.out.size)); have HLz := Lib.hid (HLx.out w3 HB3.out); clear h1)
          | (go_at_call 65; refine HLz.out.mono ?_; rintro e w4 ⟨rfl, Ax, cx, Ay, cy, h2⟩; have HL4 := Lib.hid h2; have q0 := (h2.bk.cell 0).trans (show _ = some (Value.int .i64 ly.1.has) from rfl); rw [HHs.out] at q0; have qf := h2.bk.free 0; have ql := h2.bk.lt; clear h2))
        have HD4 := Lib.hid (HRD.out.go HB3.out)
        have hch : Chg (fun j => j = w.heap.size + 2) w3 (w4.setCell ⟨w.heap.size + 2, 0, none⟩ (.int .i64 (a.has + 2 ^ k))) := HL4.out.ch.trans ((Chg.refl (fun j => j = w.heap.size + 2) w4).put (p := ⟨w.heap.size + 2, 0, none⟩) (.inl rfl) _) fun _ _ e => e
        have HC4 := Lib.hid hch
        have HY0 := Lib.hid (HD4.out.z0.chg hch (by omega))
        have HY1 := Lib.hid (HD4.out.z1.chg hch (by omega))
        have HY3 := Lib.hid (HD4.out.z3.chg hch (by omega))
        have HB4 := Lib.hid (HD4.out.bel.trans (hch.below (fun j e => by omega) HD4.out.bel.size))
        clear hch q0 qf ql
        rw [HSv.out]
        refine HK.out _ _ (end14 (w := w) (s := ly.2) Q HY0.out HY1.out HY3.out _ _ _ _ _ _ _ _ _ _ _ _ _ _ _ _ _ _ _ _ _ _ _ _ _ _ _ _ _ _ _ _ _ _ _ _ _ _ _ _ _ _ _ _ _ _ _ _ _ _ _ _ _ _ _ _ _ _ _ _ _ _ _ _ _ _ _ _ _ _ _ _ _ _ _ _ _ _ _ _ _ _ _ _ _ _ _ _ _ _ _ _ _ _ _ _ _ _ _ _ _ _ _ _ _ _ _ _ _ _ _ _ _ _ _ _ _ _ _ _ _ _ _ _ _ _ _ _ _ _ _ _ _ _ _ _ _ _ _ _ _ _ _ _ _ _ _ _ _ _ (fun hs => ?_) (fun hs => ?_))
        · intro v146 v147 v148 v149 v150 v151 v152 v153 v154 v155
          have hw4 := HL4.out.am.wf
          have e2 := HE2.out hs
          refine HQ.out hs _ _ _ _ _ _ _ _ _ _ _ _ _ _ _ _ _ _ _ _ _ _ _ _ _ _ _ _ _ _ _ _ _ _ _ _ _ _ ?_
          rw [e2]
          exact HD4.out.step (HL4.out.wide (fun j hj => hj.1) (by omega)) rfl ⟨HWf.out, hw4.orig, hw4.hop, hw4.med, hw4.pref, hw4.aas, hw4.aid⟩ rfl rfl (e2 ▸ HBo.out hs)
        · intro v146 v147 v148 v149 v150 v151 v152 v153 v154 v155 w' k0 k1 k2
          exact HR.out hs _ _ _ _ _ _ _ _ _ _ _ _ _ _ _ _ _ _ _ _ _ _ _ _ _ _ _ _ _ _ _ _ _ _ _ _ _ _ k0 k1 (HBx.out _ _ HB4.out k2)
  · have hw : k < 1 ∨ (¬ k < 1 ∧ 8 < k) := by omega
    have ew : wrongS a f k v = if f < 128 then (a, 2) else (a, 0) := by unfold wrongS; rw [if_neg hu]
    clear hrd hv hown hl HFl
    generalize (own : Int) = ow at *
    by_cases h128 : f < 128
    · rw [if_pos h128] at ew
      rw [ew] at HQ HR
      have d1 : decide ((f : Int) < 128) = true := by rw [decide_eq_true_iff]; omega
      clear ew hu
      rcases hw with h | ⟨h, h2⟩
      · have hk1 : decide ((k : Int) < 1) = true := by rw [decide_eq_true_iff]; omega
        simp only [left, right, inner, yes, no, bodyOf, Tryz.f31]
        go_wp2_with fail
        refine HK.out _ _ (end14 (w := w) (s := 2) Q HZ0.out HZ1.out HZ3.out _ _ _ _ _ _ _ _ _ _ _ _ _ _ _ _ _ _ _ _ _ _ _ _ _ _ _ _ _ _ _ _ _ _ _ _ _ _ _ _ _ _ _ _ _ _ _ _ _ _ _ _ _ _ _ _ _ _ _ _ _ _ _ _ _ _ _ _ _ _ _ _ _ _ _ _ _ _ _ _ _ _ _ _ _ _ _ _ _ _ _ _ _ _ _ _ _ _ _ _ _ _ _ _ _ _ _ _ _ _ _ _ _ _ _ _ _ _ _ _ _ _ _ _ _ _ _ _ _ _ _ _ _ _ _ _ _ _ _ _ _ _ _ _ _ _ _ _ _ _ (fun hs => ?_) (fun hs => ?_))
        · exact absurd hs (by decide)
        · intro v146 v147 v148 v149 v150 v151 v152 v153 v154 v155 w' k0 k1 k2
          exact HR.out (by decide) _ _ _ _ _ _ _ _ _ _ _ _ _ _ _ _ _ _ _ _ _ _ _ _ _ _ _ _ _ _ _ _ _ _ _ _ _ _ k0 k1 (HBx.out _ _ HBa.out k2)
      · have hk1 : decide ((k : Int) < 1) = false := by rw [decide_eq_false_iff_not]; omega
        have hk8 : decide ((8 : Int) < (k : Int)) = true := by rw [decide_eq_true_iff]; omega
        simp only [left, right, inner, yes, no, bodyOf, Tryz.f31]
        go_wp2_with fail
        refine HK.out _ _ (end14 (w := w) (s := 2) Q HZ0.out HZ1.out HZ3.out _ _ _ _ _ _ _ _ _ _ _ _ _ _ _ _ _ _ _ _ _ _ _ _ _ _ _ _ _ _ _ _ _ _ _ _ _ _ _ _ _ _ _ _ _ _ _ _ _ _ _ _ _ _ _ _ _ _ _ _ _ _ _ _ _ _ _ _ _ _ _ _ _ _ _ _ _ _ _ _ _ _ _ _ _ _ _ _ _ _ _ _ _ _ _ _ _ _ _ _ _ _ _ _ _ _ _ _ _ _ _ _ _ _ _ _ _ _ _ _ _ _ _ _ _ _ _ _ _ _ _ _ _ _ _ _ _ _ _ _ _ _ _ _ _ _ _ _ _ _ (fun hs => ?_) (fun hs => ?_))
        · exact absurd hs (by decide)
        · intro v146 v147 v148 v149 v150 v151 v152 v153 v154 v155 w' k0 k1 k2
          exact HR.out (by decide) _ _ _ _ _ _ _ _ _ _ _ _ _ _ _ _ _ _ _ _ _ _ _ _ _ _ _ _ _ _ _ _ _ _ _ _ _ _ k0 k1 (HBx.out _ _ HBa.out k2)
    · rw [if_neg h128] at ew
      have HBo := Lib.hid (HRD.out.bits.next HKs.out (f := f) (v := v) (by rw [ew]))
      rw [ew] at HQ HR HBo
      have d1 : decide ((f : Int) < 128) = false := by rw [decide_eq_false_iff_not]; omega
      clear ew hu
      have HD2 : Hid (RD w (k :: seen) ms a wa) := ⟨HRD.out.z0, HRD.out.z1, HRD.out.at_, HRD.out.z3, HRD.out.z4, HRD.out.sn, HRD.out.bel, HBo.out⟩
      rcases hw with h | ⟨h, h2⟩
      · have hk1 : decide ((k : Int) < 1) = true := by rw [decide_eq_true_iff]; omega
        simp only [left, right, inner, yes, no, bodyOf, Tryz.f31]
        go_wp2_with fail
        refine HK.out _ _ (end14 (w := w) (s := 0) Q HZ0.out HZ1.out HZ3.out _ _ _ _ _ _ _ _ _ _ _ _ _ _ _ _ _ _ _ _ _ _ _ _ _ _ _ _ _ _ _ _ _ _ _ _ _ _ _ _ _ _ _ _ _ _ _ _ _ _ _ _ _ _ _ _ _ _ _ _ _ _ _ _ _ _ _ _ _ _ _ _ _ _ _ _ _ _ _ _ _ _ _ _ _ _ _ _ _ _ _ _ _ _ _ _ _ _ _ _ _ _ _ _ _ _ _ _ _ _ _ _ _ _ _ _ _ _ _ _ _ _ _ _ _ _ _ _ _ _ _ _ _ _ _ _ _ _ _ _ _ _ _ _ _ _ _ _ _ _ (fun hs => ?_) (fun hs => ?_))
        · intro v146 v147 v148 v149 v150 v151 v152 v153 v154 v155
          exact HQ.out (by first | trivial | rfl) _ _ _ _ _ _ _ _ _ _ _ _ _ _ _ _ _ _ _ _ _ _ _ _ _ _ _ _ _ _ _ _ _ _ _ _ _ _ HD2.out
        · exact absurd rfl hs
      · have hk1 : decide ((k : Int) < 1) = false := by rw [decide_eq_false_iff_not]; omega
        have hk8 : decide ((8 : Int) < (k : Int)) = true := by rw [decide_eq_true_iff]; omega
        simp only [left, right, inner, yes, no, bodyOf, Tryz.f31]
        go_wp2_with fail
        refine HK.out _ _ (end14 (w := w) (s := 0) Q HZ0.out HZ1.out HZ3.out _ _ _ _ _ _ _ _ _ _ _ _ _ _ _ _ _ _ _ _ _ _ _ _ _ _ _ _ _ _ _ _ _ _ _ _ _ _ _ _ _ _ _ _ _ _ _ _ _ _ _ _ _ _ _ _ _ _ _ _ _ _ _ _ _ _ _ _ _ _ _ _ _ _ _ _ _ _ _ _ _ _ _ _ _ _ _ _ _ _ _ _ _ _ _ _ _ _ _ _ _ _ _ _ _ _ _ _ _ _ _ _ _ _ _ _ _ _ _ _ _ _ _ _ _ _ _ _ _ _ _ _ _ _ _ _ _ _ _ _ _ _ _ _ _ _ _ _ _ _ (fun hs => ?_) (fun hs => ?_))
        · intro v146 v147 v148 v149 v150 v151 v152 v153 v154 v155
          exact HQ.out (by first | trivial | rfl) _ _ _ _ _ _ _ _ _ _ _ _ _ _ _ _ _ _ _ _ _ _ _ _ _ _ _ _ _ _ _ _ _ _ _ _ _ _ HD2.out
        · exact absurd rfl hs
end Go.Proofs.YtaeeeinpelfppaaGreat.attr
