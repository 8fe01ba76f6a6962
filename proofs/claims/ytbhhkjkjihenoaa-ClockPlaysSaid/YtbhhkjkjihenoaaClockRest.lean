/- What follows the switch in a round of confluencelaw23.ClockPlays. Conditions as the lemma states. Printed by gen_clockrest.py. -/
import Derived.Test.YtbhhkjkjihenoaaClockSwitch
namespace Go.Proofs.Ytbhhkjkjihenoaa.clk
open Go.Proofs.Ytbhhkjkjihenoaa.foot Go.Proofs.Ytbhhkjkjihenoaa.maps
/-- the least that is left so far -/
structure Lst (R : KV) (k : Nat) (l : Int) : Prop where
  zero : k = 0 → l = 0
  mem : 0 < k → ∃ r ∈ R.take k, r.2 = l
  le : ∀ r ∈ R.take k, l ≤ r.2
theorem Lst.take {R : KV} {k : Nat} {l : Int} (h : Lst R k l) (hk : k < R.length) (hl : k = 0 ∨ R[k].2 < l) : Lst R (k + 1) R[k].2 := by
  refine ⟨fun e => by omega, fun _ => ⟨R[k], by rw [List.take_succ_eq_append_getElem hk]; exact List.mem_append_right _ (List.mem_singleton.2 rfl), rfl⟩, fun r hr => ?_⟩
  rw [List.take_succ_eq_append_getElem hk] at hr
  rcases List.mem_append.1 hr with hr | hr
  · rcases hl with rfl | hl
    · simp at hr
    · have := h.le r hr; omega
  · simp only [List.mem_singleton] at hr; rw [hr]; exact Int.le_refl _
theorem Lst.pass {R : KV} {k : Nat} {l : Int} (h : Lst R k l) (hk : k < R.length) (h0 : 0 < k) (hl : ¬ R[k].2 < l) : Lst R (k + 1) l := by
  obtain ⟨x, hx, e⟩ := h.mem h0
  refine ⟨fun e => by omega, fun _ => ⟨x, by rw [List.take_succ_eq_append_getElem hk]; exact List.mem_append_left _ hx, e⟩, fun r hr => ?_⟩
  rw [List.take_succ_eq_append_getElem hk] at hr
  rcases List.mem_append.1 hr with hr | hr
  · exact h.le r hr
  · simp only [List.mem_singleton] at hr; rw [hr]; omega
theorem Lst.next {R : KV} {l m now : Int} (h : Lst R R.length l) (h0 : 0 < R.length) (h1 : ∃ p ∈ ab now R, p.2 = m) (h2 : ∀ p ∈ ab now R, m ≤ p.2) : m - now = l := by
  have hm := h.mem h0
  have hle := h.le
  rw [List.take_length] at hm hle
  obtain ⟨r, hr, e⟩ := hm
  obtain ⟨p, hp, e'⟩ := h1
  unfold ab at hp h2
  rw [List.mem_map] at hp
  obtain ⟨q, hq, rfl⟩ := hp
  have g1 := h2 (r.1, r.2 + now) (List.mem_map.2 ⟨r, hr, rfl⟩)
  have g2 := hle q hq
  dsimp only at e' g1
  omega
end Go.Proofs.Ytbhhkjkjihenoaa.clk
namespace Go.Proofs.Ytbhhkjkjihenoaa.clockPlays
open Go.RowKit Go.Proofs.Ytbhhkjkjihenoaa.kit Go.Proofs.Ytbhhkjkjihenoaa.mem Go.Proofs.Ytbhhkjkjihenoaa.foot Go.Proofs.Ytbhhkjkjihenoaa.maps Go.Proofs.Ytbhhkjkjihenoaa.clk Go.Proofs.Ytbhhkjkjihenoaa.code
set_option linter.unusedVariables false
set_option linter.unusedSimpArgs false
set_option maxRecDepth 100000 in
set_option maxHeartbeats 4000000 in
theorem rest {W wa : World} {B t i n0 c0 c : Nat} {F : Foot} {A0 A : Option Addr} {R : KV} {now ask : Int} (Q : Exit → Act → World → Prop)
    (hl2 : i < 50) (hn0 : 0 ≤ now) (hn1 : now ≤ 300 * (i + 1 : Nat)) (hRl : R.length ≤ i + 1) (hask : (Lit.int .i64 ask).wf = true) (HJa : Hid (PJ W B F t now R A c wa)) (u2 u3 u4 u9 u10 u11 u12 u13 u14 u15 u16 u17 u18 u19 u20 u21 u22 u23 u24 u25 u26 u27 u28 u29 u30 u31 u32 u33 u34 u35 u36 u37 u38 u39 u40 u41 u42 u43 u44 u45 u46 u47 u48 u49 u50 u51 u52 u53 u54 u55 u56 u57 u58 u59 u60 u61 u62 u63 u64 u65 u66 u67 u68 u69 u70 u71 u72 u73 u74 u75 u76 u77 u78 u79 u80 u81 u82 u83 u84 u85 u86 u87 u88 u89 u90 u91 u92 u93 u94 u95 u96 u97 u98 u99 u100 u101 u102 u103 u104 u105 u106 u107 u108 u109 u110 u111 u112 u113 u114 u115 u116 u117 u118 u119 u120 u121 u122 u123 u124 u125 u126 u127 u128 u129 u130 u131 u132 u133 u134 u135 u136 u137 u138 u139 u140 u141 u142 u143 u144 u145 u146 u147 u148 u149 u150 u151 u152 u153 u154 u155 u156 u157 u158 u159 u160 u161 u162 u163 u164 u165 u166 u167 u168 u169 u170 u171 u172 u173 u174 u175 u176 u177 u178 u179 u180 u181 u182 u183 u184 u185 u186 u187 u188 u189 u190 u191 u192 u193 u194 u195 u196 u197 u198 u199 u200 u201 u202 u203 u204 u205 u206 u207 u208 u209 u210 u211 u212 u213 u214 u215 u216 u217 u218 u219 u220 u221 u222 u223 u224 u225 u226 u227 u228 u229 u230 u231 u232 u233 u234 u235 u236 u237 u238 u239 u240 u241 u242 u243 u244 u245 u246 : Value)
    (hQ : ∀ (v4 v21 v22 v23 v24 v25 v26 v27 v28 v152 v153 v154 v155 v156 v157 v158 v159 v160 v161 v162 v163 v164 v165 v166 v167 v168 v169 v170 v171 v172 v173 v174 v175 v176 v177 v178 v179 v180 v181 v182 v183 v184 v185 v186 v187 v188 v189 v190 v191 v192 v193 v194 v195 v196 v197 v198 v199 v200 v201 v202 v203 v204 v205 v206 v207 v208 v209 v210 v211 v212 v213 v214 v215 v216 v217 v218 v219 v220 v221 v222 v223 v224 v225 v226 v227 v228 v229 v230 v231 v232 v233 v234 v235 v236 v237 v238 v239 v240 v241 v242 v243 v244 v245 : Value) (wx : World), PJ W B F t now R A c wx → Q .normal { tmps := #[.slice A0 n0 c0, .int .i64 ask, u2, u3, v4, .pointer (some ⟨t, 0, none⟩), .slice A R.length c, .int .i64 now, .int .i64 i, u9, u10, u11, u12, u13, u14, u15, u16, u17, u18, u19, u20, v21, v22, v23, v24, v25, v26, v27, v28, u29, u30, u31, u32, u33, u34, u35, u36, u37, u38, u39, u40, u41, u42, u43, u44, u45, u46, u47, u48, u49, u50, u51, u52, u53, u54, u55, u56, u57, u58, u59, u60, u61, u62, u63, u64, u65, u66, u67, u68, u69, u70, u71, u72, u73, u74, u75, u76, u77, u78, u79, u80, u81, u82, u83, u84, u85, u86, u87, u88, u89, u90, u91, u92, u93, u94, u95, u96, u97, u98, u99, u100, u101, u102, u103, u104, u105, u106, u107, u108, u109, u110, u111, u112, u113, u114, u115, u116, u117, u118, u119, u120, u121, u122, u123, u124, u125, u126, u127, u128, u129, u130, u131, u132, u133, u134, u135, u136, u137, u138, u139, u140, u141, u142, u143, u144, u145, u146, u147, u148, u149, u150, u151, v152, v153, v154, v155, v156, v157, v158, v159, v160, v161, v162, v163, v164, v165, v166, v167, v168, v169, v170, v171, v172, v173, v174, v175, v176, v177, v178, v179, v180, v181, v182, v183, v184, v185, v186, v187, v188, v189, v190, v191, v192, v193, v194, v195, v196, v197, v198, v199, v200, v201, v202, v203, v204, v205, v206, v207, v208, v209, v210, v211, v212, v213, v214, v215, v216, v217, v218, v219, v220, v221, v222, v223, v224, v225, v226, v227, v228, v229, v230, v231, v232, v233, v234, v235, v236, v237, v238, v239, v240, v241, v242, v243, v244, v245, u246], defers := [] } wx) :
    Code.wp Try.prog (right (right (inner (left (right (inner (inner (right (left (right (right (bodyOf Try.f11)))))))))))) Q { tmps := #[.slice A0 n0 c0, .int .i64 ask, u2, u3, u4, .pointer (some ⟨t, 0, none⟩), .slice A R.length c, .int .i64 now, .int .i64 i, u9, u10, u11, u12, u13, u14, u15, u16, u17, u18, u19, u20, u21, u22, u23, u24, u25, u26, u27, u28, u29, u30, u31, u32, u33, u34, u35, u36, u37, u38, u39, u40, u41, u42, u43, u44, u45, u46, u47, u48, u49, u50, u51, u52, u53, u54, u55, u56, u57, u58, u59, u60, u61, u62, u63, u64, u65, u66, u67, u68, u69, u70, u71, u72, u73, u74, u75, u76, u77, u78, u79, u80, u81, u82, u83, u84, u85, u86, u87, u88, u89, u90, u91, u92, u93, u94, u95, u96, u97, u98, u99, u100, u101, u102, u103, u104, u105, u106, u107, u108, u109, u110, u111, u112, u113, u114, u115, u116, u117, u118, u119, u120, u121, u122, u123, u124, u125, u126, u127, u128, u129, u130, u131, u132, u133, u134, u135, u136, u137, u138, u139, u140, u141, u142, u143, u144, u145, u146, u147, u148, u149, u150, u151, u152, u153, u154, u155, u156, u157, u158, u159, u160, u161, u162, u163, u164, u165, u166, u167, u168, u169, u170, u171, u172, u173, u174, u175, u176, u177, u178, u179, u180, u181, u182, u183, u184, u185, u186, u187, u188, u189, u190, u191, u192, u193, u194, u195, u196, u197, u198, u199, u200, u201, u202, u203, u204, u205, u206, u207, u208, u209, u210, u211, u212, u213, u214, u215, u216, u217, u218, u219, u220, u221, u222, u223, u224, u225, u226, u227, u228, u229, u230, u231, u232, u233, u234, u235, u236, u237, u238, u239, u240, u241, u242, u243, u244, u245, u246], defers := [] } wa := by
  have HQ := Lib.hid hQ
  obtain ⟨j0, hj, hy0, hy1, hy2⟩ := info_parts info_i64
  have Hj := Lib.hid hj
  have Hy0 := Lib.hid hy0
  have Hy1 := Lib.hid hy1
  have Hy2 := Lib.hid hy2
  have HA0 : Hid (Own (wa.alloc (.cells #[] 3)) 3 1 (some ⟨wa.heap.size, 0, none⟩) 0 0 (iv [])) := Own.empty (Bk.new wa _ _)
  have HB0 : Hid (Below wa.heap.size wa (wa.alloc (.cells #[] 3))) := (Below.refl _ _).alloc (Nat.le_refl _) _
  have HAsk := Lib.hid hask
  clear hQ hj hy0 hy1 hy2 hask
  simp only [left, right, inner, yes, no, bodyOf, Try.f11]
  go_wp2_with fail
  go_loopw [21, 22, 23] (fun v21 v22 v23 wr => ∃ (k : Nat) (ls : Int) (ks : List Int) (Ak : Option Addr) (ck : Nat), k ≤ R.length ∧ v23 = .int .i64 k ∧ v21 = .int .i64 ls ∧ v22 = .slice Ak ks.length ck ∧ ks = (R.take k).map (·.1) ∧ ks.length ≤ 60 ∧ Lst R k ls ∧ Own wr 3 1 Ak ks.length ck (iv ks) ∧ (∀ x, sf Ak x → wa.heap.size ≤ x) ∧ Below wa.heap.size wa wr) (fun _ _ v23 _ => R.length - (intOf v23).toNat)
  case atStart => exact ⟨0, 0, [], _, 0, by omega, rfl, rfl, rfl, by simp, by simp, ⟨fun _ => rfl, fun h => absurd h (by omega), fun r h => by simp at h⟩, HA0.out, fun x hx => by rw [sf_some] at hx; have : wa.heap.size = x := hx; omega, HB0.out⟩
  case round =>
    obtain ⟨k, ls, ks, Ak, ck, hk, rfl, rfl, rfl, hks, hkl, hls, hown, hlow, hbw⟩ := hrel
    have HKs := Lib.hid hks
    have HLs := Lib.hid hls
    have HOw := Lib.hid hown
    have HLo := Lib.hid hlow
    have HBw := Lib.hid hbw
    clear hks hls hown hlow hbw HA0 HB0
    by_cases hlt : k < R.length
    · obtain ⟨b, off, rfl, hb, x0, x1⟩ := row_cell HJa.out.row hlt
      have HCe : Hid (∀ w', Below wa.heap.size wa w' → w'.cell? ⟨b, off + k * 2, none⟩ = some (.int .i64 R[k].1) ∧ w'.cell? ⟨b, off + k * 2 + 1, none⟩ = some (.int .i64 R[k].2)) := fun w' h => ⟨(h.cell (p := ⟨b, off + k * 2, none⟩) hb).trans x0, (h.cell (p := ⟨b, off + k * 2 + 1, none⟩) hb).trans x1⟩
      have q0 := (HCe.out _ HBw.out).1
      have hlt' : (k : Int) < (R.length : Int) := by omega
      have HKn : Hid ((R.take (k + 1)).map (·.1) = ks ++ [R[k].1]) := by rw [Hid, HKs.out, List.take_succ_eq_append_getElem hlt, List.map_append]; rfl
      have hw : k = 0 ∨ (0 < k ∧ R[k].2 < ls) ∨ (0 < k ∧ ¬ R[k].2 < ls) := by omega
      have HLt : Hid (k = 0 ∨ R[k].2 < ls → Lst R (k + 1) R[k].2) := fun h => HLs.out.take hlt h
      have HLp : Hid (0 < k → ¬ R[k].2 < ls → Lst R (k + 1) ls) := fun h1 h2 => HLs.out.pass hlt h1 h2
      clear x0 x1 HLs
      generalize R[k].1 = x at *
      generalize R[k].2 = y at *
      have hbl : Below wr.heap.size wr (wr.alloc (.cells #[.int .i64 x] 3)) := (Below.refl _ _).alloc (Nat.le_refl _) _
      have HO3 := Lib.hid (HOw.out.bel hbl)
      have HRg : Hid (Rg (wr.alloc (.cells #[.int .i64 x] 3)) (fun k => k = wr.heap.size) 1 (some ⟨wr.heap.size, 0, none⟩) 1 [.int .i64 x]) := Rg.new wr 3 1 1 #[.int .i64 x] rfl
      have HA : Hid (∀ A3 c3 w5, Own w5 3 1 A3 (ks.length + 1) c3 (iv ks ++ [.int .i64 x]) → Chg (sf Ak) (wr.alloc (.cells #[.int .i64 x] 3)) w5 → Fresh (wr.alloc (.cells #[.int .i64 x] 3)) (sf Ak) (sf A3) → Own w5 3 1 A3 (ks ++ [x]).length c3 (iv (ks ++ [x])) ∧ (∀ x, sf A3 x → wa.heap.size ≤ x) ∧ Below wa.heap.size wa w5) := fun A3 c3 w5 g1 g2 g3 => by
        have hlo := HLo.out
        have hs := HBw.out.size
        have hs2 := hbl.size
        refine ⟨by rw [List.length_append]; simpa [iv] using g1, fun x hx => ?_, HBw.out.trans ((hbl.mono hs).trans (g2.below hlo (Nat.le_trans hs hs2)))⟩
        rcases g3 x hx with h1 | h1
        · exact hlo x h1
        · omega
      clear hbl HLo
      go_upto_region 44 with (at_builtin; refine wpList_app _ rfl (.tmp 159) (.tmp 165) _ rfl 3 j0 _ 1 8 Try.underlying100 Hj.out Hy0.out Hy1.out Hy2.out rfl (by omega) Ak ks.length ck (iv ks) rfl HO3.out _ (some ⟨wr.heap.size, 0, none⟩) 1 1 (by intro h; cases h) [.int .i64 x] rfl HRg.out (by intro u hu; simp at hu; subst hu; rfl) (by unfold maxLen; omega) (by omega) ?_; intro A4 c4 w5 ho5 hc5 hf5; have HJ5 := Lib.hid (HA.out A4 c4 w5 ho5 hc5 hf5); clear ho5 hc5 hf5; have q1 := (HCe.out _ HJ5.out.2.2).2)
      rcases hw with hw | ⟨hw, hy⟩ | ⟨hw, hy⟩
      case' inl =>
        have ek : ((k : Int) == 0) = true := by simp; omega
        have HL2 : Hid (Lst R (k + 1) y) := HLt.out (.inl hw)
        clear hw HLt HLp
      case' inr.inl =>
        have ek : ((k : Int) == 0) = false := by rw [beq_eq_false_iff_ne]; omega
        have ey : decide (y < ls) = true := by simp; omega
        have HL2 : Hid (Lst R (k + 1) y) := HLt.out (.inr hy)
        clear hw hy HLt HLp
      case' inr.inr =>
        have ek : ((k : Int) == 0) = false := by rw [beq_eq_false_iff_ne]; omega
        have ey : decide (y < ls) = false := by rw [decide_eq_false_iff_not]; exact hy
        have HL2 : Hid (Lst R (k + 1) ls) := HLp.out hw hy
        clear hw hy HLt HLp
      all_goals
        go_wp2_with fail
        go_roundw
        case rel => exact ⟨k + 1, _, ks ++ [x], A4, c4, by omega, by go_num, rfl, by rw [List.length_append]; rfl, HKn.out.symm, by rw [List.length_append]; simp; have h := congrArg List.length HKs.out; simp at h; omega, HL2.out, HJ5.out.1, HJ5.out.2.1, HJ5.out.2.2⟩
        case measure => simp [intOf]; omega
    · obtain rfl : k = R.length := by omega
      have hksl : ks = R.map (·.1) := by rw [HKs.out, List.take_length]
      have HJw := Lib.hid (HJa.out.bl HBw.out)
      have HKw : Hid (∀ w', Below wr.heap.size wr w' → Rg w' (sf Ak) 1 Ak ks.length (iv ks)) := fun w' h => (HOw.out.bel h).rg
      have HKy := Lib.hid (fun w' (h : Below wr.heap.size wr w') => Keys_any w' (by rw [ab_len]; omega) (HJw.out.bl h).ck)
      rw [ab_keys HJa.out.ris, ← hksl] at HKy
      clear hksl
      have HNw := Lib.hid (fun w' (h : Below wr.heap.size wr w') => Now_any w' (HJw.out.bl h).ck)
      have HAt := Lib.hid (fun w' (h : Below wr.heap.size wr w') => refAt_any B R A c ask w' (by omega) (HJw.out.bl h).row)
      have HNx : Hid (∀ w', Below wr.heap.size wr w' → Calls Try.prog 57 #[.pointer (some ⟨t, 0, none⟩)] w' fun e w2 => e = .returned (.tuple #[.int .i64 ls, .bool (decide (0 < R.length))]) ∧ Below w'.heap.size w' w2) := fun w' h => by
        rcases Nat.eq_zero_or_pos R.length with h0 | h0
        · have hR : R = [] := List.length_eq_zero_iff.1 h0
          subst hR
          refine (Next_empty w' (HJw.out.bl h).ck).mono ?_
          rintro e w2 ⟨rfl, rfl⟩
          exact ⟨by rw [HLs.out.zero rfl]; rfl, Below.refl _ _⟩
        · refine (Next_any w' (by rw [ab_len]; omega) (by rw [ab_len]; omega) (by omega) (fun p hp => ?_) (HJw.out.bl h).ck).mono ?_
          · unfold ab at hp
            rw [List.mem_map] at hp
            obtain ⟨r, hr, rfl⟩ := hp
            have := HJa.out.lef r hr
            dsimp only
            omega
          · rintro e w2 ⟨m, h1, h2, rfl, hb⟩
            rw [HLs.out.next h0 h1 h2, decide_eq_true h0]
            exact ⟨rfl, hb⟩
      have HSa := Lib.hid (fun w' A5 c5 (h : Below wr.heap.size wr w') (ho : Own w' 3 1 A5 ks.length c5 (iv ks)) => same_any (c := c5) (c' := ck) ks w' (by omega) ho.rg (HKw.out w' h))
      rcases hidx : rIdx R ask with _ | ia
      case' none =>
        have ez : rAt R ask = -1 := by unfold rAt; rw [hidx]
        have HLe : Hid (∀ w', Below wr.heap.size wr w' → Calls Try.prog 48 #[.pointer (some ⟨t, 0, none⟩), .int .i64 ask] w' fun e w2 => e = .returned (.tuple #[.int .i64 0, .bool false]) ∧ w' = w2) := fun w' h => by
          have hh : hasK (ab now R) ask = false := by rw [ab_any, hidx]; rfl
          have := Left_any ask w' HAsk.out (by rw [ab_none hidx]; omega) (HJw.out.bl h).ck
          rw [hh] at this
          simpa using this
        clear hidx
        rcases Nat.eq_zero_or_pos R.length with h0 | h0
        case' inl =>
          obtain rfl : R = [] := List.length_eq_zero_iff.1 h0
          rw [show decide (0 < ([] : KV).length) = false from rfl] at HNx
          clear h0
        case' inr =>
          rw [decide_eq_true h0] at HNx
          have hbz : decide ((0 : Int) < (R.length : Int)) = true := by simp; omega
      case' some =>
        obtain ⟨hia, _⟩ := rIdx_lt hidx
        have ez : rAt R ask = ia := by unfold rAt; rw [hidx]
        have HLe : Hid (∀ w', Below wr.heap.size wr w' → Calls Try.prog 48 #[.pointer (some ⟨t, 0, none⟩), .int .i64 ask] w' fun e w2 => e = .returned (.tuple #[.int .i64 R[ia].2, .bool true]) ∧ w' = w2) := fun w' h => by
          have hh : hasK (ab now R) ask = true := by rw [ab_any, hidx]; rfl
          have hl := HJa.out.lef R[ia] (by simp)
          have := Left_any ask w' HAsk.out (by rw [ab_at hidx hia]; omega) (HJw.out.bl h).ck
          rw [hh, ab_at hidx hia, show R[ia].2 + now - now = R[ia].2 from by omega] at this
          simpa using this
        obtain ⟨b, off, rfl, hb, _, x1⟩ := row_cell HJw.out.row hia
        have HCe : Hid (∀ w', Below wr.heap.size wr w' → w'.cell? ⟨b, off + ia * 2 + 1, none⟩ = some (.int .i64 R[ia].2)) := fun w' h => (h.cell (p := ⟨b, off + ia * 2 + 1, none⟩) hb).trans x1
        have hia' : (ia : Int) < (R.length : Int) := by omega
        have hbz : decide ((0 : Int) < (R.length : Int)) = true := by rw [decide_eq_true_iff]; omega
        rw [decide_eq_true (show 0 < R.length by omega)] at HNx
        clear hidx x1
        generalize R[ia].2 = y at *
      all_goals
        rw [ez] at HAt
        clear ez HOw HLo HLs HKs HKw
        go_wp2_with fail
        refine (HLe.out _ (Below.refl _ _)).mono ?_; rintro e w2 ⟨rfl, rfl⟩
        go_wp2_with fail
        refine (HAt.out _ (Below.refl _ _)).mono ?_; rintro e w3 ⟨rfl, hb3⟩
        have HB3 := Lib.hid hb3
        clear hb3
        go_wp2_with fail
        refine (HNx.out _ HB3.out).mono ?_; rintro e w4 ⟨rfl, hb4⟩
        have HB4 := Lib.hid (HB3.out.trans (hb4.mono HB3.out.size))
        clear hb4
        go_wp2_with fail
        refine (HKy.out _ HB4.out).mono ?_; rintro e w5 ⟨L, A5, c5, hL, rfl, ho5, hlow5, hb5⟩
        subst hL
        have HB5 := Lib.hid (HB4.out.trans (hb5.mono HB4.out.size))
        have HSb := Lib.hid (HSa.out w5 A5 c5 HB5.out ho5)
        clear ho5 hlow5 hb5
        go_wp2_with fail
        refine HSb.out.mono ?_; rintro e w6 ⟨rfl, hb6⟩
        have HB6 := Lib.hid (HB5.out.trans (hb6.mono HB5.out.size))
        clear hb6
        first | (have q1 := HCe.out _ HB6.out) | skip
        go_wp2_with fail
        refine (HNw.out _ HB6.out).mono ?_; rintro e w7 ⟨rfl, rfl⟩
        go_wp2_with fail
        exact HQ.out _ _ _ _ _ _ _ _ _ _ _ _ _ _ _ _ _ _ _ _ _ _ _ _ _ _ _ _ _ _ _ _ _ _ _ _ _ _ _ _ _ _ _ _ _ _ _ _ _ _ _ _ _ _ _ _ _ _ _ _ _ _ _ _ _ _ _ _ _ _ _ _ _ _ _ _ _ _ _ _ _ _ _ _ _ _ _ _ _ _ _ _ _ _ _ _ _ _ _ _ _ _ _ _ (HJw.out.bl HB6.out)
end Go.Proofs.Ytbhhkjkjihenoaa.clockPlays
