/- What a tree's Above returns, of any prefix, and of no tree. Conditions as each lemma states. Printed by gen_trieabove.py. -/
import Derived.Test.YtbhhkjkjihenoaaTrieBelow
namespace Go.Proofs.Ytbhhkjkjihenoaa.tri
open Go.RowKit Go.Proofs.Ytbhhkjkjihenoaa.kit Go.Proofs.Ytbhhkjkjihenoaa.mem Go.Proofs.Ytbhhkjkjihenoaa.foot Go.Proofs.Ytbhhkjkjihenoaa.pfx
set_option linter.unusedVariables false
set_option linter.unusedSimpArgs false

/-- on the way down, these found -/
structure AbJ (w : World) (F : Foot) (t : T) (p : Key) (s : T) (An : Option Addr) (xs : List Key) (A : Option Addr) (c : Nat) (wr : World) : Prop where
  sub : Sub wr F s An
  eq : t.above p = xs ++ s.above p
  len : xs.length + s.cnt ≤ t.cnt
  own : Own wr 30 2 A xs.length c (kv xs)
  low : ∀ x, sf A x → w.heap.size + 1 ≤ x
  bel : Below (w.heap.size + 1) (w.alloc (.cells #[.int .u32 (adr p : Int), .int .i64 (p.length : Int)] 30)) wr
section
variable {w wr w' : World} {F : Foot} {t s : T} {p : Key} {A An : Option Addr} {c : Nat} {xs : List Key}
theorem AbJ.below (h : AbJ w F t p s An xs A c wr) : Below w.heap.size w wr := ((Below.refl _ _).alloc (Nat.le_refl _) _).trans (h.bel.mono (by omega))
theorem AbJ.box (h : AbJ w F t p s An xs A c wr) : Bk wr w.heap.size 30 #[.int .u32 (adr p : Int), .int .i64 (p.length : Int)] := (Bk.new w _ _).below h.bel (by omega)
theorem AbJ.size (h : AbJ w F t p s An xs A c wr) : w.heap.size + 1 ≤ wr.heap.size := by have := h.bel.size; simpa using this
theorem AbJ.go (h : AbJ w F t p s An xs A c wr) (hb : Below wr.heap.size wr w') : AbJ w F t p s An xs A c w' := ⟨h.sub.bel hb, h.eq, h.len, h.own.bel hb, h.low, h.bel.trans (hb.mono h.size)⟩
theorem AbJ.ret (h : AbJ w F t p s An xs A c wr) (he : s.above p = []) : RetKeys (t.above p) w (.returned (.slice A xs.length c)) wr := by
  have e : t.above p = xs := by rw [h.eq, he, List.append_nil]
  rw [e]
  exact ⟨A, c, rfl, h.own.nil, h.own.cap, h.own.max, h.own.rg.rd, h.below, fun ad e => by have := h.low ad.block (by rw [e, sf_some]); omega⟩
theorem AbJ.app {A2 : Option Addr} {c2 : Nat} {w0 w2 : World} {k : Key} (h : AbJ w F t p s An xs A c wr) (hF : ∀ x, F x → x < w.heap.size) (hb : Below wr.heap.size wr w0) (ho : Own w2 30 2 A2 (xs.length + 1) c2 (kv xs ++ [.int .u32 (adr k : Int), .int .i64 (k.length : Int)])) (hc : Chg (sf A) w0 w2) (hf : Fresh w0 (sf A) (sf A2)) :
    Sub w2 F s An ∧ Own w2 30 2 A2 (xs ++ [k]).length c2 (kv (xs ++ [k])) ∧ (∀ x, sf A2 x → w.heap.size + 1 ≤ x) ∧ Below (w.heap.size + 1) (w.alloc (.cells #[.int .u32 (adr p : Int), .int .i64 (p.length : Int)] 30)) w2 ∧ Below w.heap.size wr w2 := by
  have hz := h.size
  have hz2 := hb.size
  refine ⟨?_, ?_, fun x hx => ?_, ?_, ?_⟩
  · obtain ⟨G, h1, h2, h3⟩ := h.sub.bel hb
    exact ⟨G, h1.chg hc fun x hx hs => by have := hF x (h2 x hx); have := h.low x hs; omega, h2, h3⟩
  · rw [kv_snoc, List.length_append]; exact ho
  · rcases hf x hx with e | e
    · exact h.low x e
    · omega
  · exact (h.bel.trans (hb.mono hz)).trans (hc.below h.low (by omega))
  · exact (hb.mono (by omega)).trans (hc.below (fun x hx => by have := h.low x hx; omega) (by omega))
end
theorem above_node {k p : Key} {u : Int} {b : Bool} {l r : T} (h1 : k <+: p ∧ k ≠ p) : (T.node k u b l r).above p = (if b = true then [k] else []) ++ (if side k p = true then r.above p else l.above p) := by rw [T.above, if_pos h1]

set_option maxRecDepth 100000 in
set_option maxHeartbeats 2000000 in
theorem above_any {F : Foot} {tr : Nat} {t : T} (p : Key) (w : World) (hp : p.length ≤ 32) (h : Tri w F tr t) (hw : t.Wf []) (hc : t.cnt < 999990) :
    Calls Try.prog 28 #[.pointer (some ⟨tr, 0, none⟩), .agg #[.int .u32 (adr p), .int .i64 p.length]] w (RetKeys (t.above p) w) := by
  have HB0 : Hid (Below w.heap.size w (w.alloc (.cells #[.int .u32 (adr p : Int), .int .i64 (p.length : Int)] 30))) := (Below.refl _ _).alloc (Nat.le_refl _) _
  have HT := Lib.hid (top_any _ (h.bel HB0.out))
  have HLt := Lib.hid h.lt
  have HW := Lib.hid hw
  obtain ⟨i0, hi, hz0, hz1, hz2⟩ := info_parts info_pfx
  have Hi := Lib.hid hi
  have Hz0 := Lib.hid hz0
  have Hz1 := Lib.hid hz1
  have Hz2 := Lib.hid hz2
  clear h hw hi hz0 hz1 hz2
  go_enter Try.func28, Try.ntmps28
  go_wp2_with fail
  refine HT.out.mono ?_; rintro e w' ⟨⟨A0, G, rfl, _, hT, _, hG⟩, rfl⟩
  have HJ0 : Hid (AbJ w F t p t A0 [] none 0 (w.alloc (.cells #[.int .u32 (adr p : Int), .int .i64 (p.length : Int)] 30))) := ⟨⟨G, hT, hG, [], HW.out⟩, rfl, by simp, Own.none_ _ _ _, fun x hx => absurd hx (sf_none x), Below.refl _ _⟩
  clear hT hG HT
  go_wp2_with fail
  go_loopw [5, 6] (fun v5 v6 wr => ∃ s An xs A c, v5 = .slice A xs.length c ∧ v6 = .pointer An ∧ AbJ w F t p s An xs A c wr) (fun _ v wr => ptrM v wr)
  case atStart => exact ⟨t, A0, [], none, 0, rfl, rfl, HJ0.out⟩
  case round =>
    obtain ⟨s, An, xs, A, c, rfl, rfl, hJ⟩ := hrel
    have HJ := Lib.hid hJ
    clear hJ HJ0
    rcases s with _ | ⟨k, u, b, l, r⟩
    · have hA : An = none := HJ.out.sub.nil_
      subst hA
      have HE : Hid (∀ w', Below wr.heap.size wr w' → RetKeys (t.above p) w (.returned (.slice A xs.length c)) w') := fun w' hb => (HJ.out.go hb).ret rfl
      clear HJ
      go_wp2_with fail
      go_quiet (fail)
      go_wp2_with fail
      go_ret
      exact HE.out _ (below_drewN (Below.refl _ _) _)
    · obtain ⟨g, kl, kr, rfl, hg, hkl, hgF, hl, hr, hml, hmr⟩ := HJ.out.sub.node
      have hbx := HJ.out.box
      have q0 := hg.cell 0
      have q1 := hg.cell 1
      have q3 := hg.cell 3
      have q5 := hg.cell 5
      have q6 := hg.cell 6
      have p0 := hbx.cell 0
      have p1 := hbx.cell 1
      have lg := hg.lt
      have lb := hbx.lt
      simp at q0 q1 q3 q5 q6 p0 p1
      have HWi := Lib.hid (within_any (adr p) p.length (adr k) k.length (adr_lt hp) (adr_lt hkl))
      rw [within_key hkl hp] at HWi
      have HGb := Lib.hid hg
      have HSl := Lib.hid hl
      have HSr := Lib.hid hr
      have HMm := Lib.hid (And.intro hml hmr)
      have HM1 : Hid (ptrM (.pointer (some ⟨g, 0, none⟩)) wr = msz (.node k u b l r)) := ptrM_eq HJ.out.sub
      clear hg hbx hl hr hml hmr
      by_cases h1 : k <+: p ∧ k ≠ p
      · rw [decide_eq_true h1] at HWi
        have hlt := pre_lt h1.1 h1.2
        have HS := Lib.hid (side_any (adr k) k.length (adr p) k.length p.length (adr_lt hp) (by omega))
        rw [side_num hp hlt] at HS
        have HU := Lib.hid (above_node (u := u) (b := b) (l := l) (r := r) h1)
        have HC0 := HJ.out.len
        rw [T.cnt_node] at HC0
        have HCn := Lib.hid HC0
        have hxs : xs.length < 999990 := by omega
        clear h1 hlt HC0
        rcases b with _ | _
        · go_wp2_with fail
          go_region_held3 (fun w' => w'.cell? ⟨g, 0, none⟩ = some (.int .u32 (adr k : Int)) ∧ w'.cell? ⟨g, 1, none⟩ = some (.int .i64 (k.length : Int)) ∧ w'.cell? ⟨w.heap.size, 0, none⟩ = some (.int .u32 (adr p : Int)) ∧ w'.cell? ⟨w.heap.size, 1, none⟩ = some (.int .i64 (p.length : Int))) (exact ⟨by go_simp, by go_simp, by go_simp, by go_simp⟩) (first
            | (go_at_call 80; refine (HWi.out _).mono ?_; rintro e w2 ⟨rfl, hb⟩; go_must (have HBw2 : Hid (Below wr.heap.size wr w2) := ((Below.refl _ _).drew).trans hb); go_must (have q0' := (hb.cell (p := ⟨g, 0, none⟩) lg).trans q0); go_must (have q1' := (hb.cell (p := ⟨g, 1, none⟩) lg).trans q1); go_must (have p0' := (hb.cell (p := ⟨w.heap.size, 0, none⟩) lb).trans p0); go_must (have p1' := (hb.cell (p := ⟨w.heap.size, 1, none⟩) lb).trans p1); clear hb))
          have HB2 := HBw2
          clear q0' q1' p0' p1' HBw2
          have q0 := (HB2.out.cell (p := ⟨g, 0, none⟩) lg).trans q0
          have q1 := (HB2.out.cell (p := ⟨g, 1, none⟩) lg).trans q1
          have q3 := (HB2.out.cell (p := ⟨g, 3, none⟩) lg).trans q3
          have q5 := (HB2.out.cell (p := ⟨g, 5, none⟩) lg).trans q5
          have q6 := (HB2.out.cell (p := ⟨g, 6, none⟩) lg).trans q6
          have p0 := (HB2.out.cell (p := ⟨w.heap.size, 0, none⟩) lb).trans p0
          have p1 := (HB2.out.cell (p := ⟨w.heap.size, 1, none⟩) lb).trans p1
          have lg2 : g < w2.drew.heap.size := Nat.lt_of_lt_of_le lg HB2.out.size
          have lb2 : w.heap.size < w2.drew.heap.size := Nat.lt_of_lt_of_le lb HB2.out.size
          rcases hs : side k p with _ | _
          all_goals
            rw [hs] at HS HU
            simp only [if_true, if_false, Bool.false_eq_true, Int.natCast_zero, Int.natCast_one, List.nil_append] at HS HU HCn
            clear hs
            go_wp2_with fail
            go_region_held3 (fun w' => w'.cell? ⟨g, 0, none⟩ = some (.int .u32 (adr k : Int)) ∧ w'.cell? ⟨g, 1, none⟩ = some (.int .i64 (k.length : Int)) ∧ w'.cell? ⟨w.heap.size, 0, none⟩ = some (.int .u32 (adr p : Int)) ∧ w'.cell? ⟨w.heap.size, 1, none⟩ = some (.int .i64 (p.length : Int)) ∧ w'.cell? ⟨g, 5, none⟩ = some (.pointer kl) ∧ w'.cell? ⟨g, 6, none⟩ = some (.pointer kr)) (exact ⟨by go_simp, by go_simp, by go_simp, by go_simp, by go_simp, by go_simp⟩) (first
            | (go_at_call 81; refine (HS.out _).mono ?_; rintro e w3 ⟨rfl, hb⟩; go_must (have HBw3 : Hid (Below w2.heap.size w2 w3) := ((Below.refl _ _).drew).trans hb); go_must (have q0 := (hb.cell (p := ⟨g, 0, none⟩) lg2).trans q0); go_must (have q1 := (hb.cell (p := ⟨g, 1, none⟩) lg2).trans q1); go_must (have p0 := (hb.cell (p := ⟨w.heap.size, 0, none⟩) lb2).trans p0); go_must (have p1 := (hb.cell (p := ⟨w.heap.size, 1, none⟩) lb2).trans p1); go_must (have q5 := (hb.cell (p := ⟨g, 5, none⟩) lg2).trans q5); go_must (have q6 := (hb.cell (p := ⟨g, 6, none⟩) lg2).trans q6); clear hb))
            have HB3 : Hid (Below wr.heap.size wr w3) := HB2.out.trans (HBw3.out.mono HB2.out.size)
            go_wp2_with fail
            go_roundw
            case rel => first
              | exact ⟨l, kl, xs, A, c, rfl, rfl, HSl.out.bel HB3.out, by rw [HJ.out.eq, HU.out], by have := HCn.out; omega, (HJ.out.go HB3.out).own, HJ.out.low, (HJ.out.go HB3.out).bel⟩
              | exact ⟨r, kr, xs, A, c, rfl, rfl, HSr.out.bel HB3.out, by rw [HJ.out.eq, HU.out], by have := HCn.out; omega, (HJ.out.go HB3.out).own, HJ.out.low, (HJ.out.go HB3.out).bel⟩
            case measure => first
              | (have := HMm.out.1; rw [HM1.out, ptrM_eq (HSl.out.bel HB3.out)]; exact this)
              | (have := HMm.out.2; rw [HM1.out, ptrM_eq (HSr.out.bel HB3.out)]; exact this)
        · go_wp2_with fail
          go_region_held3 (fun w' => w'.cell? ⟨g, 0, none⟩ = some (.int .u32 (adr k : Int)) ∧ w'.cell? ⟨g, 1, none⟩ = some (.int .i64 (k.length : Int)) ∧ w'.cell? ⟨w.heap.size, 0, none⟩ = some (.int .u32 (adr p : Int)) ∧ w'.cell? ⟨w.heap.size, 1, none⟩ = some (.int .i64 (p.length : Int))) (exact ⟨by go_simp, by go_simp, by go_simp, by go_simp⟩) (first
            | (go_at_call 80; refine (HWi.out _).mono ?_; rintro e w2 ⟨rfl, hb⟩; go_must (have HBw2 : Hid (Below wr.heap.size wr w2) := ((Below.refl _ _).drew).trans hb); go_must (have q0' := (hb.cell (p := ⟨g, 0, none⟩) lg).trans q0); go_must (have q1' := (hb.cell (p := ⟨g, 1, none⟩) lg).trans q1); go_must (have p0' := (hb.cell (p := ⟨w.heap.size, 0, none⟩) lb).trans p0); go_must (have p1' := (hb.cell (p := ⟨w.heap.size, 1, none⟩) lb).trans p1); clear hb))
          have HB2 := HBw2
          clear q0' q1' p0' p1' HBw2
          have q0 := (HB2.out.cell (p := ⟨g, 0, none⟩) lg).trans q0
          have q1 := (HB2.out.cell (p := ⟨g, 1, none⟩) lg).trans q1
          have q3 := (HB2.out.cell (p := ⟨g, 3, none⟩) lg).trans q3
          have q5 := (HB2.out.cell (p := ⟨g, 5, none⟩) lg).trans q5
          have q6 := (HB2.out.cell (p := ⟨g, 6, none⟩) lg).trans q6
          have p0 := (HB2.out.cell (p := ⟨w.heap.size, 0, none⟩) lb).trans p0
          have p1 := (HB2.out.cell (p := ⟨w.heap.size, 1, none⟩) lb).trans p1
          have lg2 : g < w2.heap.size := Nat.lt_of_lt_of_le lg HB2.out.size
          have lb2 : w.heap.size < w2.heap.size := Nat.lt_of_lt_of_le lb HB2.out.size
          have HBn : Hid (Below w2.heap.size w2 (w2.alloc (.cells #[.int .u32 (adr k : Int), .int .i64 (k.length : Int)] 30))) := (Below.refl _ _).alloc (Nat.le_refl _) _
          have HBa : Hid (Below wr.heap.size wr (w2.alloc (.cells #[.int .u32 (adr k : Int), .int .i64 (k.length : Int)] 30))) := HB2.out.trans (HBn.out.mono HB2.out.size)
          have HO := Lib.hid ((HJ.out.go HBa.out).own)
          have HN : Hid (Rg (w2.alloc (.cells #[.int .u32 (adr k : Int), .int .i64 (k.length : Int)] 30)) (fun x => x = w2.heap.size) 2 (some ⟨w2.heap.size, 0, none⟩) 1 [.int .u32 (adr k : Int), .int .i64 (k.length : Int)]) := Rg.new w2 30 2 1 #[.int .u32 (adr k : Int), .int .i64 (k.length : Int)] rfl
          go_wp2_with (at_builtin; refine wpList_app _ rfl (.tmp 34) (.tmp 39) _ rfl 30 i0 _ 2 16 Try.underlying36 Hi.out Hz0.out Hz1.out Hz2.out rfl (by omega) A xs.length c (kv xs) rfl HO.out _ (some ⟨w2.heap.size, 0, none⟩) 1 1 (by intro h; cases h) [.int .u32 (adr k : Int), .int .i64 (k.length : Int)] rfl HN.out (by intro u hu; simp at hu; rcases hu with rfl | rfl <;> rfl) (by unfold maxLen; omega) (by omega) ?_; intro A2 c2 w4 ho2 hc2 hf2; have HX := Lib.hid (HJ.out.app HLt.out HBa.out ho2 hc2 hf2); have HC4 := Lib.hid hc2; clear ho2 hc2 hf2)
          obtain ⟨x1, x2, x3, x4, x5⟩ := HX.out
          have hgw : g < w.heap.size := HLt.out g hgF
          have hg4 := (HGb.out.below x5 hgw)
          have hb4 := ((Bk.new w 30 #[.int .u32 (adr p : Int), .int .i64 (p.length : Int)]).below x4 (by omega))
          have q0 := hg4.cell 0
          have q1 := hg4.cell 1
          have q5 := hg4.cell 5
          have q6 := hg4.cell 6
          have p0 := hb4.cell 0
          have p1 := hb4.cell 1
          have lg4 : g < w4.drew.heap.size := hg4.lt
          have lb4 : w.heap.size < w4.drew.heap.size := hb4.lt
          simp at q0 q1 q5 q6 p0 p1
          have HSub : Hid (Sub w4 F l kl ∧ Sub w4 F r kr) := by
            obtain ⟨G1, a1, a2, a3⟩ := HSl.out.bel HBa.out
            obtain ⟨G2, b1, b2, b3⟩ := HSr.out.bel HBa.out
            exact ⟨⟨G1, a1.chg HC4.out fun x hx hs => by have := HLt.out x (a2 x hx); have := HJ.out.low x hs; omega, a2, a3⟩, ⟨G2, b1.chg HC4.out fun x hx hs => by have := HLt.out x (b2 x hx); have := HJ.out.low x hs; omega, b2, b3⟩⟩
          have HO4 := Lib.hid (And.intro x2 (And.intro x3 x4))
          clear x1 x2 x3 x4 x5 hg4 hb4 HX HC4 HO HN HBn HBa
          rcases hs : side k p with _ | _
          all_goals
            rw [hs] at HS HU
            simp only [if_true, if_false, Bool.false_eq_true, Int.natCast_zero, Int.natCast_one, List.nil_append] at HS HU HCn
            clear hs
            go_region_held3 (fun w' => w'.cell? ⟨g, 0, none⟩ = some (.int .u32 (adr k : Int)) ∧ w'.cell? ⟨g, 1, none⟩ = some (.int .i64 (k.length : Int)) ∧ w'.cell? ⟨w.heap.size, 0, none⟩ = some (.int .u32 (adr p : Int)) ∧ w'.cell? ⟨w.heap.size, 1, none⟩ = some (.int .i64 (p.length : Int)) ∧ w'.cell? ⟨g, 5, none⟩ = some (.pointer kl) ∧ w'.cell? ⟨g, 6, none⟩ = some (.pointer kr)) (exact ⟨by go_simp, by go_simp, by go_simp, by go_simp, by go_simp, by go_simp⟩) (first
            | (go_at_call 81; refine (HS.out _).mono ?_; rintro e w5 ⟨rfl, hb⟩; go_must (have HBw5 : Hid (Below w4.heap.size w4 w5) := ((Below.refl _ _).drew).trans hb); go_must (have q0 := (hb.cell (p := ⟨g, 0, none⟩) lg4).trans q0); go_must (have q1 := (hb.cell (p := ⟨g, 1, none⟩) lg4).trans q1); go_must (have p0 := (hb.cell (p := ⟨w.heap.size, 0, none⟩) lb4).trans p0); go_must (have p1 := (hb.cell (p := ⟨w.heap.size, 1, none⟩) lb4).trans p1); go_must (have q5 := (hb.cell (p := ⟨g, 5, none⟩) lg4).trans q5); go_must (have q6 := (hb.cell (p := ⟨g, 6, none⟩) lg4).trans q6); clear hb))
            go_wp2_with fail
            go_roundw
            case rel => first
              | exact ⟨l, kl, xs ++ [k], A2, c2, by simp, rfl, HSub.out.1.bel HBw5.out, by rw [HJ.out.eq, HU.out, List.append_assoc], by have := HCn.out; simp; omega, HO4.out.1.bel HBw5.out, HO4.out.2.1, HO4.out.2.2.trans (HBw5.out.mono (by have := HO4.out.2.2.size; simpa using this))⟩
              | exact ⟨r, kr, xs ++ [k], A2, c2, by simp, rfl, HSub.out.2.bel HBw5.out, by rw [HJ.out.eq, HU.out, List.append_assoc], by have := HCn.out; simp; omega, HO4.out.1.bel HBw5.out, HO4.out.2.1, HO4.out.2.2.trans (HBw5.out.mono (by have := HO4.out.2.2.size; simpa using this))⟩
            case measure => first
              | (have := HMm.out.1; rw [HM1.out, ptrM_eq (HSub.out.1.bel HBw5.out)]; exact this)
              | (have := HMm.out.2; rw [HM1.out, ptrM_eq (HSub.out.2.bel HBw5.out)]; exact this)
      · rw [decide_eq_false h1] at HWi
        have HE : Hid (∀ w', Below wr.heap.size wr w' → RetKeys (t.above p) w (.returned (.slice A xs.length c)) w') := fun w' hb => (HJ.out.go hb).ret (by rw [T.above, if_neg h1])
        clear h1
        go_wp2_with fail
        go_region_held3 (fun w' => w'.cell? ⟨g, 0, none⟩ = some (.int .u32 (adr k : Int)) ∧ w'.cell? ⟨g, 1, none⟩ = some (.int .i64 (k.length : Int)) ∧ w'.cell? ⟨w.heap.size, 0, none⟩ = some (.int .u32 (adr p : Int)) ∧ w'.cell? ⟨w.heap.size, 1, none⟩ = some (.int .i64 (p.length : Int))) (exact ⟨by go_simp, by go_simp, by go_simp, by go_simp⟩) (first
            | (go_at_call 80; refine (HWi.out _).mono ?_; rintro e w2 ⟨rfl, hb⟩; go_must (have HBw2 : Hid (Below wr.heap.size wr w2) := ((Below.refl _ _).drew).trans hb); go_must (have q0' := (hb.cell (p := ⟨g, 0, none⟩) lg).trans q0); go_must (have q1' := (hb.cell (p := ⟨g, 1, none⟩) lg).trans q1); go_must (have p0' := (hb.cell (p := ⟨w.heap.size, 0, none⟩) lb).trans p0); go_must (have p1' := (hb.cell (p := ⟨w.heap.size, 1, none⟩) lb).trans p1); clear hb))
        go_wp2_with fail
        go_ret
        exact HE.out _ HBw2.out
end Go.Proofs.Ytbhhkjkjihenoaa.tri
