/- What a tree's Above returns of no good prefix and of no tree; what Longest returns. Conditions as each lemma states. -/
import Derived.Test.YtbhhkjkjihenoaaTrieAbove
namespace Go.Proofs.Ytbhhkjkjihenoaa.tri
open Go.RowKit Go.Proofs.Ytbhhkjkjihenoaa.kit Go.Proofs.Ytbhhkjkjihenoaa.mem Go.Proofs.Ytbhhkjkjihenoaa.foot Go.Proofs.Ytbhhkjkjihenoaa.pfx
set_option linter.unusedVariables false
set_option linter.unusedSimpArgs false

theorem ret_none {w w' : World} (hb : Below w.heap.size w w') : RetKeys [] w (.returned (.slice none 0 0)) w' := ⟨none, 0, rfl, NewSl.none_ 2 hb⟩
theorem above_nil (a : Nat) (n : Int) (w : World) : Calls Try.prog 28 #[.pointer none, .agg #[.int .u32 a, .int .i64 n]] w (RetKeys [] w) := by
  have HB0 : Hid (Below w.heap.size w (w.alloc (.cells #[.int .u32 (a : Int), .int .i64 n] 30))) := (Below.refl _ _).alloc (Nat.le_refl _) _
  go_enter Try.func28, Try.ntmps28
  go_wp2_with fail
  refine (top_nil _).mono ?_; rintro e w' ⟨rfl, rfl⟩
  go_wp2_with fail
  go_loopw [5, 6] (fun o v wr => o = .slice none 0 0 ∧ v = .pointer none ∧ Below w.heap.size w wr) (fun _ _ _ => 0)
  case atStart => exact ⟨rfl, rfl, HB0.out⟩
  case round =>
    obtain ⟨rfl, rfl, hb⟩ := hrel
    have HB := Lib.hid hb
    clear hb HB0
    go_wp2_with fail
    go_quiet (fail)
    go_wp2_with fail
    go_ret
    exact ret_none (below_drewN HB.out _)
set_option maxRecDepth 100000 in
set_option maxHeartbeats 1000000 in
theorem above_bad {F : Foot} {tr : Nat} {t : T} (a : Nat) (n : Int) (w : World) (ha : a < 4294967296) (hg : goodB a n = false) (h : Tri w F tr t) (hw : t.Wf []) :
    Calls Try.prog 28 #[.pointer (some ⟨tr, 0, none⟩), .agg #[.int .u32 a, .int .i64 n]] w (RetKeys [] w) := by
  have HB0 : Hid (Below w.heap.size w (w.alloc (.cells #[.int .u32 (a : Int), .int .i64 n] 30))) := (Below.refl _ _).alloc (Nat.le_refl _) _
  have HT := Lib.hid (top_any _ (h.bel HB0.out))
  have HW := Lib.hid hw
  have HGd := Lib.hid hg
  have hbx0 := Lib.hid (Bk.new w 30 #[.int .u32 (a : Int), .int .i64 n])
  clear h hw hg
  go_enter Try.func28, Try.ntmps28
  go_wp2_with fail
  refine HT.out.mono ?_; rintro e w' ⟨⟨A, G, rfl, _, hT, _, hG⟩, rfl⟩
  have HS : Hid (Sub (w.alloc (.cells #[.int .u32 (a : Int), .int .i64 n] 30)) F t A) := ⟨G, hT, hG, [], HW.out⟩
  clear hT hG HT HW
  go_wp2_with fail
  go_loopw [5, 6] (fun o v wr => o = .slice none 0 0 ∧ v = .pointer A ∧ wr = w.alloc (.cells #[.int .u32 (a : Int), .int .i64 n] 30)) (fun _ _ _ => 0)
  case atStart => exact ⟨rfl, rfl, rfl⟩
  case round =>
    obtain ⟨rfl, rfl, rfl⟩ := hrel
    generalize hw0 : w.alloc (.cells #[.int .u32 (a : Int), .int .i64 n] 30) = w0 at *
    clear hw0
    rcases t with _ | ⟨k, u, b, l, r⟩
    · have hA : A = none := HS.out.nil_
      subst hA
      clear HS
      go_wp2_with fail
      go_quiet (fail)
      go_wp2_with fail
      go_ret
      exact ret_none (below_drewN HB0.out _)
    · obtain ⟨g, kl, kr, rfl, hg, hkl, hgF, _⟩ := HS.out.node
      have q0 := hg.cell 0
      have q1 := hg.cell 1
      have p0 := hbx0.out.cell 0
      have p1 := hbx0.out.cell 1
      have lg := hg.lt
      have lb := hbx0.out.lt
      simp at q0 q1 p0 p1
      have HWi := Lib.hid (within_any a n (adr k) k.length ha (adr_lt hkl))
      rw [within_bad HGd.out] at HWi
      clear hg HS hbx0
      go_wp2_with fail
      go_region_held3 (fun w' => w'.cell? ⟨g, 0, none⟩ = some (.int .u32 (adr k : Int)) ∧ w'.cell? ⟨g, 1, none⟩ = some (.int .i64 (k.length : Int)) ∧ w'.cell? ⟨w.heap.size, 0, none⟩ = some (.int .u32 (a : Int)) ∧ w'.cell? ⟨w.heap.size, 1, none⟩ = some (.int .i64 n)) (exact ⟨by go_simp, by go_simp, by go_simp, by go_simp⟩) (first
        | (go_at_call 80; refine (HWi.out _).mono ?_; rintro e w2 ⟨rfl, hb⟩; go_must (have HB2 : Hid (Below w0.heap.size w0 w2) := ((Below.refl _ _).drew).trans hb); go_must (have q0 := (hb.cell (p := ⟨g, 0, none⟩) lg).trans q0); go_must (have q1 := (hb.cell (p := ⟨g, 1, none⟩) lg).trans q1); go_must (have p0 := (hb.cell (p := ⟨w.heap.size, 0, none⟩) lb).trans p0); go_must (have p1 := (hb.cell (p := ⟨w.heap.size, 1, none⟩) lb).trans p1); clear hb))
      go_wp2_with fail
      go_ret
      exact ret_none (HB0.out.trans (HB2.out.mono HB0.out.size))
/-- what covers a prefix, and is another one -/
def aboveL (t : T) (a : Nat) (n : Int) : List Key := if goodB a n = true then t.above (bitsOf a n.toNat) else []
theorem Above_any {F : Foot} {tr : Nat} {t : T} (a : Nat) (n : Int) (L : List Key) (w : World) (ha : a < 4294967296) (h : Tri w F tr t) (hw : t.Wf []) (hc : t.cnt < 999990) (hL : L = aboveL t a n) :
    Calls Try.prog 28 #[.pointer (some ⟨tr, 0, none⟩), .agg #[.int .u32 a, .int .i64 n]] w (RetKeys L w) := by
  subst hL
  unfold aboveL
  split
  · rename_i hg
    obtain ⟨p, hp, rfl, rfl, e⟩ := good_key ha hg
    rw [e]
    exact above_any p w hp h hw hc
  · rename_i hg
    exact above_bad a n w ha (by simpa using hg) h hw

/-- a node's key and an address -/
theorem has_key {k : Key} {x : Nat} (hk : k.length ≤ 32) (hx : x < 4294967296) : hasB (adr k) k.length x = decide (k <+: bitsOf x 32) := by
  unfold hasB
  rw [good_adr hk, Int.toNat_natCast, Bool.true_and, Bool.eq_iff_iff, beq_iff_eq, decide_eq_true_eq, ← pre_iff hx hk]
  exact ⟨fun h => ⟨by omega, h⟩, fun h => h.2⟩
theorem side_full {k : Key} {x : Nat} (h : k.length < 32) : x / 2 ^ (31 - k.length) % 2 = if side k (bitsOf x 32) = true then 1 else 0 := by
  have h1 := bits_at x 32 k.length h
  unfold side
  rw [h1]
  have := Nat.mod_lt (x / 2 ^ (31 - k.length)) (show 2 > 0 by omega)
  split <;> rename_i hh <;> simp at hh <;> omega
/-- what Longest hands back -/
def longV (o : Option (Key × Int)) : Value := match o with | some (k, u) => .tuple #[.agg #[.int .u32 (adr k : Int), .int .i64 (k.length : Int)], .int .i64 u, .bool true] | none => .tuple #[.agg #[.int .u32 0, .int .i64 0], .int .i64 0, .bool false]
/-- .. as numbers -/
def lgA (o : Option (Key × Int)) : Nat := match o with | some (k, u) => adr k | none => 0
def lgN (o : Option (Key × Int)) : Nat := match o with | some (k, u) => k.length | none => 0
def lgV (o : Option (Key × Int)) : Int := match o with | some (k, u) => u | none => 0
def lgB (o : Option (Key × Int)) : Bool := o.isSome
theorem longV_eq (o : Option (Key × Int)) : longV o = .tuple #[.agg #[.int .u32 (lgA o : Int), .int .i64 (lgN o : Int)], .int .i64 (lgV o), .bool (lgB o)] := by rcases o with _ | ⟨k, u⟩ <;> rfl
theorem res_c2 {P : Program} {fn : Func} {p m n : Tmp} {ty : TypeId} (h : fn.results = #[.cell p ty, .tmp m, .tmp n]) (tmps : Array Value) (w : World) (g : Nat) (t : TypeId) (cs : Array Value) (u v : Value) (fr : Nat × Nat) (d : TypeDesc)
    (hp : tmps.getD p undef = .pointer (some ⟨g, 0, none⟩)) (hm : tmps.getD m undef = u) (hn : tmps.getD n undef = v) (hg : w.heap[g]? = some (.cells cs t fr))
    (hu : P.underlying ty = some d) (hd : (match d with | .struct _ | .array _ _ => true | _ => false) = true) (hi : (P.info? ty).map (·.size) = some cs.size) :
    (results fn tmps).run P w = .ok (.tuple #[.agg cs, u, v]) w := by
  have hp' : tmps[p]?.getD undef = .pointer (some ⟨g, 0, none⟩) := by simpa using hp
  have hm' : tmps[m]?.getD undef = u := by simpa using hm
  have hn' : tmps[n]?.getD undef = v := by simpa using hn
  simp [results, h, hp', hm', hn', asAddr, run_loadVar_row w g t ty cs fr d hg hu hd hi]
theorem Sub.chg {w w' : World} {F E : Foot} {s : T} {A : Option Addr} (h : Sub w F s A) (hc : Chg E w w') (hd : ∀ x, F x → ¬ E x) : Sub w' F s A := by
  obtain ⟨G, h1, h2, h3⟩ := h
  exact ⟨G, h1.chg hc fun x hx => hd x (h2 x hx), h2, h3⟩
/-- on the way down -/
structure LgJ (w : World) (F : Foot) (t : T) (f : Key) (s : T) (A : Option Addr) (acc : Option (Key × Int)) (wr : World) : Prop where
  sub : Sub wr F s A
  eq : t.longest f none = s.longest f acc
  bel : Below w.heap.size w wr
  cell : Bk wr w.heap.size 30 #[.int .u32 (lgA acc : Int), .int .i64 (lgN acc : Int)]

set_option maxRecDepth 100000 in
set_option maxHeartbeats 2000000 in
theorem Longest_any {F : Foot} {tr : Nat} {t : T} (x : Nat) (o : Option (Key × Int)) (w : World) (hx : x < 4294967296) (h : Tri w F tr t) (hw : t.Wf []) (ho : o = t.longest (bitsOf x 32) none) :
    Calls Try.prog 26 #[.pointer (some ⟨tr, 0, none⟩), .int .u32 x] w fun e w' => e = .returned (.tuple #[.agg #[.int .u32 (lgA o), .int .i64 (lgN o)], .int .i64 (lgV o), .bool (lgB o)]) ∧ Below w.heap.size w w' := by
  have HB0 : Hid (Below w.heap.size w (w.alloc (.cells #[.int .u32 0, .int .i64 0] 30))) := (Below.refl _ _).alloc (Nat.le_refl _) _
  have HT := Lib.hid (top_any _ (h.bel HB0.out))
  have HLt := Lib.hid h.lt
  have HW := Lib.hid hw
  have HO := Lib.hid ho
  clear h hw ho
  go_enter Try.func26, Try.ntmps26
  go_wp2_with fail
  refine HT.out.mono ?_; rintro e w' ⟨⟨A0, G, rfl, _, hT, _, hG⟩, rfl⟩
  have HJ0 : Hid (LgJ w F t (bitsOf x 32) t A0 none (w.alloc (.cells #[.int .u32 0, .int .i64 0] 30))) := ⟨⟨G, hT, hG, [], HW.out⟩, rfl, HB0.out, Bk.new w _ _⟩
  clear hT hG HT HB0
  go_wp2_with fail
  go_loopw [5, 6, 7] (fun v5 v6 v7 wr => ∃ s A acc, v5 = .int .i64 (lgV acc) ∧ v6 = .bool (lgB acc) ∧ v7 = .pointer A ∧ LgJ w F t (bitsOf x 32) s A acc wr) (fun _ _ v wr => ptrM v wr)
  case atStart => exact ⟨t, A0, none, rfl, rfl, rfl, HJ0.out⟩
  case round =>
    obtain ⟨s, A, acc, rfl, rfl, rfl, hJ⟩ := hrel
    have HJ := Lib.hid hJ
    clear hJ HJ0
    have hcl := HJ.out.cell.cell 0
    have hcl1 := HJ.out.cell.cell 1
    have hcf := fun i => HJ.out.cell.free i
    have lb := HJ.out.cell.lt
    simp at hcl hcl1
    rcases s with _ | ⟨k, u, b, l, r⟩
    · have hA : A = none := HJ.out.sub.nil_
      subst hA
      have HE : Hid (o = acc) := by rw [Hid, HO.out, HJ.out.eq]; rfl
      go_wp2_with fail
      have KR : Hid (Bk ((wr.setCell ⟨w.heap.size, 0, none⟩ (.int .u32 (lgA acc : Int))).setCell ⟨w.heap.size, 1, none⟩ (.int .i64 (lgN acc : Int))) w.heap.size 30 #[.int .u32 (lgA acc : Int), .int .i64 (lgN acc : Int)]) := (HJ.out.cell.put 0 (.int .u32 (lgA acc : Int))).put 1 (.int .i64 (lgN acc : Int))
      exact bodyPost_ret (res_c2 rfl _ _ w.heap.size 30 #[.int .u32 (lgA acc : Int), .int .i64 (lgN acc : Int)] (.int .i64 (lgV acc)) (.bool (lgB acc)) (0, 0) _ rfl rfl rfl KR.out Try.underlying30 rfl info_prefix) rfl ⟨by rw [HE.out], ((HJ.out.bel).setCell (by exact Nat.le_refl _) _).setCell (by exact Nat.le_refl _) _⟩
    · obtain ⟨g, kl, kr, rfl, hg, hkl, hgF, hl, hr, hml, hmr⟩ := HJ.out.sub.node
      have q0 := hg.cell 0
      have q1 := hg.cell 1
      have q2 := hg.cell 2
      have q3 := hg.cell 3
      have q5 := hg.cell 5
      have q6 := hg.cell 6
      have lg := hg.lt
      simp at q0 q1 q2 q3 q5 q6
      have HHs := Lib.hid (has_any (adr k) k.length x (adr_lt hkl) hx)
      rw [has_key hkl hx] at HHs
      have HSl := Lib.hid hl
      have HSr := Lib.hid hr
      have HMm := Lib.hid (And.intro hml hmr)
      have HM1 : Hid (ptrM (.pointer (some ⟨g, 0, none⟩)) wr = msz (.node k u b l r)) := ptrM_eq HJ.out.sub
      have HGb := Lib.hid hg
      clear hg hl hr hml hmr
      by_cases h1 : k <+: bitsOf x 32
      · rw [decide_eq_true h1] at HHs
        have HBW : ∀ w2, Below wr.heap.size wr w2 → Below w.heap.size w w2 := fun w2 hb => HJ.out.bel.trans (hb.mono HJ.out.bel.size)
        have HBw := Lib.hid HBW
        have HU : Hid ((T.node k u b l r).longest (bitsOf x 32) acc = if k.length = 32 then (if b = true then some (k, u) else acc) else if side k (bitsOf x 32) = true then r.longest (bitsOf x 32) (if b = true then some (k, u) else acc) else l.longest (bitsOf x 32) (if b = true then some (k, u) else acc)) := by
          rw [Hid, T.longest, if_pos h1, bitsOf_len]
        clear h1 HBW
        rcases b with _ | _
        · simp only [if_false, Bool.false_eq_true] at HU
          by_cases e32 : k.length = 32
          · have e33 : ((k.length : Int) == 32) = true := by rw [e32]; rfl
            have HE : Hid (o = acc) := by rw [Hid, HO.out, HJ.out.eq, HU.out, if_pos e32]
            clear e32 HU
            go_wp2_with fail
            refine (HHs.out _).mono ?_; rintro e w2 ⟨rfl, hb2⟩
            have HB2 := Lib.hid hb2
            clear hb2
            have K2 := Lib.hid (HJ.out.cell.below HB2.out lb)
            have q0 := (HB2.out.cell (p := ⟨g, 0, none⟩) lg).trans q0
            have q1 := (HB2.out.cell (p := ⟨g, 1, none⟩) lg).trans q1
            have q2 := (HB2.out.cell (p := ⟨g, 2, none⟩) lg).trans q2
            have q3 := (HB2.out.cell (p := ⟨g, 3, none⟩) lg).trans q3
            have q5 := (HB2.out.cell (p := ⟨g, 5, none⟩) lg).trans q5
            have q6 := (HB2.out.cell (p := ⟨g, 6, none⟩) lg).trans q6
            have hcl := K2.out.cell 0
            have hcl1 := K2.out.cell 1
            have hcf := fun i => K2.out.free i
            have lb2 := K2.out.lt
            have lg2 : g < w2.heap.size := Nat.lt_of_lt_of_le lg HB2.out.size
            simp at hcl hcl1
            go_wp2_with fail
            have KR : Hid (Bk ((w2.setCell ⟨w.heap.size, 0, none⟩ (.int .u32 (lgA acc : Int))).setCell ⟨w.heap.size, 1, none⟩ (.int .i64 (lgN acc : Int))) w.heap.size 30 #[.int .u32 (lgA acc : Int), .int .i64 (lgN acc : Int)]) := (K2.out.put 0 (.int .u32 (lgA acc : Int))).put 1 (.int .i64 (lgN acc : Int))
            exact bodyPost_ret (res_c2 rfl _ _ w.heap.size 30 #[.int .u32 (lgA acc : Int), .int .i64 (lgN acc : Int)] (.int .i64 (lgV acc)) (.bool (lgB acc)) (0, 0) _ rfl rfl rfl KR.out Try.underlying30 rfl info_prefix) rfl ⟨by rw [HE.out], ((HBw.out _ HB2.out).setCell (by exact Nat.le_refl _) _).setCell (by exact Nat.le_refl _) _⟩
          · have e33 : ((k.length : Int) == 32) = false := by rw [beq_eq_false_iff_ne]; omega
            rw [Hid, if_neg e32] at HU
            have HU := Lib.hid HU
            have HSd := Lib.hid (bit_any x k.length hx (by omega))
            rw [side_full (by omega)] at HSd
            clear e32
            rcases hs : side k (bitsOf x 32) with _ | _
            all_goals
              rw [hs] at HSd HU
              simp only [if_true, if_false, Bool.false_eq_true, Int.natCast_zero, Int.natCast_one] at HSd HU
              clear hs
              go_wp2_with fail
              refine (HHs.out _).mono ?_; rintro e w2 ⟨rfl, hb2⟩
              have HB2 := Lib.hid hb2
              clear hb2
              have K2 := Lib.hid (HJ.out.cell.below HB2.out lb)
              have q0 := (HB2.out.cell (p := ⟨g, 0, none⟩) lg).trans q0
              have q1 := (HB2.out.cell (p := ⟨g, 1, none⟩) lg).trans q1
              have q2 := (HB2.out.cell (p := ⟨g, 2, none⟩) lg).trans q2
              have q3 := (HB2.out.cell (p := ⟨g, 3, none⟩) lg).trans q3
              have q5 := (HB2.out.cell (p := ⟨g, 5, none⟩) lg).trans q5
              have q6 := (HB2.out.cell (p := ⟨g, 6, none⟩) lg).trans q6
              have hcl := K2.out.cell 0
              have hcl1 := K2.out.cell 1
              have hcf := fun i => K2.out.free i
              have lb2 := K2.out.lt
              have lg2 : g < w2.heap.size := Nat.lt_of_lt_of_le lg HB2.out.size
              simp at hcl hcl1
              go_wp2_with fail
              go_region_held3 (fun w' => w'.cell? ⟨g, 1, none⟩ = some (.int .i64 (k.length : Int)) ∧ w'.cell? ⟨g, 5, none⟩ = some (.pointer kl) ∧ w'.cell? ⟨g, 6, none⟩ = some (.pointer kr)) (exact ⟨by go_simp, by go_simp, by go_simp⟩) (first
                | (go_at_call 79; refine (HSd.out _).mono ?_; rintro e w' ⟨rfl, rfl⟩))
              have HB3 : Hid (Below wr.heap.size wr w2.drew) := HB2.out.drew
              go_wp2_with fail
              go_roundw
              case rel => first
                | exact ⟨l, kl, acc, rfl, rfl, rfl, HSl.out.bel HB3.out, by rw [HJ.out.eq, HU.out], HBw.out _ HB3.out, K2.out.drew⟩
                | exact ⟨r, kr, acc, rfl, rfl, rfl, HSr.out.bel HB3.out, by rw [HJ.out.eq, HU.out], HBw.out _ HB3.out, K2.out.drew⟩
              case measure => first
                | (have := HMm.out.1; rw [HM1.out, ptrM_eq (HSl.out.bel HB3.out)]; exact this)
                | (have := HMm.out.2; rw [HM1.out, ptrM_eq (HSr.out.bel HB3.out)]; exact this)
        · simp only [if_true] at HU
          by_cases e32 : k.length = 32
          · have e33 : ((k.length : Int) == 32) = true := by rw [e32]; rfl
            have HE : Hid (o = some (k, u)) := by rw [Hid, HO.out, HJ.out.eq, HU.out, if_pos e32]
            clear e32 HU
            go_wp2_with fail
            refine (HHs.out _).mono ?_; rintro e w2 ⟨rfl, hb2⟩
            have HB2 := Lib.hid hb2
            clear hb2
            have K2 := Lib.hid (HJ.out.cell.below HB2.out lb)
            have q0 := (HB2.out.cell (p := ⟨g, 0, none⟩) lg).trans q0
            have q1 := (HB2.out.cell (p := ⟨g, 1, none⟩) lg).trans q1
            have q2 := (HB2.out.cell (p := ⟨g, 2, none⟩) lg).trans q2
            have q3 := (HB2.out.cell (p := ⟨g, 3, none⟩) lg).trans q3
            have q5 := (HB2.out.cell (p := ⟨g, 5, none⟩) lg).trans q5
            have q6 := (HB2.out.cell (p := ⟨g, 6, none⟩) lg).trans q6
            have hcl := K2.out.cell 0
            have hcl1 := K2.out.cell 1
            have hcf := fun i => K2.out.free i
            have lb2 := K2.out.lt
            have lg2 : g < w2.heap.size := Nat.lt_of_lt_of_le lg HB2.out.size
            simp at hcl hcl1
            go_wp2_with fail
            have hgne : ¬ g = w.heap.size := by have := HLt.out g hgF; omega
            go_region_held3 (fun w' => w'.cell? ⟨g, 0, none⟩ = some (.int .u32 (adr k : Int)) ∧ w'.cell? ⟨g, 1, none⟩ = some (.int .i64 (k.length : Int)) ∧ w'.cell? ⟨g, 2, none⟩ = some (.int .i64 u)) (exact ⟨by go_simp, by go_simp, by go_simp⟩) (fail)
            have hgw : g < w.heap.size := HLt.out g hgF
            have HC3 : Hid (Chg (fun z => z = w.heap.size) w2 ((w2.setCell ⟨w.heap.size, 0, none⟩ (.int .u32 (adr k : Int))).setCell ⟨w.heap.size, 1, none⟩ (.int .i64 (k.length : Int))).drew) := (((Chg.refl (fun z => z = w.heap.size) w2).put (p := ⟨w.heap.size, 0, none⟩) (.inl rfl) _).put (p := ⟨w.heap.size, 1, none⟩) (.inl rfl) _).drew
            have K3 : Hid (Bk ((w2.setCell ⟨w.heap.size, 0, none⟩ (.int .u32 (adr k : Int))).setCell ⟨w.heap.size, 1, none⟩ (.int .i64 (k.length : Int))).drew w.heap.size 30 #[.int .u32 (adr k : Int), .int .i64 (k.length : Int)]) := ((K2.out.put 0 (.int .u32 (adr k : Int))).put 1 (.int .i64 (k.length : Int))).drew
            have HB3 : Hid (Below w.heap.size w ((w2.setCell ⟨w.heap.size, 0, none⟩ (.int .u32 (adr k : Int))).setCell ⟨w.heap.size, 1, none⟩ (.int .i64 (k.length : Int))).drew) := (((HBw.out _ HB2.out).setCell (by exact Nat.le_refl _) _).setCell (by exact Nat.le_refl _) _).drew
            have HSl3 : Hid (Sub ((w2.setCell ⟨w.heap.size, 0, none⟩ (.int .u32 (adr k : Int))).setCell ⟨w.heap.size, 1, none⟩ (.int .i64 (k.length : Int))).drew F l kl) := (HSl.out.bel HB2.out).chg HC3.out (fun z hz e => by have := HLt.out z hz; have e' : z = w.heap.size := e; omega)
            have HSr3 : Hid (Sub ((w2.setCell ⟨w.heap.size, 0, none⟩ (.int .u32 (adr k : Int))).setCell ⟨w.heap.size, 1, none⟩ (.int .i64 (k.length : Int))).drew F r kr) := (HSr.out.bel HB2.out).chg HC3.out (fun z hz e => by have := HLt.out z hz; have e' : z = w.heap.size := e; omega)
            have HG3 : Hid (Bk ((w2.setCell ⟨w.heap.size, 0, none⟩ (.int .u32 (adr k : Int))).setCell ⟨w.heap.size, 1, none⟩ (.int .i64 (k.length : Int))).drew g 138 (nodeV k u true (T.node k u true l r).cnt kl kr)) := (HGb.out.below HB2.out lg).chg HC3.out (fun e => by have e' : g = w.heap.size := e; omega)
            clear q0 q1 q2 q3 q5 q6 hcl hcl1 hcf lb2 lg2 HC3
            generalize ((w2.setCell ⟨w.heap.size, 0, none⟩ (.int .u32 (adr k : Int))).setCell ⟨w.heap.size, 1, none⟩ (.int .i64 (k.length : Int))).drew = w3 at *
            have q1 := HG3.out.cell 1
            have q5 := HG3.out.cell 5
            have q6 := HG3.out.cell 6
            have hcl := K3.out.cell 0
            have hcl1 := K3.out.cell 1
            have hcf := fun i => K3.out.free i
            have lb3 := K3.out.lt
            have lg3 := HG3.out.lt
            simp at q1 q5 q6 hcl hcl1
            go_wp2_with fail
            have KR : Hid (Bk ((w3.setCell ⟨w.heap.size, 0, none⟩ (.int .u32 (adr k : Int))).setCell ⟨w.heap.size, 1, none⟩ (.int .i64 (k.length : Int))) w.heap.size 30 #[.int .u32 (adr k : Int), .int .i64 (k.length : Int)]) := (K3.out.put 0 (.int .u32 (adr k : Int))).put 1 (.int .i64 (k.length : Int))
            exact bodyPost_ret (res_c2 rfl _ _ w.heap.size 30 #[.int .u32 (adr k : Int), .int .i64 (k.length : Int)] (.int .i64 u) (.bool true) (0, 0) _ rfl rfl rfl KR.out Try.underlying30 rfl info_prefix) rfl ⟨by rw [HE.out]; rfl, ((HB3.out).setCell (by exact Nat.le_refl _) _).setCell (by exact Nat.le_refl _) _⟩
          · have e33 : ((k.length : Int) == 32) = false := by rw [beq_eq_false_iff_ne]; omega
            rw [Hid, if_neg e32] at HU
            have HU := Lib.hid HU
            have HSd := Lib.hid (bit_any x k.length hx (by omega))
            rw [side_full (by omega)] at HSd
            clear e32
            rcases hs : side k (bitsOf x 32) with _ | _
            all_goals
              rw [hs] at HSd HU
              simp only [if_true, if_false, Bool.false_eq_true, Int.natCast_zero, Int.natCast_one] at HSd HU
              clear hs
              go_wp2_with fail
              refine (HHs.out _).mono ?_; rintro e w2 ⟨rfl, hb2⟩
              have HB2 := Lib.hid hb2
              clear hb2
              have K2 := Lib.hid (HJ.out.cell.below HB2.out lb)
              have q0 := (HB2.out.cell (p := ⟨g, 0, none⟩) lg).trans q0
              have q1 := (HB2.out.cell (p := ⟨g, 1, none⟩) lg).trans q1
              have q2 := (HB2.out.cell (p := ⟨g, 2, none⟩) lg).trans q2
              have q3 := (HB2.out.cell (p := ⟨g, 3, none⟩) lg).trans q3
              have q5 := (HB2.out.cell (p := ⟨g, 5, none⟩) lg).trans q5
              have q6 := (HB2.out.cell (p := ⟨g, 6, none⟩) lg).trans q6
              have hcl := K2.out.cell 0
              have hcl1 := K2.out.cell 1
              have hcf := fun i => K2.out.free i
              have lb2 := K2.out.lt
              have lg2 : g < w2.heap.size := Nat.lt_of_lt_of_le lg HB2.out.size
              simp at hcl hcl1
              go_wp2_with fail
              have hgne : ¬ g = w.heap.size := by have := HLt.out g hgF; omega
              go_region_held3 (fun w' => w'.cell? ⟨g, 0, none⟩ = some (.int .u32 (adr k : Int)) ∧ w'.cell? ⟨g, 1, none⟩ = some (.int .i64 (k.length : Int)) ∧ w'.cell? ⟨g, 2, none⟩ = some (.int .i64 u)) (exact ⟨by go_simp, by go_simp, by go_simp⟩) (fail)
              have hgw : g < w.heap.size := HLt.out g hgF
              have HC3 : Hid (Chg (fun z => z = w.heap.size) w2 ((w2.setCell ⟨w.heap.size, 0, none⟩ (.int .u32 (adr k : Int))).setCell ⟨w.heap.size, 1, none⟩ (.int .i64 (k.length : Int))).drew) := (((Chg.refl (fun z => z = w.heap.size) w2).put (p := ⟨w.heap.size, 0, none⟩) (.inl rfl) _).put (p := ⟨w.heap.size, 1, none⟩) (.inl rfl) _).drew
              have K3 : Hid (Bk ((w2.setCell ⟨w.heap.size, 0, none⟩ (.int .u32 (adr k : Int))).setCell ⟨w.heap.size, 1, none⟩ (.int .i64 (k.length : Int))).drew w.heap.size 30 #[.int .u32 (adr k : Int), .int .i64 (k.length : Int)]) := ((K2.out.put 0 (.int .u32 (adr k : Int))).put 1 (.int .i64 (k.length : Int))).drew
              have HB3 : Hid (Below w.heap.size w ((w2.setCell ⟨w.heap.size, 0, none⟩ (.int .u32 (adr k : Int))).setCell ⟨w.heap.size, 1, none⟩ (.int .i64 (k.length : Int))).drew) := (((HBw.out _ HB2.out).setCell (by exact Nat.le_refl _) _).setCell (by exact Nat.le_refl _) _).drew
              have HSl3 : Hid (Sub ((w2.setCell ⟨w.heap.size, 0, none⟩ (.int .u32 (adr k : Int))).setCell ⟨w.heap.size, 1, none⟩ (.int .i64 (k.length : Int))).drew F l kl) := (HSl.out.bel HB2.out).chg HC3.out (fun z hz e => by have := HLt.out z hz; have e' : z = w.heap.size := e; omega)
              have HSr3 : Hid (Sub ((w2.setCell ⟨w.heap.size, 0, none⟩ (.int .u32 (adr k : Int))).setCell ⟨w.heap.size, 1, none⟩ (.int .i64 (k.length : Int))).drew F r kr) := (HSr.out.bel HB2.out).chg HC3.out (fun z hz e => by have := HLt.out z hz; have e' : z = w.heap.size := e; omega)
              have HG3 : Hid (Bk ((w2.setCell ⟨w.heap.size, 0, none⟩ (.int .u32 (adr k : Int))).setCell ⟨w.heap.size, 1, none⟩ (.int .i64 (k.length : Int))).drew g 138 (nodeV k u true (T.node k u true l r).cnt kl kr)) := (HGb.out.below HB2.out lg).chg HC3.out (fun e => by have e' : g = w.heap.size := e; omega)
              clear q0 q1 q2 q3 q5 q6 hcl hcl1 hcf lb2 lg2 HC3
              generalize ((w2.setCell ⟨w.heap.size, 0, none⟩ (.int .u32 (adr k : Int))).setCell ⟨w.heap.size, 1, none⟩ (.int .i64 (k.length : Int))).drew = w3 at *
              have q1 := HG3.out.cell 1
              have q5 := HG3.out.cell 5
              have q6 := HG3.out.cell 6
              have hcl := K3.out.cell 0
              have hcl1 := K3.out.cell 1
              have hcf := fun i => K3.out.free i
              have lb3 := K3.out.lt
              have lg3 := HG3.out.lt
              simp at q1 q5 q6 hcl hcl1
              go_wp2_with fail
              go_region_held3 (fun w' => w'.cell? ⟨g, 1, none⟩ = some (.int .i64 (k.length : Int)) ∧ w'.cell? ⟨g, 5, none⟩ = some (.pointer kl) ∧ w'.cell? ⟨g, 6, none⟩ = some (.pointer kr)) (exact ⟨by go_simp, by go_simp, by go_simp⟩) (first
                | (go_at_call 79; refine (HSd.out _).mono ?_; rintro e w' ⟨rfl, rfl⟩))
              have HB4 : Hid (Below w3.heap.size w3 w3.drew) := (Below.refl _ _).drew
              go_wp2_with fail
              go_roundw
              case rel => first
                | exact ⟨l, kl, some (k, u), rfl, rfl, rfl, HSl3.out.bel HB4.out, by rw [HJ.out.eq, HU.out], HB3.out.drew, K3.out.drew⟩
                | exact ⟨r, kr, some (k, u), rfl, rfl, rfl, HSr3.out.bel HB4.out, by rw [HJ.out.eq, HU.out], HB3.out.drew, K3.out.drew⟩
              case measure => first
                | (have := HMm.out.1; rw [HM1.out, ptrM_eq (HSl3.out.bel HB4.out)]; exact this)
                | (have := HMm.out.2; rw [HM1.out, ptrM_eq (HSr3.out.bel HB4.out)]; exact this)
      · rw [decide_eq_false h1] at HHs
        have HE : Hid (o = acc) := by rw [Hid, HO.out, HJ.out.eq, T.longest, if_neg h1]
        clear h1
        go_wp2_with fail
        refine (HHs.out _).mono ?_; rintro e w2 ⟨rfl, hb2⟩
        have HB2 := Lib.hid hb2
        clear hb2
        have K2 := Lib.hid (HJ.out.cell.below HB2.out lb)
        have q0 := (HB2.out.cell (p := ⟨g, 0, none⟩) lg).trans q0
        have q1 := (HB2.out.cell (p := ⟨g, 1, none⟩) lg).trans q1
        have q2 := (HB2.out.cell (p := ⟨g, 2, none⟩) lg).trans q2
        have q3 := (HB2.out.cell (p := ⟨g, 3, none⟩) lg).trans q3
        have q5 := (HB2.out.cell (p := ⟨g, 5, none⟩) lg).trans q5
        have q6 := (HB2.out.cell (p := ⟨g, 6, none⟩) lg).trans q6
        have hcl := K2.out.cell 0
        have hcl1 := K2.out.cell 1
        have hcf := fun i => K2.out.free i
        have lb2 := K2.out.lt
        have lg2 : g < w2.heap.size := Nat.lt_of_lt_of_le lg HB2.out.size
        simp at hcl hcl1
        go_wp2_with fail
        have KR : Hid (Bk ((w2.setCell ⟨w.heap.size, 0, none⟩ (.int .u32 (lgA acc : Int))).setCell ⟨w.heap.size, 1, none⟩ (.int .i64 (lgN acc : Int))) w.heap.size 30 #[.int .u32 (lgA acc : Int), .int .i64 (lgN acc : Int)]) := (K2.out.put 0 (.int .u32 (lgA acc : Int))).put 1 (.int .i64 (lgN acc : Int))
        exact bodyPost_ret (res_c2 rfl _ _ w.heap.size 30 #[.int .u32 (lgA acc : Int), .int .i64 (lgN acc : Int)] (.int .i64 (lgV acc)) (.bool (lgB acc)) (0, 0) _ rfl rfl rfl KR.out Try.underlying30 rfl info_prefix) rfl ⟨by rw [HE.out], ((HJ.out.bel.trans (HB2.out.mono HJ.out.bel.size)).setCell (by exact Nat.le_refl _) _).setCell (by exact Nat.le_refl _) _⟩
end Go.Proofs.Ytbhhkjkjihenoaa.tri
