/- What a tree's Get, Cut return and leave; find, Put, Get, Cut of what is no good prefix, and of no tree. Condition: fewer than a million keys. -/
import Derived.Test.YtbhhkjkjihenoaaTrieCut2
namespace Go.Proofs.Ytbhhkjkjihenoaa.tri
open Go.RowKit Go.Proofs.Ytbhhkjkjihenoaa.kit Go.Proofs.Ytbhhkjkjihenoaa.mem Go.Proofs.Ytbhhkjkjihenoaa.foot Go.Proofs.Ytbhhkjkjihenoaa.pfx
set_option linter.unusedVariables false
set_option linter.unusedSimpArgs false

/-- what a search of a prefix that is not good, or in no tree, hands back -/
theorem find_bad (tr : Nat) (a : Nat) (n : Int) (w : World) (ha : a < 4294967296) (hg : goodB a n = false) : Calls Try.prog 72 #[.pointer (some ⟨tr, 0, none⟩), .agg #[.int .u32 a, .int .i64 n]] w fun e w' => e = .returned (.pointer none) ∧ Below w.heap.size w w' := by
  have HG := Lib.hid (good_any a n ha)
  rw [hg] at HG
  clear hg
  go_enter Try.func72, Try.ntmps72
  go_wp2_with fail
  refine wp_scope_jumps 0 (fun _ _ => False) (fun _ _ => 0) rfl ?_ (fun _ _ h => h.elim)
  go_wp2_with fail
  refine (HG.out _).mono ?_; rintro e w1 ⟨rfl, hb1⟩
  have HB := Lib.hid (((Below.refl _ _).alloc (Nat.le_refl _) (.cells #[.int .u32 (a : Int), .int .i64 n] 30)).trans (hb1.mono (by simp)))
  clear hb1
  go_wp2_with fail
  try simp only [Exit.jump]
  go_ret
  exact ⟨rfl, HB.out⟩
theorem find_nil (a : Nat) (n : Int) (w : World) : Calls Try.prog 72 #[.pointer none, .agg #[.int .u32 a, .int .i64 n]] w fun e w' => e = .returned (.pointer none) ∧ Below w.heap.size w w' := by
  go_enter Try.func72, Try.ntmps72
  go_wp2_with fail
  refine wp_scope_jumps 0 (fun _ _ => False) (fun _ _ => 0) rfl ?_ (fun _ _ h => h.elim)
  go_wp2_with fail
  try simp only [Exit.jump]
  go_ret
  exact ⟨rfl, (Below.refl _ _).alloc (Nat.le_refl _) _⟩
theorem Put_bad (tr : Nat) (a : Nat) (n v : Int) (w : World) (ha : a < 4294967296) (hg : goodB a n = false) : Calls Try.prog 19 #[.pointer (some ⟨tr, 0, none⟩), .agg #[.int .u32 a, .int .i64 n], .int .i64 v] w fun e w' => e = .returned (.tuple #[.int .i64 0, .bool false]) ∧ Below w.heap.size w w' := by
  have HG := Lib.hid (good_any a n ha)
  rw [hg] at HG
  clear hg
  go_enter Try.func19, Try.ntmps19
  go_wp2_with fail
  refine (HG.out _).mono ?_; rintro e w1 ⟨rfl, hb1⟩
  have HB := Lib.hid (((Below.refl _ _).alloc (Nat.le_refl _) (.cells #[.int .u32 (a : Int), .int .i64 n] 30)).trans (hb1.mono (by simp)))
  clear hb1
  go_wp2_with fail
  go_ret2
  exact ⟨rfl, HB.out⟩
theorem Put_nil (a : Nat) (n v : Int) (w : World) : Calls Try.prog 19 #[.pointer none, .agg #[.int .u32 a, .int .i64 n], .int .i64 v] w fun e w' => e = .returned (.tuple #[.int .i64 0, .bool false]) ∧ Below w.heap.size w w' := by
  go_enter Try.func19, Try.ntmps19
  go_wp2_with fail
  go_ret2
  exact ⟨rfl, (Below.refl _ _).alloc (Nat.le_refl _) _⟩
/-- a search that finds none -/
theorem Get_none (A : Option Addr) (a : Nat) (n : Int) (w : World) (hf : ∀ w, Calls Try.prog 72 #[.pointer A, .agg #[.int .u32 a, .int .i64 n]] w fun e w' => e = .returned (.pointer none) ∧ Below w.heap.size w w') :
    Calls Try.prog 20 #[.pointer A, .agg #[.int .u32 a, .int .i64 n]] w fun e w' => e = .returned (.tuple #[.int .i64 0, .bool false]) ∧ Below w.heap.size w w' := by
  have HF := Lib.hid hf
  clear hf
  go_enter Try.func20, Try.ntmps20
  go_wp2_with fail
  refine (HF.out _).mono ?_; rintro e w1 ⟨rfl, hb1⟩
  have HB := Lib.hid (((Below.refl _ _).alloc (Nat.le_refl _) (.cells #[.int .u32 (a : Int), .int .i64 n] 30)).trans (hb1.mono (by simp)))
  clear hb1
  go_wp2_with fail
  go_ret2
  exact ⟨rfl, HB.out⟩
theorem Cut_none (A : Option Addr) (a : Nat) (n : Int) (w : World) (hf : ∀ w, Calls Try.prog 72 #[.pointer A, .agg #[.int .u32 a, .int .i64 n]] w fun e w' => e = .returned (.pointer none) ∧ Below w.heap.size w w') :
    Calls Try.prog 21 #[.pointer A, .agg #[.int .u32 a, .int .i64 n]] w fun e w' => e = .returned (.tuple #[.int .i64 0, .bool false]) ∧ Below w.heap.size w w' := by
  have HF := Lib.hid hf
  clear hf
  go_enter Try.func21, Try.ntmps21
  go_wp2_with fail
  refine (HF.out _).mono ?_; rintro e w1 ⟨rfl, hb1⟩
  have HB := Lib.hid (((Below.refl _ _).alloc (Nat.le_refl _) (.cells #[.int .u32 (a : Int), .int .i64 n] 30)).trans (hb1.mono (by simp)))
  clear hb1
  go_wp2_with fail
  go_ret2
  exact ⟨rfl, HB.out⟩

/-- the node that was found, as cells -/
theorem Found.cells {w w1 : World} {F : Foot} {tr : Nat} {t : T} {p k : Key} {u : Int} {b : Bool} {l r : T} {A : Option Addr} (hf : Found w F tr t p (.node k u b l r) A) (hb : Below w.heap.size w w1) :
    ∃ g kl kr, A = some ⟨g, 0, none⟩ ∧ Bk w1 g 138 (nodeV k u b (T.node k u b l r).cnt kl kr) := by
  obtain ⟨G, ⟨g, FL, FR, kl, kr, e, c1, _⟩, _⟩ := hf
  exact ⟨g, kl, kr, e, c1.below hb c1.lt⟩
set_option maxRecDepth 100000 in
theorem Get_any {F : Foot} {tr : Nat} {t : T} (p : Key) (w : World) (hp : p.length ≤ 32) (h : Tri w F tr t) (hw : t.Wf []) :
    Calls Try.prog 20 #[.pointer (some ⟨tr, 0, none⟩), .agg #[.int .u32 (adr p), .int .i64 p.length]] w fun e w' => e = .returned (.tuple #[.int .i64 (wasV t p), .bool (hadB t p)]) ∧ Below w.heap.size w w' := by
  have HB0 : Hid (Below w.heap.size w (w.alloc (.cells #[.int .u32 (adr p : Int), .int .i64 (p.length : Int)] 30))) := (Below.refl _ _).alloc (Nat.le_refl _) _
  have HF := Lib.hid (find_any p _ hp (h.bel HB0.out) hw)
  clear h hw
  go_enter Try.func20, Try.ntmps20
  go_wp2_with fail
  refine HF.out.mono ?_; rintro e w1 ⟨A, rfl, hb1, hfd⟩
  have HB1 := Lib.hid (HB0.out.trans (hb1.mono HB0.out.size))
  have HE : Hid (wasV t p = (match (t.find p).got with | some u => u | none => 0) ∧ hadB t p = (t.find p).got.isSome) := ⟨rfl, rfl⟩
  rcases hs : t.find p with _ | ⟨k, u, b, l, r⟩
  · rw [hs] at HE hfd
    have hA : A = none := by obtain ⟨_, h1, _⟩ := hfd; exact h1
    subst hA
    clear hs hfd hb1
    go_wp2_with fail
    go_ret2
    exact ⟨by rw [HE.out.1, HE.out.2]; rfl, HB1.out⟩
  · rw [hs] at HE hfd
    obtain ⟨g, kl, kr, rfl, hg⟩ := hfd.cells hb1
    have q2 := hg.cell 2
    have q3 := hg.cell 3
    simp at q2 q3
    clear hs hfd hb1 hg
    rcases b with _ | _
    all_goals
      go_wp2_with fail
      go_ret2
      exact ⟨by rw [HE.out.1, HE.out.2]; rfl, HB1.out⟩

/-- what Cut leaves -/
def CutQ (t : T) (p : Key) (F : Foot) (tr : Nat) (w : World) (e : Ending) (w' : World) : Prop := e = .returned (.tuple #[.int .i64 (wasV t p), .bool (hadB t p)]) ∧ Stood w F tr (if hadB t p = true then t.cut p else t) w'
set_option maxRecDepth 100000 in
set_option maxHeartbeats 1000000 in
theorem Cut_any {F : Foot} {tr : Nat} {t : T} (p : Key) (w : World) (hp : p.length ≤ 32) (h : Tri w F tr t) (hw : t.Wf []) (hc : t.cnt < 999990) :
    Calls Try.prog 21 #[.pointer (some ⟨tr, 0, none⟩), .agg #[.int .u32 (adr p), .int .i64 p.length]] w (CutQ t p F tr w) := by
  obtain ⟨⟨A, G, hk, htr, hGt, hGF⟩, hmem, hlt⟩ := id h
  have HB0 : Hid (Below w.heap.size w (w.alloc (.cells #[.int .u32 (adr p : Int), .int .i64 (p.length : Int)] 30))) := (Below.refl _ _).alloc (Nat.le_refl _) _
  have KX := Lib.hid (Bk.new w 30 #[.int .u32 (adr p : Int), .int .i64 (p.length : Int)])
  have HF := Lib.hid (find_any p _ hp (h.bel HB0.out) hw)
  have H := Lib.hid h
  have HC := Lib.hid hc
  have HK := Lib.hid hk
  have HTr := Lib.hid htr
  have HGt := Lib.hid hGt
  have HGF := Lib.hid hGF
  have HLt := Lib.hid hlt
  have htl := hk.lt
  clear h hw hc hk htr hGt hGF hlt
  go_enter Try.func21, Try.ntmps21
  go_wp2_with fail
  refine HF.out.mono ?_; rintro e w2 ⟨A2, rfl, hb1, hfd⟩
  have HB2 := Lib.hid (HB0.out.trans (hb1.mono HB0.out.size))
  have kx2 := KX.out.below hb1 KX.out.lt
  have p0 := kx2.cell 0
  have p1 := kx2.cell 1
  have pl := kx2.lt
  simp at p0 p1
  have HWas : Hid (wasV t p = (match (t.find p).got with | some u => u | none => 0)) := rfl
  have HHad : Hid (hadB t p = (t.find p).got.isSome) := rfl
  rcases hs : t.find p with _ | ⟨k, u, b, l, r⟩
  · rw [hs] at HWas HHad hfd
    have hA : A2 = none := by obtain ⟨_, h1, _⟩ := hfd; exact h1
    subst hA
    clear hs hfd hb1 kx2
    have HE : Hid (CutQ t p F tr w (.returned (.tuple #[.int .i64 0, .bool false])) w2) := ⟨by rw [HWas.out, HHad.out]; rfl, by rw [HHad.out]; exact Stood.same H.out HB2.out⟩
    clear HWas HHad
    go_wp2_with fail
    go_ret2
    exact HE.out
  · obtain ⟨g, kl, kr, rfl, hg⟩ : ∃ g kl kr, A2 = some ⟨g, 0, none⟩ ∧ Bk w2 g 138 (nodeV k u b (T.node k u b l r).cnt kl kr) := by rw [hs] at hfd; exact hfd.cells hb1
    have hnn : t.find p ≠ .nil := by rw [hs]; simp
    rw [hs] at HWas HHad
    have r2 := hg.cell 2
    have r3 := hg.cell 3
    simp at r2 r3
    have q0 := (HK.out.below HB2.out htl).cell 0
    have ql := (HK.out.below HB2.out htl).lt
    simp at q0
    have HP := Lib.hid (cut_any p hp t G A w2.drew hnn ((HTr.out.bel HB2.out).drew) (fun x hx => Nat.lt_of_lt_of_le (HLt.out x (HGF.out x hx)) HB2.out.size) HC.out)
    clear hs hfd hb1 kx2 hg hnn
    rcases b with _ | _
    · have HE : Hid (CutQ t p F tr w (.returned (.tuple #[.int .i64 0, .bool false])) w2) := ⟨by rw [HWas.out, HHad.out]; rfl, by rw [HHad.out]; exact Stood.same H.out HB2.out⟩
      clear HWas HHad HP
      go_wp2_with fail
      go_ret2
      exact HE.out
    · have HE : Hid (∀ w', Stood w F tr (t.cut p) w' → CutQ t p F tr w (.returned (.tuple #[.int .i64 u, .bool true])) w') := fun w' h => ⟨by rw [HWas.out, HHad.out]; rfl, by rw [HHad.out]; exact h⟩
      clear HWas HHad
      go_wp2_with fail
      go_region_with (first
        | (go_at_call 74; refine HP.out.mono ?_; rintro e w3 ⟨A3, rfl, hL3⟩; go_must (have HR := Lib.hid (Stood.root H.out HK.out HGt.out HGF.out HB2.out.drew hL3)); go_must (have s0 := HR.out.1.cell 0); go_must (have sf := HR.out.1.free 0); go_must (have sl := HR.out.1.lt); simp at s0; clear hL3))
      all_goals
        go_wp2_with fail
        go_ret2
        exact HE.out _ HR.out.2
end Go.Proofs.Ytbhhkjkjihenoaa.tri
