/- What a tree's find returns of a good prefix, and of one that is not good. Conditions as each lemma states. -/
import Derived.Test.YtbhhkjkjihenoaaTrieFind
import Derived.Scope
import Derived.ScopeJumps
namespace Go.Proofs.Ytbhhkjkjihenoaa.tri
open Go.RowKit Go.Proofs.Ytbhhkjkjihenoaa.kit Go.Proofs.Ytbhhkjkjihenoaa.mem Go.Proofs.Ytbhhkjkjihenoaa.foot Go.Proofs.Ytbhhkjkjihenoaa.pfx
set_option linter.unusedVariables false
set_option linter.unusedSimpArgs false

/-- what find leaves -/
def FindP (w : World) (F : Foot) (tr : Nat) (t : T) (p : Key) (e : Ending) (w' : World) : Prop := ∃ A, e = .returned (.pointer A) ∧ Below w.heap.size w w' ∧ Found w F tr t p (t.find p) A
/-- on the way down -/
structure FindJ (w : World) (F : Foot) (tr : Nat) (t : T) (p : Key) (s : T) (A : Option Addr) (wr : World) : Prop where
  at_ : Found w F tr t p s A
  wf : ∃ c, s.Wf c
  bel : Below (w.heap.size + 1) (w.alloc (.cells #[.int .u32 (adr p : Int), .int .i64 (p.length : Int)] 30)) wr
section
variable {w wr w' : World} {F : Foot} {tr : Nat} {t s : T} {p : Key} {A : Option Addr}
theorem FindJ.below (h : FindJ w F tr t p s A wr) : Below w.heap.size w wr := ((Below.refl _ _).alloc (Nat.le_refl _) _).trans (h.bel.mono (by omega))
theorem FindJ.box (h : FindJ w F tr t p s A wr) : Bk wr w.heap.size 30 #[.int .u32 (adr p : Int), .int .i64 (p.length : Int)] := (Bk.new w _ _).below h.bel (by omega)
theorem FindJ.go (h : FindJ w F tr t p s A wr) (hb : Below wr.heap.size wr w') : FindJ w F tr t p s A w' := ⟨h.at_, h.wf, h.bel.trans (hb.mono (by have := h.bel.size; simpa using this))⟩
theorem FindJ.drew (h : FindJ w F tr t p s A wr) : FindJ w F tr t p s A wr.drew := h.go ((Below.refl _ _).drew)
theorem FindJ.done (h : FindJ w F tr t p s A wr) (he : s.find p = s) : FindP w F tr t p (.returned (.pointer A)) wr := by
  refine ⟨A, rfl, h.below, ?_⟩
  have hf : t.find p = s := by obtain ⟨G, _, _, hf, _⟩ := h.at_; rw [hf, he]
  rw [hf]; exact h.at_
theorem FindJ.down {k : Key} {u : Int} {b : Bool} {l r : T} {g n : Nat} {kl kr : Option Addr} (h : FindJ w F tr t p (.node k u b l r) (some ⟨g, 0, none⟩) wr) (hg : Bk w g 138 (nodeV k u b n kl kr)) (h1 : k <+: p) (hne : k ≠ p) :
    FindJ w F tr t p (if side k p = true then r else l) (if side k p = true then kr else kl) wr := by
  obtain ⟨g', kl', kr', e1, e2, _, _, e3⟩ := h.at_.down h1 hne
  obtain ⟨c, hc⟩ := h.wf
  cases e1
  have e4 := hg.symm.trans e2
  simp [nodeV] at e4
  obtain ⟨_, rfl, rfl⟩ := e4
  refine ⟨e3, ?_, h.bel⟩
  split
  · exact ⟨_, hc.2.2.1⟩
  · exact ⟨_, hc.2.1⟩
theorem FindJ.nil_ (h : FindJ w F tr t p .nil A wr) : A = none := by obtain ⟨G, h1, _⟩ := h.at_; exact h1
theorem FindJ.node {k : Key} {u : Int} {b : Bool} {l r : T} (h : FindJ w F tr t p (.node k u b l r) A wr) : ∃ g kl kr, A = some ⟨g, 0, none⟩ ∧ Bk w g 138 (nodeV k u b (T.node k u b l r).cnt kl kr) ∧ k.length ≤ 32 ∧ F g := by
  obtain ⟨G, ⟨g, FL, FR, kl, kr, e, c1, c2, c3, c4, c5, _⟩, hG, _⟩ := h.at_
  exact ⟨g, kl, kr, e, c1, c2, hG g c5⟩
theorem FindJ.none_ (h : FindJ w F tr t p s A wr) (he : s.find p = .nil) : FindP w F tr t p (.returned (.pointer none)) wr := by
  refine ⟨none, rfl, h.below, ?_⟩
  have hf : t.find p = .nil := by obtain ⟨G, _, _, hf, _⟩ := h.at_; rw [hf, he]
  rw [hf]
  refine ⟨fun _ => False, rfl, fun _ e => e.elim, hf, fun v w2 _ g2 => ?_⟩
  simp [T.put, T.cnt, T.rows] at g2
end
/-- how long the key of the node in slot 5 is, from 33 down -/
def findM (a : Act) (w : World) : Nat := match a.tmps[5]? with | some (Value.pointer (some ad)) => (match w.cell? ⟨ad.block, 1, none⟩ with | some (Value.int _ n) => 33 - n.toNat | _ => 0) | _ => 0

def msz : T → Nat
  | .nil => 0
  | .node k _ _ _ _ => 33 - k.length
theorem findM_eq {w wr : World} {F : Foot} {tr : Nat} {t s : T} {p : Key} {A : Option Addr} {a : Act} (h : FindJ w F tr t p s A wr) (hl : ∀ x, F x → x < w.heap.size) (ha : a.tmps[5]? = some (.pointer A)) : findM a wr = msz s := by
  unfold findM
  rw [ha]
  cases s with
  | nil => have := h.nil_; subst this; rfl
  | node k u b l r =>
    obtain ⟨g, kl, kr, rfl, hg, hkl, hgF⟩ := h.node
    have := (hg.below h.below (hl g hgF)).cell 1
    simp at this
    simp [this, msz]
theorem find_mu {w w1 w4 : World} {F : Foot} {tr : Nat} {t s s' : T} {p : Key} {A A' : Option Addr} (h4 : FindJ w F tr t p s' A' w4) (h : FindJ w F tr t p s A w1) (hl : ∀ x, F x → x < w.heap.size) (hm : msz s' < msz s) :
    ∀ a a' : Act, a.tmps[5]? = some (.pointer A) → a'.tmps[5]? = some (.pointer A') → findM a' w4 < findM a w1 := fun a a' h5 h5' => by
  rw [findM_eq h4 hl h5', findM_eq h hl h5]; exact hm
theorem msz_lt {c k : Key} {u : Int} {b : Bool} {l r : T} (h : (T.node k u b l r).Wf c) (hk : k.length ≤ 32) (d : Bool) : msz (if d = true then r else l) < msz (.node k u b l r) := by
  have key : ∀ (x : T) (e : Bool), x.Wf (k ++ [e]) → msz x < 33 - k.length := by
    intro x e hx
    cases x with
    | nil => simp [msz]; omega
    | node k' _ _ _ _ =>
      have := hx.1.length_le
      rw [List.length_append, List.length_singleton] at this
      simp [msz]; omega
  show _ < 33 - k.length
  cases d
  · exact key l false h.2.1
  · exact key r true h.2.2.1

set_option maxRecDepth 100000 in
set_option maxHeartbeats 2000000 in
theorem find_any {F : Foot} {tr : Nat} {t : T} (p : Key) (w : World) (hp : p.length ≤ 32) (h : Tri w F tr t) (hw : t.Wf []) :
    Calls Try.prog 72 #[.pointer (some ⟨tr, 0, none⟩), .agg #[.int .u32 (adr p), .int .i64 p.length]] w (FindP w F tr t p) := by
  obtain ⟨A, hk, hF⟩ := Found.start p h
  have HG := Lib.hid (good_any (adr p) p.length (adr_lt hp))
  rw [good_adr hp] at HG
  have htr := h.lt tr h.mem
  have HK := Lib.hid hk
  have HJ0 : Hid (FindJ w F tr t p t A (w.alloc (.cells #[.int .u32 (adr p : Int), .int .i64 (p.length : Int)] 30))) := ⟨hF, ⟨[], hw⟩, Below.refl _ _⟩
  have HFlt := Lib.hid h.lt
  clear hk hF h hw
  go_enter Try.func72, Try.ntmps72
  go_wp2_with fail
  refine wp_scope_jumps 0 (fun a' wr => ∃ s A x2 x6 x7 x8 x9 x10 x11 x12 x13 x14 x15 x16 x17 x18 x19 x20 x21 x22 x23 x24 x25 x26 x27 x28 x29 x30 x31 x32 x33 x34 x35 x36 x37 x38 x39 x40 x41 x42 x43 x44 x45, FindJ w F tr t p s A wr ∧ a' = { tmps := #[.pointer (some ⟨tr, 0, none⟩), .agg #[.int .u32 (adr p : Int), .int .i64 (p.length : Int)], x2, .pointer (some ⟨w.heap.size, 0, none⟩), .pointer none, .pointer A, x6, x7, x8, x9, x10, x11, x12, x13, x14, x15, x16, x17, x18, x19, x20, x21, x22, x23, x24, x25, x26, x27, x28, x29, x30, x31, x32, x33, x34, x35, x36, x37, x38, x39, x40, x41, x42, x43, x44, x45], defers := [] }) findM rfl ?first ?pass
  case' first =>
    go_wp2_with fail
    refine (HG.out _).mono ?_; rintro e w1 ⟨rfl, hb1⟩
    have HJ1 := Lib.hid (HJ0.out.go hb1)
    have hk1 := HK.out.below HJ1.out.below htr
    have q0 := hk1.cell 0
    have l0 := hk1.lt
    simp at q0
    clear hb1 hk1 HJ0 HG
    go_wp2_with fail
    obtain ⟨s, A', HJ, rfl⟩ : ∃ (s : T) (A' : Option Addr), Hid (FindJ w F tr t p s A' w1) ∧ A' = A := ⟨t, A, HJ1, rfl⟩
    clear HJ1 HK q0 l0
    go_step3
  case' pass =>
    rintro a' w1 ⟨s, A', x2, x6, x7, x8, x9, x10, x11, x12, x13, x14, x15, x16, x17, x18, x19, x20, x21, x22, x23, x24, x25, x26, x27, x28, x29, x30, x31, x32, x33, x34, x35, x36, x37, x38, x39, x40, x41, x42, x43, x44, x45, hJ, rfl⟩
    have HJ := Lib.hid hJ
    clear hJ HK HJ0 HG
  all_goals
    rcases s with _ | ⟨k, u, b, l, r⟩
    · have hA : A' = none := HJ.out.nil_
      subst hA
      have HR := Lib.hid (fun w' (hb : Below w1.heap.size w1 w') => (HJ.out.go hb).none_ rfl)
      clear HJ
      go_wp2_with fail
      go_quiet (fail)
      go_wp2_with fail
      try simp only [Exit.jump]
      go_ret
      exact HR.out _ (below_drewN (Below.refl _ _) _)
    · obtain ⟨g, kl, kr, rfl, hg, hkl, hgF⟩ := HJ.out.node
      have hkn := hg.below HJ.out.below (HFlt.out g hgF)
      have hbx := HJ.out.box
      have q0 := hkn.cell 0
      have q1 := hkn.cell 1
      have q5 := hkn.cell 5
      have q6 := hkn.cell 6
      have p0 := hbx.cell 0
      have p1 := hbx.cell 1
      have lg := hkn.lt
      have lb := hbx.lt
      simp at q0 q1 q5 q6 p0 p1
      have HC := Lib.hid (covers_any (adr k) k.length (adr p) p.length (adr_lt hkl) (adr_lt hp))
      rw [cover_key hkl hp] at HC
      have HG := Lib.hid hg
      clear hg hkn hbx
      by_cases h1 : k <+: p
      · rw [decide_eq_true h1] at HC
        by_cases e : k = p
        · subst e
          have HR := Lib.hid (fun w' (hb : Below w1.heap.size w1 w') => (HJ.out.go hb).done (by rw [T.find, if_pos h1, if_pos rfl]))
          clear h1
          go_wp2_with fail
          go_region_held3 (fun w' => w'.cell? ⟨g, 0, none⟩ = some (.int .u32 (adr k : Int)) ∧ w'.cell? ⟨g, 1, none⟩ = some (.int .i64 (k.length : Int)) ∧ w'.cell? ⟨w.heap.size, 0, none⟩ = some (.int .u32 (adr k : Int)) ∧ w'.cell? ⟨w.heap.size, 1, none⟩ = some (.int .i64 (k.length : Int))) (exact ⟨by go_simp, by go_simp, by go_simp, by go_simp⟩) (first
            | (go_at_call 109; refine (HC.out _).mono ?_; rintro e w2 ⟨rfl, hb2⟩; go_must (have q0 := (hb2.cell (p := ⟨g, 0, none⟩) lg).trans q0); go_must (have q1 := (hb2.cell (p := ⟨g, 1, none⟩) lg).trans q1); go_must (have p0 := (hb2.cell (p := ⟨w.heap.size, 0, none⟩) lb).trans p0); go_must (have p1 := (hb2.cell (p := ⟨w.heap.size, 1, none⟩) lb).trans p1); go_must (have HB2 : Hid (Below w1.heap.size w1 w2) := ((Below.refl _ _).drew).trans hb2); clear hb2))
          go_wp2_with fail
          go_quiet (fail)
          go_wp2_with fail
          try simp only [Exit.jump]
          go_ret
          exact HR.out _ (below_drewN HB2.out _)
        · have hlt := pre_lt h1 e
          have HD := Lib.hid (fun w' (hb : Below w1.heap.size w1 w') => (HJ.out.go hb).down HG.out h1 e)
          have HS := Lib.hid (side_any (adr k) k.length (adr p) k.length p.length (adr_lt hp) (by omega))
          rw [side_num hp hlt] at HS
          have hkey := key_ne e
          obtain ⟨c, hwf⟩ := HJ.out.wf
          have HM := Lib.hid (msz_lt hwf hkl (side k p))
          clear hwf
          clear h1 e hlt
          have hkk : ((adr k : Int) == (adr p : Int)) = false ∨ (((adr k : Int) == (adr p : Int)) = true ∧ ((k.length : Int) == (p.length : Int)) = false) := by
            by_cases ea : adr k = adr p
            · refine .inr ⟨by rw [ea]; simp, ?_⟩
              rcases hkey with h | h
              · exact absurd ea h
              · rw [beq_eq_false_iff_ne]; exact h
            · exact .inl (by rw [beq_eq_false_iff_ne]; omega)
          clear hkey
          rcases hkk with e3 | ⟨e3, e4⟩
          all_goals
            go_wp2_with fail
            go_region_held3 (fun w' => w'.cell? ⟨g, 0, none⟩ = some (.int .u32 (adr k : Int)) ∧ w'.cell? ⟨g, 1, none⟩ = some (.int .i64 (k.length : Int)) ∧ w'.cell? ⟨w.heap.size, 0, none⟩ = some (.int .u32 (adr p : Int)) ∧ w'.cell? ⟨w.heap.size, 1, none⟩ = some (.int .i64 (p.length : Int))) (exact ⟨by go_simp, by go_simp, by go_simp, by go_simp⟩) (first
              | (go_at_call 109; refine (HC.out _).mono ?_; rintro e w2 ⟨rfl, hb2⟩; go_must (have q0' := (hb2.cell (p := ⟨g, 0, none⟩) lg).trans q0); go_must (have q1' := (hb2.cell (p := ⟨g, 1, none⟩) lg).trans q1); go_must (have p0' := (hb2.cell (p := ⟨w.heap.size, 0, none⟩) lb).trans p0); go_must (have p1' := (hb2.cell (p := ⟨w.heap.size, 1, none⟩) lb).trans p1); go_must (have HB2 : Hid (Below w1.heap.size w1 w2) := ((Below.refl _ _).drew).trans hb2); clear hb2))
            go_wp2_with fail
            go_quiet (fail)
            have HB3 : Hid (Below w1.heap.size w1 (w2.drewN nq)) := below_drewN HB2.out _
            clear q0' q1' p0' p1' HB2
            generalize w2.drewN nq = w3 at *
            have q0 := (HB3.out.cell (p := ⟨g, 0, none⟩) lg).trans q0
            have q1 := (HB3.out.cell (p := ⟨g, 1, none⟩) lg).trans q1
            have q5 := (HB3.out.cell (p := ⟨g, 5, none⟩) lg).trans q5
            have q6 := (HB3.out.cell (p := ⟨g, 6, none⟩) lg).trans q6
            have p0 := (HB3.out.cell (p := ⟨w.heap.size, 0, none⟩) lb).trans p0
            have p1 := (HB3.out.cell (p := ⟨w.heap.size, 1, none⟩) lb).trans p1
            have lg3 : g < w3.drew.heap.size := Nat.lt_of_lt_of_le lg HB3.out.size
            rcases hs : side k p with _ | _
            all_goals
              rw [hs] at HS HD HM
              simp only [if_true, if_false, Bool.false_eq_true, Int.natCast_zero, Int.natCast_one] at HS HD
              clear hs
              go_wp2_with fail
              go_region_held3 (fun w' => w'.cell? ⟨g, 0, none⟩ = some (.int .u32 (adr k : Int)) ∧ w'.cell? ⟨g, 1, none⟩ = some (.int .i64 (k.length : Int)) ∧ w'.cell? ⟨w.heap.size, 0, none⟩ = some (.int .u32 (adr p : Int)) ∧ w'.cell? ⟨w.heap.size, 1, none⟩ = some (.int .i64 (p.length : Int)) ∧ w'.cell? ⟨g, 5, none⟩ = some (.pointer kl) ∧ w'.cell? ⟨g, 6, none⟩ = some (.pointer kr)) (exact ⟨by go_simp, by go_simp, by go_simp, by go_simp, by go_simp, by go_simp⟩) (first
                | (go_at_call 81; refine (HS.out _).mono ?_; rintro e w4 ⟨rfl, hb4⟩; go_must (have HB4 : Hid (Below w3.heap.size w3 w4) := ((Below.refl _ _).drew).trans hb4); go_must (have c0 := (hb4.cell (p := ⟨g, 0, none⟩) lg3).trans q0); go_must (have c1 := (hb4.cell (p := ⟨g, 1, none⟩) lg3).trans q1); go_must (have c5 := (hb4.cell (p := ⟨g, 5, none⟩) lg3).trans q5); go_must (have c6 := (hb4.cell (p := ⟨g, 6, none⟩) lg3).trans q6); go_must (have c2 := (hb4.cell (p := ⟨w.heap.size, 0, none⟩) (Nat.lt_of_lt_of_le lb HB3.out.size)).trans p0); go_must (have c3 := (hb4.cell (p := ⟨w.heap.size, 1, none⟩) (Nat.lt_of_lt_of_le lb HB3.out.size)).trans p1); clear hb4))
              have HJ4 := Lib.hid (HD.out _ (HB3.out.trans (HB4.out.mono HB3.out.size)))
              have HMu := Lib.hid (find_mu HJ4.out HJ.out HFlt.out HM.out)
              go_wp2_with fail
              try simp only [Exit.jump]
              go_step3
              first
                | exact ⟨rfl, _, _, _, _, _, _, _, _, _, _, _, _, _, _, _, _, _, _, _, _, _, _, _, _, _, _, _, _, _, _, _, _, _, _, _, _, _, _, _, _, _, _, _, HJ4.out, rfl⟩
                | exact ⟨rfl, ⟨_, _, _, _, _, _, _, _, _, _, _, _, _, _, _, _, _, _, _, _, _, _, _, _, _, _, _, _, _, _, _, _, _, _, _, _, _, _, _, _, _, _, _, HJ4.out, rfl⟩, HMu.out _ _ rfl rfl⟩
      · have HR := Lib.hid (fun w' (hb : Below w1.heap.size w1 w') => (HJ.out.go hb).none_ (by rw [T.find, if_neg h1]))
        rw [decide_eq_false h1] at HC
        clear h1
        go_wp2_with fail
        go_region_held3 (fun w' => w'.cell? ⟨g, 0, none⟩ = some (.int .u32 (adr k : Int)) ∧ w'.cell? ⟨g, 1, none⟩ = some (.int .i64 (k.length : Int)) ∧ w'.cell? ⟨w.heap.size, 0, none⟩ = some (.int .u32 (adr p : Int)) ∧ w'.cell? ⟨w.heap.size, 1, none⟩ = some (.int .i64 (p.length : Int))) (exact ⟨by go_simp, by go_simp, by go_simp, by go_simp⟩) (first
          | (go_at_call 109; refine (HC.out _).mono ?_; rintro e w2 ⟨rfl, hb2⟩; go_must (have q0 := (hb2.cell (p := ⟨g, 0, none⟩) lg).trans q0); go_must (have q1 := (hb2.cell (p := ⟨g, 1, none⟩) lg).trans q1); go_must (have p0 := (hb2.cell (p := ⟨w.heap.size, 0, none⟩) lb).trans p0); go_must (have p1 := (hb2.cell (p := ⟨w.heap.size, 1, none⟩) lb).trans p1); go_must (have HR2 := Lib.hid (HR.out _ (((Below.refl _ _).drew).trans hb2))); clear hb2))
        go_wp2_with fail
        try simp only [Exit.jump]
        go_ret
        exact HR2.out
end Go.Proofs.Ytbhhkjkjihenoaa.tri
