/- What (attr.one).lay does, all types but the communities. Conditions: a value as long as its type asks, of at most 10^5 bytes. -/
import Derived.Test.YtaeeeinpelfppaaGreatRefPath8
namespace Go.Proofs.YtaeeeinpelfppaaGreat.attr
open Go.RowKit Go.Proofs.YtaeeeinpelfppaaGreat.kit Go.Proofs.YtaeeeinpelfppaaGreat.mem Go.Proofs.YtaeeeinpelfppaaGreat.foot Go.Proofs.YtaeeeinpelfppaaGreat.nums Go.Proofs.YtaeeeinpelfppaaGreat.asn Go.Proofs.YtaeeeinpelfppaaGreat.pth Go.Proofs.YtaeeeinpelfppaaGreat.octet
set_option linter.unusedVariables false
set_option linter.unusedSimpArgs false
/-- bytes do not lie in a block that holds no byte -/
theorem bs_apart {w : World} {B g : Nat} {A : Option Addr} {x : List UInt8} {t : TypeId} {cs : Array Value} (h : Bs w B A x) (hk : Bk w g t cs) (hn : ∀ (i : Nat) (v : Value), cs[i]? = some v → ∀ n : Int, v ≠ Value.int .u8 n) (i : Nat) (u : Value) : Bs (w.setCell ⟨g, i, none⟩ u) B A x := by
  obtain ⟨h1, h2⟩ := h
  refine ⟨h1, fun hp => ?_⟩
  obtain ⟨b, off, e1, e2, e3⟩ := h2 hp
  refine ⟨b, off, e1, e2, fun j v hv => ?_⟩
  have h3 := e3 j v hv
  have hne : b ≠ g := by
    intro e
    subst e
    rw [hk.cell] at h3
    have hm := List.mem_of_getElem? hv
    simp [bv] at hm
    obtain ⟨c, _, hc⟩ := hm
    exact hn _ _ h3 _ hc.symm
  have := Below.heap_setCell w ⟨g, i, none⟩ u b hne
  rw [← h3]
  unfold World.cell?
  simp [this]
theorem atc_nob (a : Atr) (Ap : Option Addr) (cp : Nat) (Ac : Option Addr) (cc : Nat) (i : Nat) (v : Value) (h : (atc a Ap cp Ac cc).toArray[i]? = some v) (n : Int) : v ≠ Value.int .u8 n := by
  have hm : v ∈ atc a Ap cp Ac cc := by
    rw [List.getElem?_toArray] at h
    exact List.mem_of_getElem? h
  simp only [atc, List.mem_cons, List.not_mem_nil, or_false] at hm
  rcases hm with rfl | rfl | rfl | rfl | rfl | rfl | rfl | rfl | rfl <;> intro e <;> cases e
/-- the memory within lay: the attributes' block g, the reader r -/
structure LQ (w : World) (g : Nat) (a : Atr) (Ap : Option Addr) (cp : Nat) (Ac : Option Addr) (cc : Nat) (G : Foot) (r : Nat) (l : List UInt8) (bad : Bool) (wr : World) : Prop where
  bk : Bk wr g 29 (atc a Ap cp Ac cc).toArray
  am : Am wr G a Ap cp Ac cc
  rd : Rdr wr r l bad
  ch : Chg (fun k => k = g) w wr
  bx : Bk wr w.heap.size 90 #[] ∨ True
  gl : g < w.heap.size
  rl : w.heap.size < r
  gG : ¬ G g
  lG : ∀ k, G k → k < w.heap.size
section
variable {w wr w' : World} {g r cp cc : Nat} {a a' : Atr} {Ap Ac : Option Addr} {G : Foot} {l l' : List UInt8} {bad bad' : Bool}
theorem LQ.read (h : LQ w g a Ap cp Ac cc G r l bad wr) (hr : Rdr w' r l' bad') (hg : wr.grownBy w' (some r)) : LQ w g a Ap cp Ac cc G r l' bad' w' := by
  have h1 := h.gl
  have h2 := h.rl
  have hc := chg_of_grown hg
  exact ⟨h.bk.chg hc (by omega), h.am.chg hc fun k _ hk e => by have := h.lG k hk; omega, hr, h.ch.trans hc fun i hi e => by omega, .inr trivial, h1, h2, h.gG, h.lG⟩
theorem LQ.put (h : LQ w g a Ap cp Ac cc G r l bad wr) (i : Nat) (v : Value) (ha : (atc a Ap cp Ac cc).toArray.setIfInBounds i v = (atc a' Ap cp Ac cc).toArray) (hw : Awf a') (hp : a'.path = a.path) (hc : a'.comms = a.comms) : LQ w g a' Ap cp Ac cc G r l bad (wr.setCell ⟨g, i, none⟩ v) := by
  have h1 := h.gl
  have h2 := h.rl
  have hch : Chg (fun k => k = g) wr (wr.setCell ⟨g, i, none⟩ v) := (Chg.refl (fun k => k = g) wr).put (p := ⟨g, i, none⟩) (.inl rfl) v
  have hm := h.am.chg hch fun k _ hk e => h.gG (e ▸ hk)
  refine ⟨by rw [← ha]; exact h.bk.put i v, ⟨hw, by rw [hp]; exact hm.sp, by rw [hc]; exact hm.sn, by rw [hc]; exact hm.w32⟩, ?_, h.ch.trans hch fun _ _ e => e, .inr trivial, h1, h2, h.gG, h.lG⟩
  obtain ⟨A0, c0, k1, k2, k3, k4, k5⟩ := h.rd
  exact ⟨A0, c0, k1.chg hch (by omega), k2, k3, k4, bs_apart k5 h.bk (atc_nob a Ap cp Ac cc) i v⟩
end
/-- what lay hands back -/
def RetLay (g k : Nat) (a : Atr) (s : Nat) (G : Foot) (Ac : Option Addr) (cc : Nat) (w : World) (e : Ending) (w' : World) : Prop :=
  e = .returned (.int .i64 (s : Int)) ∧ Chg (fun j => j = g) w w' ∧ (s = 0 → ∃ Ap' cp' Ac' cc', Bk w' g 29 (atc a Ap' cp' Ac' cc').toArray ∧ Am w' (fun j => G j ∨ w.heap.size ≤ j) a Ap' cp' Ac' cc' ∧ (k ≠ 8 → Ac' = Ac ∧ cc' = cc))
theorem LQ.ret {w wr : World} {g r cp cc : Nat} {a : Atr} {Ap Ac : Option Addr} {G : Foot} {l : List UInt8} {bad : Bool} (h : LQ w g a Ap cp Ac cc G r l bad wr) (k s : Nat) : RetLay g k a s G Ac cc w (.returned (.int .i64 (s : Int))) wr :=
  ⟨rfl, h.ch, fun _ => ⟨Ap, cp, Ac, cc, h.bk, h.am.mono fun _ _ hk => .inl hk, fun _ => ⟨rfl, rfl⟩⟩⟩
theorem pcsF_nsz : ∀ (n : Nat) (l : List UInt8) (ps : List Sg), pcsF n l = some ps → nsz ps ≤ l.length
  | n, [], ps, h => by
    have e : pcsF n [] = some [] := by cases n <;> rfl
    rw [e] at h
    cases h
    exact Nat.zero_le _
  | 0, b :: l, ps, h => by cases h
  | n + 1, b :: l, ps, h => by
    unfold pcsF at h
    rcases hs : segR (b :: l) with _ | ⟨s, r⟩
    · rw [hs] at h
      cases h
    · rw [hs] at h
      dsimp only at h
      rcases hq : pcsF n r with _ | qs
      · rw [hq] at h
        cases h
      · rw [hq] at h
        have ih := pcsF_nsz n r qs hq
        have hl := (segR_lt hs).2
        have e : ps = s :: qs := (Option.some.inj h).symm
        subst e
        simp only [nsz, List.map_cons, List.sum_cons] at ih ⊢
        omega
theorem pcs_nsz {l : List UInt8} {ps : List Sg} (h : pcs l = some ps) : nsz ps ≤ l.length := pcsF_nsz _ l ps h
open Classical in
/-- what is wrong of a path's bytes -/
noncomputable def sub2 (v : List UInt8) : Nat := if ∃ ps, pcs v = some ps ∧ WaysS (normS ps) then 0 else 11
theorem sub2_none {v : List UInt8} (h : pcs v = none) : sub2 v = 11 := by
  unfold sub2
  rw [if_neg]
  rintro ⟨ps, h1, _⟩
  rw [h] at h1
  cases h1
theorem sub2_some {v : List UInt8} {ps : List Sg} (h : pcs v = some ps) : (WaysS (normS ps) → sub2 v = 0) ∧ (¬ WaysS (normS ps) → sub2 v = 11) := by
  unfold sub2
  constructor
  · intro h1
    rw [if_pos ⟨ps, h, h1⟩]
  · intro h1
    rw [if_neg]
    rintro ⟨qs, h2, h3⟩
    rw [h] at h2
    cases h2
    exact h1 h3
theorem wf_num4 {v : List UInt8} (h : v.length = 4) : (Lit.int .u32 (num v : Int)).wf = true := by
  have h1 := num_lt v
  rw [h] at h1
  simp [Lit.wf, IntKind.min, IntKind.max, IntKind.signed, IntKind.bits]
  omega
section
variable (f vc al ac g : Nat) (vA aA : Option Addr) (a : Atr) (Ap Ac : Option Addr) (cp cc : Nat) (G : Foot) (w : World)
/-- the head of lay: the box, the reader -/
theorem lay_new (k : Nat) (v : List UInt8) (hl : v.length ≤ 100000) (hg : Bk w g 29 (atc a Ap cp Ac cc).toArray) (hm : Am w G a Ap cp Ac cc) (hG : ∀ k, G k → k < w.heap.size ∧ k ≠ g) (hv : Bs w w.heap.size vA v) (hn : vA = none → vc = 0) :
    Calls Tryz.prog 18 #[.slice vA v.length vc] (w.alloc (.cells #[.int .i64 (f : Int), .int .i64 (k : Int), .slice vA v.length vc, .slice aA al ac] 90)) fun e w2 => ∃ r, e = .returned (.pointer (some ⟨r, 0, none⟩)) ∧ LQ w g a Ap cp Ac cc G r v false w2 ∧ Bk w2 w.heap.size 90 #[.int .i64 (f : Int), .int .i64 (k : Int), .slice vA v.length vc, .slice aA al ac] ∧ Below w.heap.size w w2 := by
  have hb : Below w.heap.size w (w.alloc (.cells #[.int .i64 (f : Int), .int .i64 (k : Int), .slice vA v.length vc, .slice aA al ac] 90)) := (Below.refl _ _).alloc (Nat.le_refl _) _
  refine (New_any vA vc w.heap.size v _ (by omega) hn (by simp) (hv.alloc (Nat.le_refl _) _)).mono ?_
  rintro e w2 ⟨⟨r, rfl, h1, h2⟩, h3⟩
  have hb2 := hb.trans (h3.mono hb.size)
  rw [World.size_alloc] at h1
  exact ⟨r, rfl, ⟨hg.below hb2 hg.lt, hm.bel hb2, h2, Chg.of_below hb2 _, .inr trivial, hg.lt, by omega, fun h => (hG g h).2 rfl, fun k hk => (hG k hk).1⟩, (Bk.new w _ _).below h3 (by simp), hb2⟩
set_option maxRecDepth 100000 in
set_option maxHeartbeats 4000000 in
theorem lay_6 (v : List UInt8) (hl : v.length ≤ 100000) (hg : Bk w g 29 (atc a Ap cp Ac cc).toArray) (hm : Am w G a Ap cp Ac cc) (hG : ∀ k, G k → k < w.heap.size ∧ k ≠ g) (hv : Bs w w.heap.size vA v) (hn : vA = none → vc = 0) :
    Calls Tryz.prog 96 #[.agg (oneV f 6 vA v.length vc aA al ac), .pointer (some ⟨g, 0, none⟩)] w (RetLay g 6 a 0 G Ac cc w) := by
  have hwf := hm.wf
  have HNw := Lib.hid (lay_new f vc al ac g vA aA a Ap Ac cp cc G w 6 v (by omega) hg hm hG hv hn)
  have HNw : Hid (Calls Tryz.prog 18 #[.slice vA v.length vc] (w.alloc (.cells #[.int .i64 (f : Int), .int .i64 6, .slice vA v.length vc, .slice aA al ac] 90)) fun e w2 => ∃ r, e = .returned (.pointer (some ⟨r, 0, none⟩)) ∧ LQ w g a Ap cp Ac cc G r v false w2 ∧ Bk w2 w.heap.size 90 #[.int .i64 (f : Int), .int .i64 6, .slice vA v.length vc, .slice aA al ac] ∧ Below w.heap.size w w2) := HNw.out
  clear hg hm hG hv hn
  unfold oneV
  go_enter Tryz.func96, Tryz.ntmps96
  go_wp2_with (go_at_call 18; refine HNw.out.mono ?_; rintro e w2 ⟨r, rfl, h1, h2⟩; have HL2 := Lib.hid h1; have p1 := h2.1.cell 1; simp at p1; clear h1 h2)
  go_ret
  exact HL2.out.ret 6 0
theorem wf_byte (b : UInt8) : (Lit.int .i64 (b.toNat : Int)).wf = true := by
  have h := b.toNat_lt
  simp [Lit.wf, IntKind.min, IntKind.max, IntKind.signed, IntKind.bits]
  omega
set_option maxRecDepth 100000 in
set_option maxHeartbeats 4000000 in
theorem lay_1 (v : List UInt8) (b : UInt8) (hb : v = [b]) (hg : Bk w g 29 (atc a Ap cp Ac cc).toArray) (hm : Am w G a Ap cp Ac cc) (hG : ∀ k, G k → k < w.heap.size ∧ k ≠ g) (hv : Bs w w.heap.size vA v) (hn : vA = none → vc = 0) :
    Calls Tryz.prog 96 #[.agg (oneV f 1 vA v.length vc aA al ac), .pointer (some ⟨g, 0, none⟩)] w (RetLay g 1 { a with orig := (b.toNat : Int) } (if b.toNat ≤ 2 then 0 else 6) G Ac cc w) := by
  subst hb
  have hl : [b].length ≤ 100000 := by simp
  have hwf := hm.wf
  have HNw := Lib.hid (lay_new f vc al ac g vA aA a Ap Ac cp cc G w 1 [b] (by omega) hg hm hG hv hn)
  have HNw : Hid (Calls Tryz.prog 18 #[.slice vA [b].length vc] (w.alloc (.cells #[.int .i64 (f : Int), .int .i64 1, .slice vA [b].length vc, .slice aA al ac] 90)) fun e w2 => ∃ r, e = .returned (.pointer (some ⟨r, 0, none⟩)) ∧ LQ w g a Ap cp Ac cc G r [b] false w2 ∧ Bk w2 w.heap.size 90 #[.int .i64 (f : Int), .int .i64 1, .slice vA [b].length vc, .slice aA al ac] ∧ Below w.heap.size w w2) := HNw.out
  clear hg hm hG hv hn
  have HU8 : Hid (∀ w' r, Rdr w' r [b] false → Calls Tryz.prog 90 #[.pointer (some ⟨r, 0, none⟩)] w' fun e w3 => e = .returned (.int .i64 (b.toNat : Int)) ∧ Rdr w3 r [] false ∧ w'.grownBy w3 (some r)) := fun w' r h => by
    have := u8_any r [b] false w' h
    have h1 := @rok1 b []
    rw [h1.1, h1.2.1, h1.2.2, num1] at this
    exact this
  have HW : Hid (Awf { a with orig := (b.toNat : Int) }) := ⟨hwf.has, wf_byte b, hwf.hop, hwf.med, hwf.pref, hwf.aas, hwf.aid⟩
  have hbl := b.toNat_lt
  have HPt : Hid (∀ r w', LQ w g a Ap cp Ac cc G r [] false w' → LQ w g { a with orig := (b.toNat : Int) } Ap cp Ac cc G r [] false (w'.setCell ⟨g, 1, none⟩ (.int .i64 (b.toNat : Int)))) := fun r w' h => h.put 1 _ rfl HW.out rfl rfl
  by_cases h2 : b.toNat ≤ 2
  · rw [if_pos h2]
    have d2 : decide ((2 : Int) < (b.toNat : Int)) = false := by rw [decide_eq_false_iff_not]; omega
    generalize (b.toNat : Int) = n at *
    unfold oneV
    go_enter Tryz.func96, Tryz.ntmps96
    go_wp2_with (first
      | (go_at_call 18; refine HNw.out.mono ?_; rintro e w2 ⟨r, rfl, h1, h2⟩; have HL2 := Lib.hid h1; have p1 := h2.1.cell 1; simp at p1; clear h1 h2)
      | (go_at_call 90; refine (HU8.out w2 r HL2.out.rd).mono ?_; rintro e w3 ⟨rfl, h1, h2⟩; have HL3 := Lib.hid (HL2.out.read h1 h2); have q1 := HL3.out.bk.cell 1; simp [atc] at q1; have qf := fun i => HL3.out.bk.free i; clear h1 h2))
    go_ret
    exact (HPt.out r w3 HL3.out).ret 1 0
  · rw [if_neg h2]
    have d2 : decide ((2 : Int) < (b.toNat : Int)) = true := by rw [decide_eq_true_iff]; omega
    generalize (b.toNat : Int) = n at *
    unfold oneV
    go_enter Tryz.func96, Tryz.ntmps96
    go_wp2_with (first
      | (go_at_call 18; refine HNw.out.mono ?_; rintro e w2 ⟨r, rfl, h1, h2⟩; have HL2 := Lib.hid h1; have p1 := h2.1.cell 1; simp at p1; clear h1 h2)
      | (go_at_call 90; refine (HU8.out w2 r HL2.out.rd).mono ?_; rintro e w3 ⟨rfl, h1, h2⟩; have HL3 := Lib.hid (HL2.out.read h1 h2); have q1 := HL3.out.bk.cell 1; simp [atc] at q1; have qf := fun i => HL3.out.bk.free i; clear h1 h2))
    go_ret
    exact (HPt.out r w3 HL3.out).ret 1 6
set_option maxRecDepth 100000 in
set_option maxHeartbeats 4000000 in
theorem lay_3 (v : List UInt8) (h4 : v.length = 4) (hg : Bk w g 29 (atc a Ap cp Ac cc).toArray) (hm : Am w G a Ap cp Ac cc) (hG : ∀ k, G k → k < w.heap.size ∧ k ≠ g) (hv : Bs w w.heap.size vA v) (hn : vA = none → vc = 0) :
    Calls Tryz.prog 96 #[.agg (oneV f 3 vA v.length vc aA al ac), .pointer (some ⟨g, 0, none⟩)] w (RetLay g 3 { a with hop := (num v : Int) } (if hopB (num v : Int) = true then 0 else 8) G Ac cc w) := by
  have hl : v.length ≤ 100000 := by omega
  have hwf := hm.wf
  have HNw := Lib.hid (lay_new f vc al ac g vA aA a Ap Ac cp cc G w 3 v (by omega) hg hm hG hv hn)
  have HNw : Hid (Calls Tryz.prog 18 #[.slice vA v.length vc] (w.alloc (.cells #[.int .i64 (f : Int), .int .i64 3, .slice vA v.length vc, .slice aA al ac] 90)) fun e w2 => ∃ r, e = .returned (.pointer (some ⟨r, 0, none⟩)) ∧ LQ w g a Ap cp Ac cc G r v false w2 ∧ Bk w2 w.heap.size 90 #[.int .i64 (f : Int), .int .i64 3, .slice vA v.length vc, .slice aA al ac] ∧ Below w.heap.size w w2) := HNw.out
  clear hg hm hG hv hn
  have HU : Hid (∀ w' r, Rdr w' r v false → Calls Tryz.prog 91 #[.pointer (some ⟨r, 0, none⟩)] w' fun e w3 => e = .returned (.int .u32 (num v : Int)) ∧ Rdr w3 r [] false ∧ w'.grownBy w3 (some r)) := fun w' r h => by
    have := u32_any r v false w' h
    have h1 := rok4 (l := v) (by omega)
    rw [h1.1, h1.2.1, h1.2.2, List.take_of_length_le (by omega), List.drop_eq_nil_of_le (by omega)] at this
    exact this
  have HW : Hid (Awf { a with hop := (num v : Int) }) := ⟨hwf.has, hwf.orig, wf_num4 h4, hwf.med, hwf.pref, hwf.aas, hwf.aid⟩
  have HPt : Hid (∀ r w', LQ w g a Ap cp Ac cc G r [] false w' → LQ w g { a with hop := (num v : Int) } Ap cp Ac cc G r [] false (w'.setCell ⟨g, 3, none⟩ (.int .u32 (num v : Int)))) := fun r w' h => h.put 3 _ rfl HW.out rfl rfl
  have HHop : Hid (∀ w', Calls Tryz.prog 108 #[.int .u32 (num v : Int)] w' fun e w2 => e = .returned (.bool (hopB (num v : Int))) ∧ w' = w2) := fun w' => hop_any _ (wf_num4 h4) w'
  obtain ⟨hb, hhb⟩ : ∃ hb, hb = hopB (num v : Int) := ⟨_, rfl⟩
  rw [← hhb] at HHop ⊢
  clear hhb
  clear h4
  generalize (num v : Int) = n at *
  rcases hb with _ | _
  · unfold oneV
    go_enter Tryz.func96, Tryz.ntmps96
    go_wp2_with (first
      | (go_at_call 18; refine HNw.out.mono ?_; rintro e w2 ⟨r, rfl, h1, h2⟩; have HL2 := Lib.hid h1; have p1 := h2.1.cell 1; simp at p1; clear h1 h2)
      | (go_at_call 91; refine (HU.out w2 r HL2.out.rd).mono ?_; rintro e w3 ⟨rfl, h1, h2⟩; have HL3 := Lib.hid (HL2.out.read h1 h2); have q1 := HL3.out.bk.cell 3; simp [atc] at q1; have qf := fun i => HL3.out.bk.free i; clear h1 h2)
      | (go_at_call 108; refine (HHop.out _).mono ?_; rintro e w4 ⟨rfl, rfl⟩))
    go_ret
    exact (HPt.out r w3 HL3.out).ret 3 8
  · unfold oneV
    go_enter Tryz.func96, Tryz.ntmps96
    go_wp2_with (first
      | (go_at_call 18; refine HNw.out.mono ?_; rintro e w2 ⟨r, rfl, h1, h2⟩; have HL2 := Lib.hid h1; have p1 := h2.1.cell 1; simp at p1; clear h1 h2)
      | (go_at_call 91; refine (HU.out w2 r HL2.out.rd).mono ?_; rintro e w3 ⟨rfl, h1, h2⟩; have HL3 := Lib.hid (HL2.out.read h1 h2); have q1 := HL3.out.bk.cell 3; simp [atc] at q1; have qf := fun i => HL3.out.bk.free i; clear h1 h2)
      | (go_at_call 108; refine (HHop.out _).mono ?_; rintro e w4 ⟨rfl, rfl⟩))
    go_ret
    exact (HPt.out r w3 HL3.out).ret 3 0
set_option maxRecDepth 100000 in
set_option maxHeartbeats 4000000 in
theorem lay_4 (v : List UInt8) (h4 : v.length = 4) (hg : Bk w g 29 (atc a Ap cp Ac cc).toArray) (hm : Am w G a Ap cp Ac cc) (hG : ∀ k, G k → k < w.heap.size ∧ k ≠ g) (hv : Bs w w.heap.size vA v) (hn : vA = none → vc = 0) :
    Calls Tryz.prog 96 #[.agg (oneV f 4 vA v.length vc aA al ac), .pointer (some ⟨g, 0, none⟩)] w (RetLay g 4 { a with med := (num v : Int) } 0 G Ac cc w) := by
  have hl : v.length ≤ 100000 := by omega
  have hwf := hm.wf
  have HNw := Lib.hid (lay_new f vc al ac g vA aA a Ap Ac cp cc G w 4 v (by omega) hg hm hG hv hn)
  have HNw : Hid (Calls Tryz.prog 18 #[.slice vA v.length vc] (w.alloc (.cells #[.int .i64 (f : Int), .int .i64 4, .slice vA v.length vc, .slice aA al ac] 90)) fun e w2 => ∃ r, e = .returned (.pointer (some ⟨r, 0, none⟩)) ∧ LQ w g a Ap cp Ac cc G r v false w2 ∧ Bk w2 w.heap.size 90 #[.int .i64 (f : Int), .int .i64 4, .slice vA v.length vc, .slice aA al ac] ∧ Below w.heap.size w w2) := HNw.out
  clear hg hm hG hv hn
  have HU : Hid (∀ w' r, Rdr w' r v false → Calls Tryz.prog 91 #[.pointer (some ⟨r, 0, none⟩)] w' fun e w3 => e = .returned (.int .u32 (num v : Int)) ∧ Rdr w3 r [] false ∧ w'.grownBy w3 (some r)) := fun w' r h => by
    have := u32_any r v false w' h
    have h1 := rok4 (l := v) (by omega)
    rw [h1.1, h1.2.1, h1.2.2, List.take_of_length_le (by omega), List.drop_eq_nil_of_le (by omega)] at this
    exact this
  have HW : Hid (Awf { a with med := (num v : Int) }) := ⟨hwf.has, hwf.orig, hwf.hop, wf_num4 h4, hwf.pref, hwf.aas, hwf.aid⟩
  have HPt : Hid (∀ r w', LQ w g a Ap cp Ac cc G r [] false w' → LQ w g { a with med := (num v : Int) } Ap cp Ac cc G r [] false (w'.setCell ⟨g, 4, none⟩ (.int .u32 (num v : Int)))) := fun r w' h => h.put 4 _ rfl HW.out rfl rfl
  clear h4
  generalize (num v : Int) = n at *
  unfold oneV
  go_enter Tryz.func96, Tryz.ntmps96
  go_wp2_with (first
    | (go_at_call 18; refine HNw.out.mono ?_; rintro e w2 ⟨r, rfl, h1, h2⟩; have HL2 := Lib.hid h1; have p1 := h2.1.cell 1; simp at p1; clear h1 h2)
    | (go_at_call 91; refine (HU.out w2 r HL2.out.rd).mono ?_; rintro e w3 ⟨rfl, h1, h2⟩; have HL3 := Lib.hid (HL2.out.read h1 h2); have q1 := HL3.out.bk.cell 4; simp [atc] at q1; have qf := fun i => HL3.out.bk.free i; clear h1 h2))
  go_ret
  exact (HPt.out r w3 HL3.out).ret 4 0
set_option maxRecDepth 100000 in
set_option maxHeartbeats 4000000 in
theorem lay_5 (v : List UInt8) (h4 : v.length = 4) (hg : Bk w g 29 (atc a Ap cp Ac cc).toArray) (hm : Am w G a Ap cp Ac cc) (hG : ∀ k, G k → k < w.heap.size ∧ k ≠ g) (hv : Bs w w.heap.size vA v) (hn : vA = none → vc = 0) :
    Calls Tryz.prog 96 #[.agg (oneV f 5 vA v.length vc aA al ac), .pointer (some ⟨g, 0, none⟩)] w (RetLay g 5 { a with pref := (num v : Int) } 0 G Ac cc w) := by
  have hl : v.length ≤ 100000 := by omega
  have hwf := hm.wf
  have HNw := Lib.hid (lay_new f vc al ac g vA aA a Ap Ac cp cc G w 5 v (by omega) hg hm hG hv hn)
  have HNw : Hid (Calls Tryz.prog 18 #[.slice vA v.length vc] (w.alloc (.cells #[.int .i64 (f : Int), .int .i64 5, .slice vA v.length vc, .slice aA al ac] 90)) fun e w2 => ∃ r, e = .returned (.pointer (some ⟨r, 0, none⟩)) ∧ LQ w g a Ap cp Ac cc G r v false w2 ∧ Bk w2 w.heap.size 90 #[.int .i64 (f : Int), .int .i64 5, .slice vA v.length vc, .slice aA al ac] ∧ Below w.heap.size w w2) := HNw.out
  clear hg hm hG hv hn
  have HU : Hid (∀ w' r, Rdr w' r v false → Calls Tryz.prog 91 #[.pointer (some ⟨r, 0, none⟩)] w' fun e w3 => e = .returned (.int .u32 (num v : Int)) ∧ Rdr w3 r [] false ∧ w'.grownBy w3 (some r)) := fun w' r h => by
    have := u32_any r v false w' h
    have h1 := rok4 (l := v) (by omega)
    rw [h1.1, h1.2.1, h1.2.2, List.take_of_length_le (by omega), List.drop_eq_nil_of_le (by omega)] at this
    exact this
  have HW : Hid (Awf { a with pref := (num v : Int) }) := ⟨hwf.has, hwf.orig, hwf.hop, hwf.med, wf_num4 h4, hwf.aas, hwf.aid⟩
  have HPt : Hid (∀ r w', LQ w g a Ap cp Ac cc G r [] false w' → LQ w g { a with pref := (num v : Int) } Ap cp Ac cc G r [] false (w'.setCell ⟨g, 5, none⟩ (.int .u32 (num v : Int)))) := fun r w' h => h.put 5 _ rfl HW.out rfl rfl
  clear h4
  generalize (num v : Int) = n at *
  unfold oneV
  go_enter Tryz.func96, Tryz.ntmps96
  go_wp2_with (first
    | (go_at_call 18; refine HNw.out.mono ?_; rintro e w2 ⟨r, rfl, h1, h2⟩; have HL2 := Lib.hid h1; have p1 := h2.1.cell 1; simp at p1; clear h1 h2)
    | (go_at_call 91; refine (HU.out w2 r HL2.out.rd).mono ?_; rintro e w3 ⟨rfl, h1, h2⟩; have HL3 := Lib.hid (HL2.out.read h1 h2); have q1 := HL3.out.bk.cell 5; simp [atc] at q1; have qf := fun i => HL3.out.bk.free i; clear h1 h2))
  go_ret
  exact (HPt.out r w3 HL3.out).ret 5 0
set_option maxRecDepth 100000 in
set_option maxHeartbeats 4000000 in
theorem lay_7 (v : List UInt8) (h8 : v.length = 8) (hg : Bk w g 29 (atc a Ap cp Ac cc).toArray) (hm : Am w G a Ap cp Ac cc) (hG : ∀ k, G k → k < w.heap.size ∧ k ≠ g) (hv : Bs w w.heap.size vA v) (hn : vA = none → vc = 0) :
    Calls Tryz.prog 96 #[.agg (oneV f 7 vA v.length vc aA al ac), .pointer (some ⟨g, 0, none⟩)] w (RetLay g 7 { a with aas := (num (v.take 4) : Int), aid := (num (v.drop 4) : Int) } 0 G Ac cc w) := by
  have hl : v.length ≤ 100000 := by omega
  have hwf := hm.wf
  have HNw := Lib.hid (lay_new f vc al ac g vA aA a Ap Ac cp cc G w 7 v (by omega) hg hm hG hv hn)
  have HNw : Hid (Calls Tryz.prog 18 #[.slice vA v.length vc] (w.alloc (.cells #[.int .i64 (f : Int), .int .i64 7, .slice vA v.length vc, .slice aA al ac] 90)) fun e w2 => ∃ r, e = .returned (.pointer (some ⟨r, 0, none⟩)) ∧ LQ w g a Ap cp Ac cc G r v false w2 ∧ Bk w2 w.heap.size 90 #[.int .i64 (f : Int), .int .i64 7, .slice vA v.length vc, .slice aA al ac] ∧ Below w.heap.size w w2) := HNw.out
  clear hg hm hG hv hn
  have HU : Hid (∀ w' r, Rdr w' r v false → Calls Tryz.prog 91 #[.pointer (some ⟨r, 0, none⟩)] w' fun e w3 => e = .returned (.int .u32 (num (v.take 4) : Int)) ∧ Rdr w3 r (v.drop 4) false ∧ w'.grownBy w3 (some r)) := fun w' r h => by
    have := u32_any r v false w' h
    have h1 := rok4 (l := v) (by omega)
    rw [h1.1, h1.2.1, h1.2.2] at this
    exact this
  have HU2 : Hid (∀ w' r, Rdr w' r (v.drop 4) false → Calls Tryz.prog 91 #[.pointer (some ⟨r, 0, none⟩)] w' fun e w3 => e = .returned (.int .u32 (num (v.drop 4) : Int)) ∧ Rdr w3 r [] false ∧ w'.grownBy w3 (some r)) := fun w' r h => by
    have := u32_any r (v.drop 4) false w' h
    have h1 := rok4 (l := v.drop 4) (by rw [List.length_drop]; omega)
    have e1 : (v.drop 4).take 4 = v.drop 4 := List.take_of_length_le (by rw [List.length_drop]; omega)
    have e2 : (v.drop 4).drop 4 = [] := List.drop_eq_nil_of_le (by rw [List.length_drop]; omega)
    rw [h1.1, h1.2.1, h1.2.2, e1, e2] at this
    exact this
  have n1 : (Lit.int .u32 (num (v.take 4) : Int)).wf = true := wf_num4 (by rw [List.length_take]; omega)
  have n2 : (Lit.int .u32 (num (v.drop 4) : Int)).wf = true := wf_num4 (by rw [List.length_drop]; omega)
  have HW1 : Hid (Awf { a with aas := (num (v.take 4) : Int) }) := ⟨hwf.has, hwf.orig, hwf.hop, hwf.med, hwf.pref, n1, hwf.aid⟩
  have HW2 : Hid (Awf { a with aas := (num (v.take 4) : Int), aid := (num (v.drop 4) : Int) }) := ⟨hwf.has, hwf.orig, hwf.hop, hwf.med, hwf.pref, n1, n2⟩
  have HPt : Hid (∀ r w', LQ w g a Ap cp Ac cc G r [] false w' → LQ w g { a with aas := (num (v.take 4) : Int), aid := (num (v.drop 4) : Int) } Ap cp Ac cc G r [] false ((w'.setCell ⟨g, 6, none⟩ (.int .u32 (num (v.take 4) : Int))).setCell ⟨g, 7, none⟩ (.int .u32 (num (v.drop 4) : Int)))) := fun r w' h => (h.put 6 _ (a' := { a with aas := (num (v.take 4) : Int) }) rfl HW1.out rfl rfl).put 7 _ rfl HW2.out rfl rfl
  clear h8 n1 n2
  generalize (num (v.take 4) : Int) = n1 at *
  generalize (num (v.drop 4) : Int) = n2 at *
  unfold oneV
  go_enter Tryz.func96, Tryz.ntmps96
  go_wp2_with (first
    | (go_at_call 18; refine HNw.out.mono ?_; rintro e w2 ⟨r, rfl, h1, h2⟩; have HL2 := Lib.hid h1; have p1 := h2.1.cell 1; simp at p1; clear h1 h2)
    | (go_at_call 91; refine (HU.out w2 r HL2.out.rd).mono ?_; rintro e w3 ⟨rfl, h1, h2⟩; have HL3 := Lib.hid (HL2.out.read h1 h2); clear h1 h2)
    | (go_at_call 91; refine (HU2.out w3 r HL3.out.rd).mono ?_; rintro e w4 ⟨rfl, h1, h2⟩; have HL4 := Lib.hid (HL3.out.read h1 h2); have q6 := HL4.out.bk.cell 6; have q7 := HL4.out.bk.cell 7; simp [atc] at q6 q7; have qf := fun i => HL4.out.bk.free i; clear h1 h2))
  go_ret
  exact (HPt.out r w4 HL4.out).ret 7 0
set_option maxRecDepth 100000 in
set_option maxHeartbeats 4000000 in
theorem lay_2 (v : List UInt8) (hl5 : v.length ≤ 50000) (hg : Bk w g 29 (atc a Ap cp Ac cc).toArray) (hm : Am w G a Ap cp Ac cc) (hG : ∀ k, G k → k < w.heap.size ∧ k ≠ g) (hv : Bs w w.heap.size vA v) (hn : vA = none → vc = 0) :
    Calls Tryz.prog 96 #[.agg (oneV f 2 vA v.length vc aA al ac), .pointer (some ⟨g, 0, none⟩)] w (RetLay g 2 { a with path := normS ((pcs v).getD []) } (sub2 v) G Ac cc w) := by
  have hl : v.length ≤ 100000 := by omega
  have hwf := hm.wf
  have HNw := Lib.hid (lay_new f vc al ac g vA aA a Ap Ac cp cc G w 2 v (by omega) hg hm hG hv hn)
  have HNw : Hid (Calls Tryz.prog 18 #[.slice vA v.length vc] (w.alloc (.cells #[.int .i64 (f : Int), .int .i64 2, .slice vA v.length vc, .slice aA al ac] 90)) fun e w2 => ∃ r, e = .returned (.pointer (some ⟨r, 0, none⟩)) ∧ LQ w g a Ap cp Ac cc G r v false w2 ∧ Bk w2 w.heap.size 90 #[.int .i64 (f : Int), .int .i64 2, .slice vA v.length vc, .slice aA al ac] ∧ Below w.heap.size w w2) := HNw.out
  have hnn := hn
  have hvv := hv
  clear hg hm hG hv hn
  have HPc : Hid (∀ w', Bs w' w'.heap.size vA v → Calls Tryz.prog 116 #[.slice vA v.length vc] w' (RetPcs (pcs v) w')) := fun w' h => pieces_any vA vc _ v w' hl hnn (Nat.le_refl _) h
  have HNo : Hid (∀ (A : Option Addr) (c : Nat) (ps : List Sg) (H : Foot) (w' : World), nsz ps ≤ 1000000 → Els 2 rSeg w' H A ps → Calls Tryz.prog 97 #[.slice A ps.length c] w' (RetP (normS ps) w')) := fun A c ps H w' h1 h2 => Norm_any A c ps H w' h1 h2
  have HNo0 : Hid (∀ w', Calls Tryz.prog 97 #[.slice none 0 0] w' (RetP (normS []) w')) := fun w' => HNo.out none 0 [] (fun _ => False) w' (by decide) (Els.nil_ _ _ _)
  have HBv : Hid (∀ w', Below w.heap.size w w' → Bs w' w'.heap.size vA v) := fun w' hb => (hvv.below hb (Nat.le_refl _)).more hb.size
  have HFn : Hid (∀ r w2 wn wp (A1 : Option Addr) (c1 : Nat) (vs : List Value) (ps : List Sg), LQ w g a Ap cp Ac cc G r v false w2 → Below w2.heap.size w2 wp → Lst 2 rSeg 128 (fun k => wp.heap.size ≤ k) wp wn A1 (normS ps).length c1 vs (normS ps) → Bk wn g 29 (atc a Ap cp Ac cc).toArray ∧ Bk (wn.setCell ⟨g, 2, none⟩ (.slice A1 (normS ps).length c1)) g 29 (atc { a with path := normS ps } A1 c1 Ac cc).toArray ∧ Am (wn.setCell ⟨g, 2, none⟩ (.slice A1 (normS ps).length c1)) (fun j => G j ∨ w.heap.size ≤ j) { a with path := normS ps } A1 c1 Ac cc ∧ Chg (fun j => j = g) w (wn.setCell ⟨g, 2, none⟩ (.slice A1 (normS ps).length c1))) := fun r w2 wn wp A1 c1 vs ps h hbp hL => by
    have hb2 := hbp.trans (hL.acc.bel.mono hbp.size)
    have hbk := h.bk.below hb2 h.bk.lt
    have hgl := h.gl
    have hch : Chg (fun k => k = g) wn (wn.setCell ⟨g, 2, none⟩ (.slice A1 (normS ps).length c1)) := (Chg.refl (fun k => k = g) wn).put (p := ⟨g, 2, none⟩) (.inl rfl) _
    have hsz : w.heap.size ≤ wp.heap.size := Nat.le_trans h.ch.size hbp.size
    have hm := (h.am.bel hb2).chg hch fun k _ hk e => h.gG (e ▸ hk)
    have hsp := (Sp.of_lst hL).chg hch fun k _ hk e => by omega
    refine ⟨hbk, hbk.put 2 _, ⟨⟨hwf.has, hwf.orig, hwf.hop, hwf.med, hwf.pref, hwf.aas, hwf.aid⟩, hsp.mono fun k _ hk => .inr (by omega), Sn.mono hm.sn fun k _ hk => .inl hk, hm.w32⟩, (h.ch.bel hb2).trans hch fun _ _ e => e⟩
  clear hl hwf hnn hvv
  rcases hpc : pcs v with _ | ps
  · have hs : sub2 v = 11 := sub2_none hpc
    rw [hs]
    rw [hpc] at HPc
    show Calls _ _ _ _ (RetLay g 2 { a with path := normS [] } 11 G Ac cc w)
    have HPe : Hid (∀ w', Bs w' w'.heap.size vA v → Calls Tryz.prog 116 #[.slice vA v.length vc] w' fun e w2 => e = .returned (.tuple #[.slice none 0 0, .bool false]) ∧ Below w'.heap.size w' w2) := fun w' h => (HPc.out w' h).mono fun e w2 => by
      rintro ⟨⟨ps, A, c, h, _⟩ | ⟨_, h⟩, hb⟩
      · cases h
      · exact ⟨h, hb⟩
    clear hpc hs
    unfold oneV
    go_enter Tryz.func96, Tryz.ntmps96
    go_wp2_with (first
      | (go_at_call 18; refine HNw.out.mono ?_; rintro e w2 ⟨r, rfl, h1, h2⟩; have HL2 := Lib.hid h1; have HB2 := Lib.hid h2.2; have p1 := h2.1.cell 1; have p2 := h2.1.cell 2; simp at p1 p2; clear h1 h2)
      | (go_at_call 116; refine (HPe.out w2 (HBv.out w2 HB2.out)).mono ?_; rintro e w3 ⟨rfl, h1⟩; have HB3 := Lib.hid h1; clear h1)
      | (go_at_call 97; refine (HNo0.out w3).mono ?_; rintro e w4 ⟨A1, c1, vs, rfl, hL⟩; have HE4 := Lib.hid (HFn.out r w2 w4 w3 A1 c1 vs [] HL2.out HB3.out hL); have q2 := HE4.out.1.cell 2; simp [atc] at q2; have qf := fun i => HE4.out.1.free i; clear hL))
    go_ret
    exact ⟨rfl, HE4.out.2.2.2, fun h => absurd h (by decide)⟩
  · have hnz := pcs_nsz hpc
    have hs2 := sub2_some hpc
    obtain ⟨z, hz⟩ := bool_of (WaysS (normS ps))
    obtain ⟨s, hs⟩ : ∃ s, s = sub2 v := ⟨_, rfl⟩
    have HZ : Hid ((z = true → s = 0) ∧ (z = false → s = 11)) := ⟨fun h => by rw [hs]; exact hs2.1 (hz.1 h), fun h => by rw [hs]; exact hs2.2 fun h2 => by rw [hz.2 h2] at h; cases h⟩
    rw [← hs]
    rw [hpc] at HPc
    show Calls _ _ _ _ (RetLay g 2 { a with path := normS ps } s G Ac cc w)
    have HPe : Hid (∀ w', Bs w' w'.heap.size vA v → Calls Tryz.prog 116 #[.slice vA v.length vc] w' fun e w2 => ∃ A c, e = .returned (.tuple #[.slice A ps.length c, .bool true]) ∧ Sp w2 (fun k => w'.heap.size ≤ k) A c ps ∧ Below w'.heap.size w' w2) := fun w' h => (HPc.out w' h).mono fun e w2 => by
      rintro ⟨⟨qs, A, c, h0, h1, h2⟩ | ⟨h, _⟩, hb⟩
      · cases h0
        exact ⟨A, c, h1, h2, hb⟩
      · cases h
    have hnn := nsz_norm ps
    have HWy : Hid (∀ (A1 : Option Addr) (c1 : Nat) (H : Foot) (w' : World), Sp w' H A1 c1 (normS ps) → Calls Tryz.prog 109 #[.slice A1 (normS ps).length c1] w' fun e w2 => e = .returned (.bool z) ∧ Below w'.heap.size w' w2) := fun A1 c1 H w' h => ways_any A1 c1 (normS ps) H w' z hz (by omega) h.els
    clear hpc hs hs2 hz
    rcases z with _ | _
    · obtain rfl : s = 11 := HZ.out.2 rfl
      unfold oneV
      go_enter Tryz.func96, Tryz.ntmps96
      go_upto_region 10 with (first
        | (go_at_call 18; refine HNw.out.mono ?_; rintro e w2 ⟨r, rfl, h1, h2⟩; have HL2 := Lib.hid h1; have HB2 := Lib.hid h2.2; have p1 := h2.1.cell 1; have p2 := h2.1.cell 2; simp at p1 p2; clear h1 h2)
        | (go_at_call 116; refine (HPe.out w2 (HBv.out w2 HB2.out)).mono ?_; rintro e w3 ⟨A0, c0, rfl, h1, h2⟩; have HB3 := Lib.hid h2; have HS3 := Lib.hid h1; clear h1 h2)
        | (go_at_call 97; refine (HNo.out A0 c0 ps _ w3 (by omega) HS3.out.els).mono ?_; rintro e w4 ⟨A1, c1, vs, rfl, hL⟩; have HE4 := Lib.hid (HFn.out r w2 w4 w3 A1 c1 vs ps HL2.out HB3.out hL); have q2 := HE4.out.1.cell 2; simp [atc] at q2; have qf := fun i => HE4.out.1.free i; clear hL))
      obtain ⟨w5, hw5⟩ : ∃ w5, w5 = w4.setCell ⟨g, 2, none⟩ (.slice A1 (normS ps).length c1) := ⟨_, rfl⟩
      rw [← hw5] at HE4 ⊢
      clear hw5 q2 qf
      have q2 := HE4.out.2.1.cell 2
      simp [atc] at q2
      have HWx := Lib.hid (HWy.out A1 c1 _ w5 HE4.out.2.2.1.sp)
      go_wp2_with (go_at_call 109; refine HWx.out.mono ?_; rintro e w6 ⟨rfl, h1⟩; have HB5 := Lib.hid h1; clear h1)
      go_ret
      exact ⟨rfl, HE4.out.2.2.2.bel HB5.out, fun h => absurd h (by decide)⟩
    · obtain rfl : s = 0 := HZ.out.1 rfl
      unfold oneV
      go_enter Tryz.func96, Tryz.ntmps96
      go_upto_region 10 with (first
        | (go_at_call 18; refine HNw.out.mono ?_; rintro e w2 ⟨r, rfl, h1, h2⟩; have HL2 := Lib.hid h1; have HB2 := Lib.hid h2.2; have p1 := h2.1.cell 1; have p2 := h2.1.cell 2; simp at p1 p2; clear h1 h2)
        | (go_at_call 116; refine (HPe.out w2 (HBv.out w2 HB2.out)).mono ?_; rintro e w3 ⟨A0, c0, rfl, h1, h2⟩; have HB3 := Lib.hid h2; have HS3 := Lib.hid h1; clear h1 h2)
        | (go_at_call 97; refine (HNo.out A0 c0 ps _ w3 (by omega) HS3.out.els).mono ?_; rintro e w4 ⟨A1, c1, vs, rfl, hL⟩; have HE4 := Lib.hid (HFn.out r w2 w4 w3 A1 c1 vs ps HL2.out HB3.out hL); have q2 := HE4.out.1.cell 2; simp [atc] at q2; have qf := fun i => HE4.out.1.free i; clear hL))
      obtain ⟨w5, hw5⟩ : ∃ w5, w5 = w4.setCell ⟨g, 2, none⟩ (.slice A1 (normS ps).length c1) := ⟨_, rfl⟩
      rw [← hw5] at HE4 ⊢
      clear hw5 q2 qf
      have q2 := HE4.out.2.1.cell 2
      simp [atc] at q2
      have HWx := Lib.hid (HWy.out A1 c1 _ w5 HE4.out.2.2.1.sp)
      go_wp2_with (go_at_call 109; refine HWx.out.mono ?_; rintro e w6 ⟨rfl, h1⟩; have HB5 := Lib.hid h1; clear h1)
      go_ret
      exact ⟨rfl, HE4.out.2.2.2.bel HB5.out, fun _ => ⟨A1, c1, Ac, cc, HE4.out.2.1.below HB5.out HE4.out.2.1.lt, HE4.out.2.2.1.bel HB5.out, fun _ => ⟨rfl, rfl⟩⟩⟩
end
end Go.Proofs.YtaeeeinpelfppaaGreat.attr
