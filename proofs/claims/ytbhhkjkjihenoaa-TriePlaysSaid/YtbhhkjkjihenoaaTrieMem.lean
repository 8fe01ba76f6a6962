/- Trees in memory; what trie's count, note, side return. Conditions as each lemma states. -/
import Derived.Test.YtbhhkjkjihenoaaTrieNum
import Derived.Test.YtbhhkjkjihenoaaPfxFns2
namespace Go.Proofs.Ytbhhkjkjihenoaa.tri
open Go.RowKit Go.Proofs.Ytbhhkjkjihenoaa.kit Go.Proofs.Ytbhhkjkjihenoaa.mem Go.Proofs.Ytbhhkjkjihenoaa.foot Go.Proofs.Ytbhhkjkjihenoaa.pfx
set_option linter.unusedVariables false
set_option linter.unusedSimpArgs false

/-- a node's cells -/
abbrev nodeV (k : Key) (v : Int) (b : Bool) (n : Nat) (kl kr : Option Addr) : Array Value := #[.int .u32 (adr k : Int), .int .i64 (k.length : Int), .int .i64 v, .bool b, .int .i64 (n : Int), .pointer kl, .pointer kr]
/-- the tree lies at A, its nodes in blocks of F -/
def Tr (w : World) : Foot → T → Option Addr → Prop
  | F, .nil, A => A = none
  | F, .node k v b l r, A => ∃ (g : Nat) (FL FR : Foot) (kl kr : Option Addr), A = some ⟨g, 0, none⟩ ∧ Bk w g 138 (nodeV k v b (T.node k v b l r).cnt kl kr) ∧ k.length ≤ 32 ∧
      Tr w FL l kl ∧ Tr w FR r kr ∧ F g ∧ ¬ FL g ∧ ¬ FR g ∧ (∀ x, FL x → F x ∧ ¬ FR x) ∧ (∀ x, FR x → F x) ∧ (∀ x, FL x → x < w.heap.size) ∧ (∀ x, FR x → x < w.heap.size)
section
variable {w w' : World} {F G E : Foot} {t : T} {A : Option Addr}
theorem Tr.nil_ (w : World) (F : Foot) : Tr w F .nil none := rfl
theorem Tr.chg : ∀ {t : T} {F : Foot} {A : Option Addr}, Tr w F t A → Chg E w w' → (∀ x, F x → ¬ E x) → Tr w' F t A
  | .nil, _, _, h, _, _ => h
  | .node .., _, _, ⟨g, FL, FR, kl, kr, e, h1, h2, h3, h4, h5, h6, h7, h8, h9, h10, h11⟩, hc, hd =>
    ⟨g, FL, FR, kl, kr, e, h1.chg hc (hd g h5), h2, h3.chg hc fun x hx => hd x (h8 x hx).1, h4.chg hc fun x hx => hd x (h9 x hx), h5, h6, h7, h8, h9, fun x hx => Nat.lt_of_lt_of_le (h10 x hx) hc.size, fun x hx => Nat.lt_of_lt_of_le (h11 x hx) hc.size⟩
theorem Tr.bel (h : Tr w F t A) (hb : Below w.heap.size w w') : Tr w' F t A := h.chg (E := fun _ => False) (Chg.of_below hb _) fun _ _ e => e
theorem Tr.mono : ∀ {t : T} {F G : Foot} {A : Option Addr}, Tr w F t A → (∀ x, F x → G x) → Tr w G t A
  | .nil, _, _, _, h, _ => h
  | .node .., _, _, _, ⟨g, FL, FR, kl, kr, e, h1, h2, h3, h4, h5, h6, h7, h8, h9, h10, h11⟩, hG =>
    ⟨g, FL, FR, kl, kr, e, h1, h2, h3, h4, hG g h5, h6, h7, fun x hx => ⟨hG x (h8 x hx).1, (h8 x hx).2⟩, fun x hx => hG x (h9 x hx), h10, h11⟩
theorem Tr.drew (h : Tr w F t A) : Tr w.drew F t A := h.bel ((Below.refl _ _).drew)
/-- a leaner footprint: only what is below the heap's size -/
theorem Tr.tight : ∀ {t : T} {F : Foot} {A : Option Addr}, Tr w F t A → Tr w (fun x => F x ∧ x < w.heap.size) t A
  | .nil, _, _, h => h
  | .node .., _, _, ⟨g, FL, FR, kl, kr, e, h1, h2, h3, h4, h5, h6, h7, h8, h9, h10, h11⟩ =>
    ⟨g, FL, FR, kl, kr, e, h1, h2, h3, h4, ⟨h5, h1.lt⟩, h6, h7, fun x hx => ⟨⟨(h8 x hx).1, h10 x hx⟩, (h8 x hx).2⟩, fun x hx => ⟨h9 x hx, h11 x hx⟩, h10, h11⟩
theorem Tr.none_iff (h : Tr w F t A) : A = none ↔ t = .nil := by
  cases t with
  | nil => exact ⟨fun _ => rfl, fun _ => h⟩
  | node k v b l r => obtain ⟨g, _, _, _, _, rfl, _⟩ := h; simp
end

/-- a pointer to a node, and how many it counts -/
def Cn (w : World) (A : Option Addr) (n : Nat) : Prop := (A = none ∧ n = 0) ∨ ∃ g cs, A = some ⟨g, 0, none⟩ ∧ Bk w g 138 cs ∧ cs[4]? = some (.int .i64 (n : Int))
theorem Tr.cn {w : World} {F : Foot} {t : T} {A : Option Addr} (h : Tr w F t A) : Cn w A t.cnt := by
  cases t with
  | nil => exact .inl ⟨h, rfl⟩
  | node k v b l r => obtain ⟨g, _, _, _, _, rfl, h1, _⟩ := h; exact .inr ⟨g, _, rfl, h1, rfl⟩
theorem Cn.chg {w w' : World} {E : Foot} {A : Option Addr} {n : Nat} (h : Cn w A n) (hc : Chg E w w') (hd : ∀ x, sf A x → ¬ E x) : Cn w' A n := by
  rcases h with h | ⟨g, cs, rfl, h1, h2⟩
  · exact .inl h
  · exact .inr ⟨g, cs, rfl, h1.chg hc (hd g (by rw [sf_some])), h2⟩
theorem count_any (A : Option Addr) (n : Nat) (w : World) (h : Cn w A n) : Calls Try.prog 84 #[.pointer A] w fun e w' => e = .returned (.int .i64 (n : Int)) ∧ w = w' := by
  rcases h with ⟨rfl, rfl⟩ | ⟨g, cs, rfl, h1, h2⟩
  · go_enter Try.func84, Try.ntmps84
    go_wp2_with fail
    go_ret
    exact ⟨rfl, rfl⟩
  · have q := (h1.cell 4).trans h2
    clear h1 h2
    go_enter Try.func84, Try.ntmps84
    go_wp2_with fail
    go_ret
    exact ⟨rfl, rfl⟩

set_option maxRecDepth 100000 in
theorem note_any (g : Nat) (c0 c1 c2 : Value) (b : Bool) (n0 : Int) (kl kr : Option Addr) (x y m : Nat) (w : World) (hk : Bk w g 138 #[c0, c1, c2, .bool b, .int .i64 n0, .pointer kl, .pointer kr]) (hx : Cn w kl x) (hy : Cn w kr y) (hs : x + y < 1000000) (hm : m = (if b = true then 1 else 0) + x + y) :
    Calls Try.prog 107 #[.pointer (some ⟨g, 0, none⟩)] w fun e w' => e = .returned (.pointer (some ⟨g, 0, none⟩)) ∧ Bk w' g 138 #[c0, c1, c2, .bool b, .int .i64 (m : Int), .pointer kl, .pointer kr] ∧ Chg (fun k => k = g) w w' := by
  have q3 := hk.cell 3
  have q4 := hk.cell 4
  have q5 := hk.cell 5
  have q6 := hk.cell 6
  have qf := hk.free 4
  have HX := Lib.hid (count_any kl x w.drew (hx.chg (E := fun _ => False) (Chg.refl _ _).drew fun _ _ e => e))
  have HY := Lib.hid (count_any kr y w.drew (hy.chg (E := fun _ => False) (Chg.refl _ _).drew fun _ _ e => e))
  have HK := Lib.hid hk
  have HM := Lib.hid hm
  simp at q3 q4 q5 q6
  clear hk hx hy hm
  have hs2 : (x : Int) + y < 1000000 := by omega
  clear hs
  go_enter Try.func107, Try.ntmps107
  go_wp2_with fail
  have hw : IntKind.i64.wrap ((x : Int) + (y : Int)) = (x : Int) + (y : Int) := by rw [IntKind.wrap_i64]; omega
  go_region_held3 (fun w' => w'.cell? ⟨g, 5, none⟩ = some (.pointer kl) ∧ w'.cell? ⟨g, 6, none⟩ = some (.pointer kr)) (exact ⟨by go_simp, by go_simp⟩) (first
    | (go_at_call_of 84 (Value.pointer kl); refine HX.out.mono ?_; rintro e w' ⟨rfl, rfl⟩)
    | (go_at_call_of 84 (Value.pointer kr); refine HY.out.mono ?_; rintro e w' ⟨rfl, rfl⟩))
  clear hw
  have H1 : Hid (Bk ((w.setCell ⟨g, 4, none⟩ (.int .i64 ((x : Int) + (y : Int)))).drew) g 138 #[c0, c1, c2, .bool b, .int .i64 ((x : Int) + (y : Int)), .pointer kl, .pointer kr] ∧ Chg (fun k => k = g) w ((w.setCell ⟨g, 4, none⟩ (.int .i64 ((x : Int) + (y : Int)))).drew)) := ⟨(HK.out.put 4 (.int .i64 ((x : Int) + (y : Int)))).drew, ((Chg.refl (fun k => k = g) w).put (p := ⟨g, 4, none⟩) (.inl rfl) _).drew⟩
  clear q3 q4 q5 q6 qf
  generalize (w.setCell ⟨g, 4, none⟩ (.int .i64 ((x : Int) + (y : Int)))).drew = w1 at *
  have q3 := H1.out.1.cell 3
  have q4 := H1.out.1.cell 4
  have qf := H1.out.1.free 4
  simp at q3 q4
  rcases b with _ | _
  · have HM2 : Hid ((m : Int) = (x : Int) + y) := by have := HM.out; simp at this; rw [Hid]; omega
    go_wp2_with fail
    go_ret
    exact ⟨rfl, by rw [HM2.out]; exact H1.out.1, H1.out.2⟩
  · have HM2 : Hid ((m : Int) = (x : Int) + y + 1) := by have := HM.out; simp at this; rw [Hid]; omega
    go_wp2_with fail
    go_ret
    exact ⟨rfl, by rw [HM2.out]; exact H1.out.1.put 4 _, H1.out.2.put (p := ⟨g, 4, none⟩) (.inl rfl) _⟩

theorem side_any (a : Nat) (n : Int) (x k : Nat) (m : Int) (hx : x < 4294967296) (hk : k < 32) (w : World) : Calls Try.prog 81 #[.agg #[.int .u32 a, .int .i64 k], .agg #[.int .u32 x, .int .i64 m]] w fun e w' => e = .returned (.int .i64 ((x / 2 ^ (31 - k) % 2 : Nat) : Int)) ∧ Below w.heap.size w w' := by
  have HB := Lib.hid (bit_any x k hx hk)
  have HB0 : Hid (Below w.heap.size w ((w.alloc (.cells #[.int .u32 a, .int .i64 k] 30)).alloc (.cells #[.int .u32 x, .int .i64 m] 30))) := Go.Joins.below_alloc2 w _ _
  generalize x / 2 ^ (31 - k) % 2 = r at *
  go_enter Try.func81, Try.ntmps81
  go_wp2_with (go_at_call 79; refine (HB.out _).mono ?_; rintro e w' ⟨rfl, rfl⟩)
  go_ret
  exact ⟨rfl, HB0.out⟩
end Go.Proofs.Ytbhhkjkjihenoaa.tri
