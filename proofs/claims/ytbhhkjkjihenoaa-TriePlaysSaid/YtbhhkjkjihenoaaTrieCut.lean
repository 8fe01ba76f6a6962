/- What the trie's lean returns and leaves. Condition: fewer than a million keys. -/
import Derived.Test.YtbhhkjkjihenoaaTriePut5
namespace Go.Proofs.Ytbhhkjkjihenoaa.tri
open Go.RowKit Go.Proofs.Ytbhhkjkjihenoaa.kit Go.Proofs.Ytbhhkjkjihenoaa.mem Go.Proofs.Ytbhhkjkjihenoaa.foot Go.Proofs.Ytbhhkjkjihenoaa.pfx
set_option linter.unusedVariables false
set_option linter.unusedSimpArgs false

/-- a node and its kids, lying apart; how many the node counts may be wrong -/
structure Nd (w : World) (FL FR : Foot) (k : Key) (v : Int) (b : Bool) (n : Int) (l r : T) (g : Nat) (kl kr : Option Addr) : Prop where
  bk : Bk w g 138 #[.int .u32 (adr k : Int), .int .i64 (k.length : Int), .int .i64 v, .bool b, .int .i64 n, .pointer kl, .pointer kr]
  len : k.length ≤ 32
  lo : Tr w FL l kl
  hi : Tr w FR r kr
  gl : ¬ FL g
  gr : ¬ FR g
  lr : ∀ x, FL x → ¬ FR x
  bl : ∀ x, FL x → x < w.heap.size
  br : ∀ x, FR x → x < w.heap.size
theorem Tr.sf_mem {w : World} {F : Foot} {t : T} {A : Option Addr} (h : Tr w F t A) : ∀ x, sf A x → F x := by
  rintro x ⟨ad, rfl, rfl⟩
  cases t with
  | nil => exact absurd h (by simp [Tr])
  | node => obtain ⟨g2, _, _, _, _, e2, _, _, _, _, hm, _⟩ := h; cases e2; exact hm
/-- what lean leaves of a node in block g -/
def LeanP (w : World) (FL FR : Foot) (g : Nat) (t : T) (e : Ending) (w' : World) : Prop :=
  ∃ A F', e = .returned (.pointer A) ∧ Tr w' F' t A ∧ Chg (fun x => x = g) w w' ∧ (∀ x, F' x → x = g ∨ FL x ∨ FR x) ∧ ∀ x, F' x → x < w'.heap.size
section
variable {w w' : World} {FL FR : Foot} {k : Key} {v n : Int} {b : Bool} {l r : T} {g : Nat} {kl kr : Option Addr}
theorem Nd.isNil_l (h : Nd w FL FR k v b n l r g kl kr) : (kl = none ↔ l.isNil = true) := by rw [T.isNil_iff]; exact h.lo.none_iff
theorem Nd.isNil_r (h : Nd w FL FR k v b n l r g kl kr) : (kr = none ↔ r.isNil = true) := by rw [T.isNil_iff]; exact h.hi.none_iff
theorem Nd.stay (h : Nd w FL FR k v b n l r g kl kr) (hs : b = true ∨ (l.isNil = false ∧ r.isNil = false)) (hc : Chg (fun x => x = g) w w') (hk : Bk w' g 138 (nodeV k v b (T.node k v b l r).cnt kl kr)) : LeanP w FL FR g (T.lean (.node k v b l r)) (.returned (.pointer (some ⟨g, 0, none⟩))) w' := by
  rw [T.lean, if_pos hs]
  have hz := hc.size
  exact ⟨_, _, rfl, Tr.mk hk rfl h.len (h.lo.chg hc fun x hx e => h.gl (e ▸ hx)) (h.hi.chg hc fun x hx e => h.gr (e ▸ hx)) h.gl h.gr h.lr (fun x hx => Nat.lt_of_lt_of_le (h.bl x hx) hz) (fun x hx => Nat.lt_of_lt_of_le (h.br x hx) hz), hc, fun x hx => hx, fun x hx => by
    rcases hx with e | e | e
    · rw [e]; exact hk.lt
    · exact Nat.lt_of_lt_of_le (h.bl x e) hz
    · exact Nat.lt_of_lt_of_le (h.br x e) hz⟩
theorem Nd.go_l (h : Nd w FL FR k v false n l r g kl kr) (hl : l.isNil = false) (hr : r.isNil = true) (hb : Below w.heap.size w w') : LeanP w FL FR g (T.lean (.node k v false l r)) (.returned (.pointer kl)) w' := by
  rw [T.lean, if_neg (by simp [hr]), if_pos hl]
  exact ⟨kl, FL, rfl, h.lo.bel hb, Chg.of_below hb _, fun x hx => .inr (.inl hx), fun x hx => Nat.lt_of_lt_of_le (h.bl x hx) hb.size⟩
theorem Nd.go_r (h : Nd w FL FR k v false n l r g kl kr) (hl : l.isNil = true) (hb : Below w.heap.size w w') : LeanP w FL FR g (T.lean (.node k v false l r)) (.returned (.pointer kr)) w' := by
  rw [T.lean, if_neg (by simp [hl]), if_neg (by simp [hl])]
  exact ⟨kr, FR, rfl, h.hi.bel hb, Chg.of_below hb _, fun x hx => .inr (.inr hx), fun x hx => Nat.lt_of_lt_of_le (h.br x hx) hb.size⟩
end
set_option maxRecDepth 100000 in
set_option maxHeartbeats 1000000 in
theorem lean_any {FL FR : Foot} {k : Key} {v n : Int} {b : Bool} {l r : T} {g : Nat} {kl kr : Option Addr} (w : World) (h : Nd w FL FR k v b n l r g kl kr) (hc : l.cnt + r.cnt < 1000000) :
    Calls Try.prog 111 #[.pointer (some ⟨g, 0, none⟩)] w (LeanP w FL FR g (T.lean (.node k v b l r))) := by
  have HN := Lib.hid (note_any g _ _ _ b n kl kr l.cnt r.cnt (T.node k v b l r).cnt w h.bk h.lo.cn h.hi.cn hc (T.cnt_node _ _ _ _ _))
  have q3 := h.bk.cell 3
  have q5 := h.bk.cell 5
  have q6 := h.bk.cell 6
  simp at q3 q5 q6
  have hl := h.isNil_l
  have hr := h.isNil_r
  have HSt := Lib.hid (fun hs w' hc hk => h.stay (w' := w') hs hc hk)
  rcases b with _ | _
  · have HL := Lib.hid (fun a b w' hb => h.go_l (w' := w') a b hb)
    have HR := Lib.hid (fun a w' hb => h.go_r (w' := w') a hb)
    clear h hc
    rcases kl with _ | al
    · have hl2 : l.isNil = true := hl.1 rfl
      have HE := Lib.hid (HR.out hl2 w (Below.refl _ _))
      clear hl hr hl2 HL HR HSt
      go_enter Try.func111, Try.ntmps111
      go_wp2_with fail
      go_ret
      exact HE.out
    · have hl2 : l.isNil = false := by rcases hx : l.isNil with _ | _; rfl; exact absurd (hl.2 hx) (by simp)
      rcases kr with _ | ar
      · have HE := Lib.hid (HL.out hl2 (hr.1 rfl) w (Below.refl _ _))
        clear hl hr hl2 HL HR HSt
        go_enter Try.func111, Try.ntmps111
        go_wp2_with fail
        go_ret
        exact HE.out
      · have hr2 : r.isNil = false := by rcases hx : r.isNil with _ | _; rfl; exact absurd (hr.2 hx) (by simp)
        have HE := Lib.hid (HSt.out (.inr ⟨hl2, hr2⟩))
        clear hl hr hl2 hr2 HL HR HSt
        go_enter Try.func111, Try.ntmps111
        go_wp2_with fail
        refine HN.out.mono ?_; rintro e w1 ⟨rfl, hk1, hc1⟩
        have HF := Lib.hid (HE.out w1 hc1 hk1)
        clear hk1 hc1
        go_wp2_with fail
        go_ret
        exact HF.out
  · have HE := Lib.hid (HSt.out (.inl rfl))
    clear h hc hl hr HSt
    go_enter Try.func111, Try.ntmps111
    go_wp2_with fail
    refine HN.out.mono ?_; rintro e w1 ⟨rfl, hk1, hc1⟩
    have HF := Lib.hid (HE.out w1 hc1 hk1)
    clear hk1 hc1
    go_wp2_with fail
    go_ret
    exact HF.out

/-- what cut leaves: nothing beyond the old tree's blocks is written -/
def CutP (t : T) (p : Key) (w : World) (F : Foot) (e : Ending) (w' : World) : Prop := ∃ A', e = .returned (.pointer A') ∧ Left w F (t.cut p) A' w'
theorem cut_cnt (p : Key) : ∀ t : T, (t.cut p).cnt ≤ t.cnt
  | .nil => by simp [T.cut]
  | .node k u b l r => by
    have hl := cut_cnt p l
    have hr := cut_cnt p r
    have e : ∀ (v : Int) (b : Bool) (l r : T), (T.lean (.node k v b l r)).cnt = (T.node k v b l r).cnt := fun v b l r => by unfold T.cnt; rw [T.lean_rows]
    unfold T.cut
    (repeat' split) <;> rw [e, T.cnt_node, T.cnt_node] <;> (try cases b) <;> simp <;> omega
end Go.Proofs.Ytbhhkjkjihenoaa.tri
