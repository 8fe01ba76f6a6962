/- What confluenceref08.lay does. Conditions: a value as long as its type asks, of at most 50000 bytes. Printed by gen_reflay8.py. -/
import Derived.Test.YtaeeeinpelfppaaGreatRefWays8
import Derived.Test.YtaeeeinpelfppaaGreatRefAttr
import Derived.Test.YtaeeeinpelfppaaGreatAttrDec
namespace Go.Proofs.YtaeeeinpelfppaaGreat.attr
open Go.RowKit Go.Proofs.YtaeeeinpelfppaaGreat.kit Go.Proofs.YtaeeeinpelfppaaGreat.mem Go.Proofs.YtaeeeinpelfppaaGreat.foot Go.Proofs.YtaeeeinpelfppaaGreat.nums Go.Proofs.YtaeeeinpelfppaaGreat.asn Go.Proofs.YtaeeeinpelfppaaGreat.pth Go.Proofs.YtaeeeinpelfppaaGreat.octet
set_option linter.unusedVariables false
set_option linter.unusedSimpArgs false
/-- the memory within lay: the attributes' block g -/
structure LR (w : World) (g : Nat) (a : Atr) (Ap : Option Addr) (cp : Nat) (Ac : Option Addr) (cc : Nat) (G : Foot) (wr : World) : Prop where
  bk : Bk wr g 29 (atc a Ap cp Ac cc).toArray
  am : Am wr (fun j => G j ∨ w.heap.size ≤ j) a Ap cp Ac cc
  ch : Chg (fun k => k = g) w wr
  gl : g < w.heap.size
  gG : ¬ G g
section
variable {w wr w' : World} {g cp cc cp' cc' : Nat} {a a' : Atr} {Ap Ac Ap' Ac' : Option Addr} {G : Foot}
theorem LR.start (hg : Bk w g 29 (atc a Ap cp Ac cc).toArray) (hm : Am w G a Ap cp Ac cc) (hG : ∀ k, G k → k < w.heap.size ∧ k ≠ g) (hb : Below w.heap.size w wr) : LR w g a Ap cp Ac cc G wr :=
  ⟨hg.below hb hg.lt, (hm.bel hb).mono fun _ _ h => .inl h, Chg.of_below hb _, hg.lt, fun h => (hG g h).2 rfl⟩
theorem LR.go (h : LR w g a Ap cp Ac cc G wr) (hb : Below wr.heap.size wr w') : LR w g a Ap cp Ac cc G w' := ⟨h.bk.below hb h.bk.lt, h.am.bel hb, h.ch.bel hb, h.gl, h.gG⟩
/-- a cell written -/
theorem LR.put (h : LR w g a Ap cp Ac cc G wr) (i : Nat) (v : Value) (ha : (atc a Ap cp Ac cc).toArray.setIfInBounds i v = (atc a' Ap' cp' Ac' cc').toArray) (hm : Am wr (fun j => G j ∨ w.heap.size ≤ j) a' Ap' cp' Ac' cc') : LR w g a' Ap' cp' Ac' cc' G (wr.setCell ⟨g, i, none⟩ v) := by
  have hch : Chg (fun k => k = g) wr (wr.setCell ⟨g, i, none⟩ v) := (Chg.refl (fun k => k = g) wr).put (p := ⟨g, i, none⟩) (.inl rfl) v
  have hgl := h.gl
  exact ⟨by rw [← ha]; exact h.bk.put i v, hm.chg hch fun k _ hk e => hk.elim (fun hk => h.gG (e ▸ hk)) fun hk => by omega, h.ch.trans hch fun _ _ e => e, hgl, h.gG⟩
/-- what lay hands back -/
def RetLy (g : Nat) (a : Atr) (s : Nat) (G : Foot) (w : World) (e : Ending) (w' : World) : Prop := e = .returned (.int .i64 (s : Int)) ∧ ∃ Ap cp Ac cc, LR w g a Ap cp Ac cc G w'
theorem LR.ret (h : LR w g a Ap cp Ac cc G wr) (s : Nat) : RetLy g a s G w (.returned (.int .i64 (s : Int))) wr := ⟨rfl, Ap, cp, Ac, cc, h⟩
end
theorem am_set {w : World} {G : Foot} {a a' : Atr} {Ap Ac : Option Addr} {cp cc : Nat} (h : Am w G a Ap cp Ac cc) (hw : Awf a') (hp : a'.path = a.path) (hc : a'.comms = a.comms) : Am w G a' Ap cp Ac cc := ⟨hw, by rw [hp]; exact h.sp, by rw [hc]; exact h.sn, by rw [hc]; exact h.w32⟩
section
variable (vc g : Nat) (vA : Option Addr) (a : Atr) (Ap Ac : Option Addr) (cp cc : Nat) (G : Foot) (w : World) (v : List UInt8)
end
end Go.Proofs.YtaeeeinpelfppaaGreat.attr
