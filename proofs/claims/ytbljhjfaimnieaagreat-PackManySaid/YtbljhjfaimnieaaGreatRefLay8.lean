/- What confluenceref08.lay does. Conditions: a value as long as its type asks, of at most 50000 bytes. Printed by gen_reflay8.py. -/
import Derived.Test.YtbljhjfaimnieaaGreatRefWays8
import Derived.Test.YtbljhjfaimnieaaGreatRefAttr
import Derived.Test.YtbljhjfaimnieaaGreatAttrDec
namespace Go.Proofs.YtbljhjfaimnieaaGreat.attr
open Go.RowKit Go.Proofs.YtbljhjfaimnieaaGreat.kit Go.Proofs.YtbljhjfaimnieaaGreat.mem Go.Proofs.YtbljhjfaimnieaaGreat.foot Go.Proofs.YtbljhjfaimnieaaGreat.nums Go.Proofs.YtbljhjfaimnieaaGreat.asn Go.Proofs.YtbljhjfaimnieaaGreat.pth Go.Proofs.YtbljhjfaimnieaaGreat.octet
set_option linter.unusedVariables false
set_option linter.unusedSimpArgs false
/-- the memory within lay: the attributes' block g -/
structure LR (w : World) (g : Nat) (a : Atr) (Ap : Option Addr) (cp : Nat) (Ac : Option Addr) (cc : Nat) (G : Foot) (wr : World) : Prop where
  bk : Bk wr g 26 (atc a Ap cp Ac cc).toArray
  am : Am wr (fun j => G j ∨ w.heap.size ≤ j) a Ap cp Ac cc
  ch : Chg (fun k => k = g) w wr
  gl : g < w.heap.size
  gG : ¬ G g
section
variable {w wr w' : World} {g cp cc cp' cc' : Nat} {a a' : Atr} {Ap Ac Ap' Ac' : Option Addr} {G : Foot}
theorem LR.start (hg : Bk w g 26 (atc a Ap cp Ac cc).toArray) (hm : Am w G a Ap cp Ac cc) (hG : ∀ k, G k → k < w.heap.size ∧ k ≠ g) (hb : Below w.heap.size w wr) : LR w g a Ap cp Ac cc G wr :=
  ⟨hg.below hb hg.lt, (hm.bel hb).mono fun _ _ h => .inl h, Chg.of_below hb _, hg.lt, fun h => (hG g h).2 rfl⟩
theorem LR.go (h : LR w g a Ap cp Ac cc G wr) (hb : Below wr.heap.size wr w') : LR w g a Ap cp Ac cc G w' := ⟨h.bk.below hb h.bk.lt, h.am.bel hb, h.ch.bel hb, h.gl, h.gG⟩
/-- a cell written -/
theorem LR.put (h : LR w g a Ap cp Ac cc G wr) (i : Nat) (v : Value) (ha : (atc a Ap cp Ac cc).toArray.setIfInBounds i v = (atc a' Ap' cp' Ac' cc').toArray) (hm : Am wr (fun j => G j ∨ w.heap.size ≤ j) a' Ap' cp' Ac' cc') : LR w g a' Ap' cp' Ac' cc' G (wr.setCell ⟨g, i, none⟩ v) := by
  have hch : Chg (fun k => k = g) wr (wr.setCell ⟨g, i, none⟩ v) := (Chg.refl (fun k => k = g) wr).put (p := ⟨g, i, none⟩) (.inl rfl) v
  have hgl := h.gl
  exact ⟨by rw [← ha]; exact h.bk.put i v, hm.chg hch fun k _ hk e => hk.elim (fun hk => h.gG (e ▸ hk)) fun hk => by omega, h.ch.trans hch fun _ _ e => e, hgl, h.gG⟩
end
section
variable (vc g : Nat) (vA : Option Addr) (a : Atr) (Ap Ac : Option Addr) (cp cc : Nat) (G : Foot) (w : World) (v : List UInt8)
end
end Go.Proofs.YtbljhjfaimnieaaGreat.attr
