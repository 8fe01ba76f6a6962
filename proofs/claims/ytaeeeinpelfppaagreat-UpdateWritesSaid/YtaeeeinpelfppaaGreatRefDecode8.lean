/- The memory within confluenceref08.Decode; the end of its round. Conditions as each lemma states. Printed by gen_refdec8.py. Which error is told of an attribute in confluenceref08.Decode. Conditions as the lemma states. Printed by gen_refdec8.py. The attribute's own flags, and its bytes, in confluenceref08.Decode. Conditions as each lemma states. Printed by gen_refdec8.py. An attribute's bytes in confluenceref08.Decode. Conditions as each lemma states. Printed by gen_refdec8.py. The head of an attribute in confluenceref08.Decode. Conditions as each lemma states. Printed by gen_refdec8.py. What confluenceref08.Decode returns. Condition: at most 50000 bytes. Printed by gen_refdec8.py. -/
import Derived.Test.YtaeeeinpelfppaaGreatRefLay8
import Derived.Test.YtaeeeinpelfppaaGreatRefNorm8
import Derived.Test.YtaeeeinpelfppaaGreatAttrPub
import Derived.Test.YtaeeeinpelfppaaGreatCode
import Derived.Deep.RegionHeld3
namespace Go.Proofs.YtaeeeinpelfppaaGreat.attr
open Go.RowKit Go.Proofs.YtaeeeinpelfppaaGreat.kit Go.Proofs.YtaeeeinpelfppaaGreat.mem Go.Proofs.YtaeeeinpelfppaaGreat.foot Go.Proofs.YtaeeeinpelfppaaGreat.nums Go.Proofs.YtaeeeinpelfppaaGreat.asn Go.Proofs.YtaeeeinpelfppaaGreat.pth Go.Proofs.YtaeeeinpelfppaaGreat.octet Go.Proofs.YtaeeeinpelfppaaGreat.code
set_option linter.unusedVariables false
set_option linter.unusedSimpArgs false
/-- the memory within the loop -/
structure RD (w : World) (seen ms : List Nat) (a : Atr) (wr : World) : Prop where
  z0 : Bk wr w.heap.size 29 zeroC.toArray
  z1 : Bk wr (w.heap.size + 1) 33 #[.int .i64 0, .int .i64 0, .slice none 0 0]
  at_ : ∃ Ap cp Ac cc, Bk wr (w.heap.size + 2) 29 (atc a Ap cp Ac cc).toArray ∧ Am wr (fun k => w.heap.size + 5 < k) a Ap cp Ac cc
  z3 : Bk wr (w.heap.size + 3) 29 zeroC.toArray
  z4 : Bk wr (w.heap.size + 4) 33 #[.int .i64 3, .int .i64 1, .slice none 0 0]
  sn : ∃ cs : Array Value, Bk wr (w.heap.size + 5) 88 cs ∧ cs.size = 256 ∧ ∀ k, k < 256 → cs[k]? = some (.bool (decide (k ∈ ms)))
  bel : Below w.heap.size w wr
  bits : BitsOk seen a
section
variable {w wr w' : World} {seen ms : List Nat} {a : Atr}
theorem RD.go (h : RD w seen ms a wr) (hb : Below wr.heap.size wr w') : RD w seen ms a w' := by
  obtain ⟨Ap, cp, Ac, cc, k1, k2⟩ := h.at_
  obtain ⟨cs, s1, s2, s3⟩ := h.sn
  exact ⟨h.z0.below hb h.z0.lt, h.z1.below hb h.z1.lt, ⟨Ap, cp, Ac, cc, k1.below hb k1.lt, k2.bel hb⟩, h.z3.below hb h.z3.lt, h.z4.below hb h.z4.lt, ⟨cs, s1.below hb s1.lt, s2, s3⟩, h.bel.trans (hb.mono h.bel.size), h.bits⟩
/-- a type marked as seen -/
theorem RD.mark (h : RD w seen ms a wr) {k : Nat} (hk : k < 256) : RD w seen (k :: ms) a (wr.setCell ⟨w.heap.size + 5, k, none⟩ (.bool true)) := by
  obtain ⟨Ap, cp, Ac, cc, k1, k2⟩ := h.at_
  obtain ⟨cs, s1, s2, s3⟩ := h.sn
  have hc : Chg (fun j => j = w.heap.size + 5) wr (wr.setCell ⟨w.heap.size + 5, k, none⟩ (.bool true)) := (Chg.refl (fun j => j = w.heap.size + 5) wr).put (p := ⟨w.heap.size + 5, k, none⟩) (.inl rfl) _
  refine ⟨h.z0.chg hc (by omega), h.z1.chg hc (by omega), ⟨Ap, cp, Ac, cc, k1.chg hc (by omega), k2.chg hc fun k _ hk e => by omega⟩, h.z3.chg hc (by omega), h.z4.chg hc (by omega), ⟨cs.setIfInBounds k (.bool true), s1.put k _, by simp [s2], fun j hj => ?_⟩, h.bel.trans (hc.below (fun k e => by omega) h.bel.size), h.bits⟩
  rw [Array.getElem?_setIfInBounds]
  by_cases e : k = j
  · subst e
    rw [if_pos rfl, if_pos (by omega)]
    simp
  · rw [if_neg e, s3 j hj]
    have : (j ∈ k :: ms) ↔ (j ∈ ms) := by
      rw [List.mem_cons]
      constructor
      · rintro (h | h)
        · exact absurd h.symm e
        · exact h
      · exact .inr
    simp only [this]
/-- an attribute laid among the others -/
theorem RD.step {Ap Ac : Option Addr} {cp cc : Nat} {a' a2 : Atr} (h : RD w seen ms a wr) (hl : LR wr (w.heap.size + 2) a' Ap cp Ac cc (fun k => w.heap.size + 5 < k) w') {v : Value} {seen2 : List Nat}
    (hp : (atc a' Ap cp Ac cc).toArray.setIfInBounds 0 v = (atc a2 Ap cp Ac cc).toArray) (hw : Awf a2) (h1 : a2.path = a'.path) (h2 : a2.comms = a'.comms) (hb : BitsOk seen2 a2) : RD w seen2 ms a2 (w'.setCell ⟨w.heap.size + 2, 0, none⟩ v) := by
  obtain ⟨cs, s1, s2, s3⟩ := h.sn
  have hl2 := hl.put 0 v hp (am_set hl.am hw h1 h2)
  have hc := hl2.ch
  have hlt := s1.lt
  exact ⟨h.z0.chg hc (by omega), h.z1.chg hc (by omega), ⟨Ap, cp, Ac, cc, hl2.bk, hl2.am.mono fun k _ hk => by omega⟩, h.z3.chg hc (by omega), h.z4.chg hc (by omega), ⟨cs, s1.chg hc (by omega), s2, s3⟩, h.bel.trans (hc.below (fun k e => by omega) h.bel.size), hb⟩
end
/-- .. seen with fewer bounds -/
theorem LR.wide {w wr : World} {g cp cc : Nat} {a : Atr} {Ap Ac : Option Addr} {G H : Foot} (h : LR w g a Ap cp Ac cc G wr) (hG : ∀ j, G j → H j) (hg : ¬ H g) : LR w g a Ap cp Ac cc H wr := ⟨h.bk, h.am.mono fun j _ hj => hj.imp (hG j) id, h.ch, h.gl, hg⟩
end Go.Proofs.YtaeeeinpelfppaaGreat.attr

namespace Go.Proofs.YtaeeeinpelfppaaGreat.attr
open Go.RowKit Go.Proofs.YtaeeeinpelfppaaGreat.kit Go.Proofs.YtaeeeinpelfppaaGreat.mem Go.Proofs.YtaeeeinpelfppaaGreat.foot Go.Proofs.YtaeeeinpelfppaaGreat.nums Go.Proofs.YtaeeeinpelfppaaGreat.asn Go.Proofs.YtaeeeinpelfppaaGreat.pth Go.Proofs.YtaeeeinpelfppaaGreat.octet Go.Proofs.YtaeeeinpelfppaaGreat.code
set_option linter.unusedVariables false
set_option linter.unusedSimpArgs false
end Go.Proofs.YtaeeeinpelfppaaGreat.attr

namespace Go.Proofs.YtaeeeinpelfppaaGreat.attr
open Go.RowKit Go.Proofs.YtaeeeinpelfppaaGreat.kit Go.Proofs.YtaeeeinpelfppaaGreat.mem Go.Proofs.YtaeeeinpelfppaaGreat.foot Go.Proofs.YtaeeeinpelfppaaGreat.nums Go.Proofs.YtaeeeinpelfppaaGreat.asn Go.Proofs.YtaeeeinpelfppaaGreat.pth Go.Proofs.YtaeeeinpelfppaaGreat.octet Go.Proofs.YtaeeeinpelfppaaGreat.code
set_option linter.unusedVariables false
set_option linter.unusedSimpArgs false
end Go.Proofs.YtaeeeinpelfppaaGreat.attr

namespace Go.Proofs.YtaeeeinpelfppaaGreat.attr
open Go.RowKit Go.Proofs.YtaeeeinpelfppaaGreat.kit Go.Proofs.YtaeeeinpelfppaaGreat.mem Go.Proofs.YtaeeeinpelfppaaGreat.foot Go.Proofs.YtaeeeinpelfppaaGreat.nums Go.Proofs.YtaeeeinpelfppaaGreat.asn Go.Proofs.YtaeeeinpelfppaaGreat.pth Go.Proofs.YtaeeeinpelfppaaGreat.octet Go.Proofs.YtaeeeinpelfppaaGreat.code
set_option linter.unusedVariables false
set_option linter.unusedSimpArgs false
end Go.Proofs.YtaeeeinpelfppaaGreat.attr

namespace Go.Proofs.YtaeeeinpelfppaaGreat.attr
open Go.RowKit Go.Proofs.YtaeeeinpelfppaaGreat.kit Go.Proofs.YtaeeeinpelfppaaGreat.mem Go.Proofs.YtaeeeinpelfppaaGreat.foot Go.Proofs.YtaeeeinpelfppaaGreat.nums Go.Proofs.YtaeeeinpelfppaaGreat.asn Go.Proofs.YtaeeeinpelfppaaGreat.pth Go.Proofs.YtaeeeinpelfppaaGreat.octet Go.Proofs.YtaeeeinpelfppaaGreat.code
set_option linter.unusedVariables false
set_option linter.unusedSimpArgs false
end Go.Proofs.YtaeeeinpelfppaaGreat.attr

namespace Go.Proofs.YtaeeeinpelfppaaGreat.attr
open Go.RowKit Go.Proofs.YtaeeeinpelfppaaGreat.kit Go.Proofs.YtaeeeinpelfppaaGreat.mem Go.Proofs.YtaeeeinpelfppaaGreat.foot Go.Proofs.YtaeeeinpelfppaaGreat.nums Go.Proofs.YtaeeeinpelfppaaGreat.asn Go.Proofs.YtaeeeinpelfppaaGreat.pth Go.Proofs.YtaeeeinpelfppaaGreat.octet Go.Proofs.YtaeeeinpelfppaaGreat.code
set_option linter.unusedVariables false
set_option linter.unusedSimpArgs false
theorem RD.start {w : World} : RD w [] [] zeroA ((((((w.alloc (.cells zeroC.toArray 29)).alloc (.cells #[.int .i64 0, .int .i64 0, .slice none 0 0] 33)).alloc (.cells zeroC.toArray 29)).alloc (.cells zeroC.toArray 29)).alloc (.cells #[.int .i64 3, .int .i64 1, .slice none 0 0] 33)).alloc (.cells seenZ 88)) := by
  have h := allocs_at [.cells zeroC.toArray 29, .cells #[.int .i64 0, .int .i64 0, .slice none 0 0] 33, .cells zeroC.toArray 29, .cells zeroC.toArray 29, .cells #[.int .i64 3, .int .i64 1, .slice none 0 0] 33, .cells seenZ 88] w
  exact ⟨h 0 _ _ rfl, h 1 _ _ rfl, ⟨none, 0, none, 0, h 2 _ _ rfl, Am.zero _ _⟩, h 3 _ _ rfl, h 4 _ _ rfl, ⟨seenZ, h 5 _ _ rfl, by unfold seenZ; simp, fun k hk => by unfold seenZ; simp [hk]⟩, allocs_below [.cells zeroC.toArray 29, .cells #[.int .i64 0, .int .i64 0, .slice none 0 0] 33, .cells zeroC.toArray 29, .cells zeroC.toArray 29, .cells #[.int .i64 3, .int .i64 1, .slice none 0 0] 33, .cells seenZ 88] w, BitsOk.zero⟩
end Go.Proofs.YtaeeeinpelfppaaGreat.attr
