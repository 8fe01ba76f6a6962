/- bytes.Clone and octet's Take with what they hand back as a row of the call's own. Condition: at most 2^40 bytes. -/
import Derived.Test.YtaeeeinpelfppaaGreatOctRef
import Derived.Test.YtaeeeinpelfppaaGreatPre
namespace Go.Proofs.YtaeeeinpelfppaaGreat.octet
open Go.RowKit Go.Proofs.YtaeeeinpelfppaaGreat.kit Go.Proofs.YtaeeeinpelfppaaGreat.mem
set_option linter.unusedVariables false

theorem grown_then {a b c : World} {row : Option Nat} (h : a.grownBy b row) (k : Below a.heap.size b c) : a.grownBy c row :=
  ⟨k.os.trans h.os, k.tape.trans h.tape, k.output.trans h.output, Nat.le_trans h.size k.size, fun i hi hne => (k.block i hi).trans (h.block i hi hne)⟩
theorem grown_first {a b c : World} {row : Option Nat} (h : Below a.heap.size a b) (k : b.grownBy c row) : a.grownBy c row := grown_trans (grown_below h _) k

/-- bytes handed back that are a row of the call's own -/
def RetOwn (l : List UInt8) (w : World) (e : Ending) (w' : World) : Prop :=
  ∃ A c, e = .returned (.slice A l.length c) ∧ w'.ownsRow w.heap.size 5 1 (.slice A l.length c) l.length (bv l) ∧ Below w.heap.size w w'

theorem clone_own (A : Option Addr) (c B : Nat) (l : List UInt8) (w : World) (hl : l.length ≤ 1099511627776) (hA : A = none → c = 0) (hB : B ≤ w.heap.size) (hr : Bs w B A l) :
    Calls Tryz.prog 51 #[.slice A l.length c] w (RetOwn l w) := by
  have hr1 := hr.alloc hB (.cells #[] 5)
  have hown := own_empty w 5 w.heap.size (Nat.le_refl _)
  obtain ⟨i0, hi, hz0, hz1, hz2⟩ := info_parts info_u8
  have hq := fun (w : World) (a : Option Addr) (n c : Nat) => Lib.run_eql_slice_nil (P := Tryz.prog) w 22 5 a n c 0 0 Tryz.underlying22
  rcases A with _ | ad
  · have hc := hA rfl
    subst hc
    have hl0 : l = [] := by
      rcases Nat.eq_zero_or_pos l.length with h | h
      · exact List.eq_nil_of_length_eq_zero h
      · obtain ⟨b, off, e, _⟩ := hr.2 h; cases e
    subst hl0
    clear hr hr1 hown
    go_enter Tryz.func51, Tryz.ntmps51
    go_wp2
    go_ret
    exact ⟨none, 0, rfl, own_none _ _ _ _, Below.refl _ _⟩
  · have Hr1 := Lib.hid hr1
    have Hown := Lib.hid hown
    clear hr hr1 hown
    go_enter Tryz.func51, Tryz.ntmps51
    go_wp2_with (at_builtin; refine wpList_append_sl rfl (.tmp 5) (.tmp 6) _ rfl w.heap.size 5 i0 _ 1 1 Tryz.underlying22 hi hz0 hz1 hz2 rfl (by omega) (.slice (some ⟨w.heap.size, 0, none⟩) 0 0) 0 [] rfl Hown.out B (some ad) l.length c (by intro h; cases h) (bv l) rfl Hr1.out (bv_one l) (by unfold maxLen; omega) (by omega) (by simp) ?_; intro A1 c1 w1 hown1 hg1 hat1)
    go_ret
    have hb : Below w.heap.size w w1 := ((Below.refl _ _).alloc (Nat.le_refl _) _).trans (below_grown hg1 (by simp) (by simp [Value.ownBlock]))
    rw [Nat.zero_add, List.nil_append] at hown1
    exact ⟨A1, c1, by simp, hown1, hb⟩

/-- bytes handed back as a row from here on, and the reader gone on -/
def GotOwn (l : List UInt8) (r : Nat) (q : List UInt8) (bad : Bool) (w : World) (e : Ending) (w' : World) : Prop :=
  ∃ A c, e = .returned (.slice A l.length c) ∧ w'.ownsRow w.heap.size 5 1 (.slice A l.length c) l.length (bv l) ∧ Rdr w' r q bad ∧ w.grownBy w' (some r)

theorem Take_own (r : Nat) (l : List UInt8) (bad : Bool) (n : Int) (w : World) (hl : l.length ≤ 1099511627776) (hr : Rdr w r l bad) :
    Calls Tryz.prog 20 #[.pointer (some ⟨r, 0, none⟩), .int .i64 n] w (GotOwn (rget l bad n) r (rleft l bad n) (!rok l bad n) w) := by
  have HT := Lib.hid (take_any r l bad n w hr)
  have hg := rget_len l bad n
  clear hr
  go_enter Tryz.func20, Tryz.ntmps20
  go_wp2_with fail
  refine HT.out.mono ?_
  rintro e w1 ⟨⟨A, rfl, hA, hs⟩, hR, hG⟩
  have HC := Lib.hid (clone_own A (rget l bad n).length r (rget l bad n) w1 (by omega) hA (Nat.le_of_lt hR.lt) hs)
  have HR := Lib.hid hR
  have HG := Lib.hid hG
  clear hR hG hs hA
  go_wp2_with fail
  refine HC.out.mono ?_
  rintro e w2 ⟨A', c', rfl, ho, hb⟩
  have HF : Hid (GotOwn (rget l bad n) r (rleft l bad n) (!rok l bad n) w (.returned (.slice A' (rget l bad n).length c')) w2) :=
    ⟨A', c', rfl, own_le ho HG.out.size, HR.out.below hb HR.out.lt, grown_trans HG.out (grown_below hb _)⟩
  clear ho hb
  go_wp2_with fail
  go_ret
  exact HF.out
end Go.Proofs.YtaeeeinpelfppaaGreat.octet
