/- bytes.Clone and octet's Take with what they hand back as a row of the call's own. Condition: at most 2^40 bytes. -/
import Derived.Test.YtbljhjfaimnieaaGreatOctRef
import Derived.Test.YtbljhjfaimnieaaGreatPre
namespace Go.Proofs.YtbljhjfaimnieaaGreat.octet
open Go.RowKit Go.Proofs.YtbljhjfaimnieaaGreat.kit Go.Proofs.YtbljhjfaimnieaaGreat.mem
set_option linter.unusedVariables false

/-- bytes handed back that are a row of the call's own -/
def RetOwn (l : List UInt8) (w : World) (e : Ending) (w' : World) : Prop :=
  ∃ A c, e = .returned (.slice A l.length c) ∧ w'.ownsRow w.heap.size 5 1 (.slice A l.length c) l.length (bv l) ∧ Below w.heap.size w w'

theorem clone_own (A : Option Addr) (c B : Nat) (l : List UInt8) (w : World) (hl : l.length ≤ 1099511627776) (hA : A = none → c = 0) (hB : B ≤ w.heap.size) (hr : Bs w B A l) :
    Calls Tryz.prog 142 #[.slice A l.length c] w (RetOwn l w) := by
  have hr1 := hr.alloc hB (.cells #[] 5)
  have hown := own_empty w 5 w.heap.size (Nat.le_refl _)
  obtain ⟨i0, hi, hz0, hz1, hz2⟩ := info_parts info_u8
  have hq := fun (w : World) (a : Option Addr) (n c : Nat) => Lib.run_eql_slice_nil (P := Tryz.prog) w 46 5 a n c 0 0 Tryz.underlying46
  rcases A with _ | ad
  · have hc := hA rfl
    subst hc
    have hl0 : l = [] := by
      rcases Nat.eq_zero_or_pos l.length with h | h
      · exact List.eq_nil_of_length_eq_zero h
      · obtain ⟨b, off, e, _⟩ := hr.2 h; cases e
    subst hl0
    clear hr hr1 hown
    go_enter Tryz.func142, Tryz.ntmps142
    go_wp2
    go_ret
    exact ⟨none, 0, rfl, own_none _ _ _ _, Below.refl _ _⟩
  · have Hr1 := Lib.hid hr1
    have Hown := Lib.hid hown
    clear hr hr1 hown
    go_enter Tryz.func142, Tryz.ntmps142
    go_wp2_with (at_builtin; refine wpList_append_sl rfl (.tmp 5) (.tmp 6) _ rfl w.heap.size 5 i0 _ 1 1 Tryz.underlying46 hi hz0 hz1 hz2 rfl (by omega) (.slice (some ⟨w.heap.size, 0, none⟩) 0 0) 0 [] rfl Hown.out B (some ad) l.length c (by intro h; cases h) (bv l) rfl Hr1.out (bv_one l) (by unfold maxLen; omega) (by omega) (by simp) ?_; intro A1 c1 w1 hown1 hg1 hat1)
    go_ret
    have hb : Below w.heap.size w w1 := ((Below.refl _ _).alloc (Nat.le_refl _) _).trans (below_grown hg1 (by simp) (by simp [Value.ownBlock]))
    rw [Nat.zero_add, List.nil_append] at hown1
    exact ⟨A1, c1, by simp, hown1, hb⟩

end Go.Proofs.YtbljhjfaimnieaaGreat.octet
