/- What bytes.Clone returns: the same bytes in memory of their own. Condition: at most 2^40 bytes. -/
import Derived.Test.YtgpmkbpahnbhlaaGreatRows
import Derived.Test.YtgpmkbpahnbhlaaGreatGround
namespace Go.Proofs.YtgpmkbpahnbhlaaGreat.octet
open Go.RowKit Go.Proofs.YtgpmkbpahnbhlaaGreat.kit Go.Proofs.YtgpmkbpahnbhlaaGreat.mem
set_option linter.unusedVariables false

/-- bytes handed back in memory that is new, or nil -/
def RetBytes (l : List UInt8) (w : World) (e : Ending) (w' : World) : Prop :=
  ∃ A c, e = .returned (.slice A l.length c) ∧ (A = none → c = 0) ∧ l.length ≤ c ∧ c ≤ maxLen ∧ Bs w' w'.heap.size A l ∧ Below w.heap.size w w' ∧ (∀ ad, A = some ad → w.heap.size ≤ ad.block)

theorem info_u8 : (Tryz.prog.info? 5).map (fun i => (i.zero, i.size, i.bytes)) = some (some (.int .u8 0), 1, 1) := by kernel_rfl

theorem own_empty (w : World) (e : TypeId) (base : Nat) (hb : base ≤ w.heap.size) : (w.alloc (.cells #[] e)).ownsRow base e 1 (.slice (some ⟨w.heap.size, 0, none⟩) 0 0) 0 [] :=
  ⟨rfl, .inr ⟨w.heap.size, 0, #[], rfl, hb, heap_alloc_new w _, Nat.le_refl _, by unfold maxLen; omega, rfl, rfl⟩⟩

theorem own_ret {l : List UInt8} {w w' : World} {v : Value} (hown : w'.ownsRow w.heap.size 5 1 v l.length (bv l)) (hb : Below w.heap.size w w') : RetBytes l w (.returned v) w' := by
  rcases hown.2 with ⟨rfl, h0⟩ | ⟨g, cap, cur, rfl, h1, h2, h3, h4, h5, h6⟩
  · have hl : l = [] := List.eq_nil_of_length_eq_zero h0
    subst hl
    exact ⟨none, 0, rfl, fun _ => rfl, Nat.le_refl _, by unfold maxLen; omega, Rd.nil _ _ _ _, hb, (fun ad h => by cases h)⟩
  · exact ⟨some ⟨g, 0, none⟩, cap, rfl, (fun h => by cases h), h3, h4, Rd.of_own hown, hb, (fun ad h => by cases h; exact h1)⟩

theorem clone_any (A : Option Addr) (c B : Nat) (l : List UInt8) (w : World) (hl : l.length ≤ 1099511627776) (hA : A = none → c = 0) (hB : B ≤ w.heap.size) (hr : Bs w B A l) :
    Calls Tryz.prog 60 #[.slice A l.length c] w (RetBytes l w) := by
  have hr1 := hr.alloc hB (.cells #[] 5)
  have hown := own_empty w 5 w.heap.size (Nat.le_refl _)
  obtain ⟨i0, hi, hz0, hz1, hz2⟩ := info_parts info_u8
  rcases A with _ | ad
  · have hc := hA rfl
    subst hc
    have hl0 : l = [] := by
      rcases Nat.eq_zero_or_pos l.length with h | h
      · exact List.eq_nil_of_length_eq_zero h
      · obtain ⟨b, off, e, _⟩ := hr.2 h; cases e
    subst hl0
    clear hr hr1 hown
    have hq := fun (w : World) (a : Option Addr) (n c : Nat) => Lib.run_eql_slice_nil (P := Tryz.prog) w 32 5 a n c 0 0 Tryz.underlying32
    go_enter Tryz.func60, Tryz.ntmps60
    go_wp2
    go_ret
    exact ⟨none, 0, rfl, fun _ => rfl, Nat.le_refl _, by unfold maxLen; omega, Rd.nil _ _ _ _, Below.refl _ _, (fun ad h => by cases h)⟩
  · have hq := fun (w : World) (a : Option Addr) (n c : Nat) => Lib.run_eql_slice_nil (P := Tryz.prog) w 32 5 a n c 0 0 Tryz.underlying32
    have Hr1 := Lib.hid hr1
    have Hown := Lib.hid hown
    clear hr hr1 hown
    go_enter Tryz.func60, Tryz.ntmps60
    go_wp2_with (at_builtin; refine wpList_append_rd rfl (.tmp 5) (.tmp 6) _ rfl w.heap.size 5 i0 _ 1 1 Tryz.underlying32 hi hz0 hz1 hz2 rfl (by omega) (.slice (some ⟨w.heap.size, 0, none⟩) 0 0) 0 [] rfl Hown.out B (some ad) l.length c (by intro h; cases h) (bv l) rfl Hr1.out (bv_one l) (by unfold maxLen; omega) (by omega) (by simp) ?_; intro v1 w1 hown1 hg1 hat1)
    go_ret
    have hb : Below w.heap.size w w1 := ((Below.refl _ _).alloc (Nat.le_refl _) _).trans (below_grown hg1 (by simp) (by simp [Value.ownBlock]))
    exact own_ret (by simpa using hown1) hb

end Go.Proofs.YtgpmkbpahnbhlaaGreat.octet
