/- The plain law of one attribute's bytes; what (attr.one).long, .flagged and attr.notice return. -/
import Derived.Test.YtaeeeinpelfppaaGreatAttrPcs
namespace Go.Proofs.YtaeeeinpelfppaaGreat.attr
open Go.RowKit Go.Proofs.YtaeeeinpelfppaaGreat.kit Go.Proofs.YtaeeeinpelfppaaGreat.mem Go.Proofs.YtaeeeinpelfppaaGreat.foot Go.Proofs.YtaeeeinpelfppaaGreat.nums Go.Proofs.YtaeeeinpelfppaaGreat.asn Go.Proofs.YtaeeeinpelfppaaGreat.pth Go.Proofs.YtaeeeinpelfppaaGreat.octet
set_option linter.unusedVariables false
set_option linter.unusedSimpArgs false
/-- an attribute as it stands: flags, type, value, all its bytes -/
structure At1 where
  f : Nat
  k : Nat
  v : List UInt8
  all : List UInt8
def ext (f : Nat) : Bool := decide (f / 16 % 2 = 1)
def lenN (f : Nat) : Nat := if ext f = true then 2 else 1
/-- the first attribute, and what is left behind it -/
def att1 : List UInt8 → Option (At1 × List UInt8)
  | f :: k :: t => if lenN f.toNat ≤ t.length ∧ num (t.take (lenN f.toNat)) ≤ (t.drop (lenN f.toNat)).length then some (⟨f.toNat, k.toNat, (t.drop (lenN f.toNat)).take (num (t.take (lenN f.toNat))), f :: k :: (t.take (lenN f.toNat) ++ (t.drop (lenN f.toNat)).take (num (t.take (lenN f.toNat))))⟩, (t.drop (lenN f.toNat)).drop (num (t.take (lenN f.toNat)))) else none
  | _ => none
def longB (k n : Nat) : Bool :=
  match k with
  | 1 => decide (n = 1)
  | 3 => decide (n = 4)
  | 4 => decide (n = 4)
  | 5 => decide (n = 4)
  | 6 => decide (n = 0)
  | 7 => decide (n = 8)
  | 8 => decide (n % 4 = 0) && decide (n ≤ 1020)
  | _ => true
def unExt (f : Nat) : Nat := if ext f = true then f - 16 else f
def unPart (f : Nat) : Nat := if f / 32 % 2 = 1 then f - 32 else f
def ownF (f k : Nat) : Nat := if k = 7 ∨ k = 8 then unPart (unExt f) else unExt f
def flaggedB (f k : Nat) : Bool := decide ((ownF f k : Int) = flg (k : Int))
theorem andNot16 (f : Nat) (h : f ≤ 255) : bits .andNot .i64 (f : Int) 16 = (unExt f : Int) := by
  have : ∀ f : Fin 256, bits .andNot .i64 (f.val : Int) 16 = (unExt f.val : Int) := by decide +kernel
  exact this ⟨f, by omega⟩
theorem andNot32 (f : Nat) (h : f ≤ 255) : bits .andNot .i64 (f : Int) 32 = (unPart f : Int) := by
  have : ∀ f : Fin 256, bits .andNot .i64 (f.val : Int) 32 = (unPart f.val : Int) := by decide +kernel
  exact this ⟨f, by omega⟩
theorem unExt_le (f : Nat) : unExt f ≤ f := by unfold unExt; split <;> omega
theorem and16 (f : Nat) (h : f ≤ 255) : bits .and .i64 (f : Int) 16 = if ext f = true then 16 else 0 := by
  have : ∀ f : Fin 256, bits .and .i64 (f.val : Int) 16 = if ext f.val = true then 16 else 0 := by decide +kernel
  exact this ⟨f, by omega⟩
theorem and128 (f : Nat) (h : f ≤ 255) : bits .and .i64 (f : Int) 128 = if 128 ≤ f then 128 else 0 := by
  have : ∀ f : Fin 256, bits .and .i64 (f.val : Int) 128 = if 128 ≤ f.val then 128 else 0 := by decide +kernel
  exact this ⟨f, by omega⟩
/-- the four cells of one attribute -/
def oneV (f k : Nat) (vA : Option Addr) (n vc : Nat) (aA : Option Addr) (m ac : Nat) : Array Value := #[.int .i64 (f : Int), .int .i64 (k : Int), .slice vA n vc, .slice aA m ac]
theorem beqn (n m : Nat) : ((n : Int) == (m : Int)) = decide (n = m) := by
  rw [Bool.eq_iff_iff, beq_iff_eq, decide_eq_true_iff]
  omega
section
variable (f k n vc m ac : Nat) (vA aA : Option Addr) (w : World)
set_option maxRecDepth 100000 in
set_option maxHeartbeats 2000000 in
theorem long_any (h1 : 1 ≤ k) (h8 : k ≤ 8) : Calls Tryz.prog 95 #[.agg (oneV f k vA n vc aA m ac)] w fun e w' => e = .returned (.bool (longB k n)) ∧ Below w.heap.size w w' := by
  have HB : Hid (Below w.heap.size w (w.alloc (.cells #[.int .i64 (f : Int), .int .i64 (k : Int), .slice vA n vc, .slice aA m ac] 90))) := (Below.refl _ _).alloc (Nat.le_refl _) _
  unfold oneV
  obtain ⟨b, hb⟩ : ∃ b, b = longB k n := ⟨_, rfl⟩
  rw [← hb]
  have h : k = 1 ∨ k = 2 ∨ k = 3 ∨ k = 4 ∨ k = 5 ∨ k = 6 ∨ k = 7 ∨ k = 8 := by omega
  rcases h with rfl | rfl | rfl | rfl | rfl | rfl | rfl | rfl
  · replace hb : b = decide (n = 1) := hb
    go_enter Tryz.func95, Tryz.ntmps95
    go_wp2_with fail
    go_ret
    exact ⟨by rw [hb]; exact ret_bool (beqn n 1), HB.out⟩
  · replace hb : b = true := hb
    subst hb
    go_enter Tryz.func95, Tryz.ntmps95
    go_wp2_with fail
    go_ret
    exact ⟨rfl, HB.out⟩
  · replace hb : b = decide (n = 4) := hb
    go_enter Tryz.func95, Tryz.ntmps95
    go_wp2_with fail
    go_ret
    exact ⟨by rw [hb]; exact ret_bool (beqn n 4), HB.out⟩
  · replace hb : b = decide (n = 4) := hb
    go_enter Tryz.func95, Tryz.ntmps95
    go_wp2_with fail
    go_ret
    exact ⟨by rw [hb]; exact ret_bool (beqn n 4), HB.out⟩
  · replace hb : b = decide (n = 4) := hb
    go_enter Tryz.func95, Tryz.ntmps95
    go_wp2_with fail
    go_ret
    exact ⟨by rw [hb]; exact ret_bool (beqn n 4), HB.out⟩
  · replace hb : b = decide (n = 0) := hb
    go_enter Tryz.func95, Tryz.ntmps95
    go_wp2_with fail
    go_ret
    exact ⟨by rw [hb]; exact ret_bool (beqn n 0), HB.out⟩
  · replace hb : b = decide (n = 8) := hb
    go_enter Tryz.func95, Tryz.ntmps95
    go_wp2_with fail
    go_ret
    exact ⟨by rw [hb]; exact ret_bool (beqn n 8), HB.out⟩
  · replace hb : b = (decide (n % 4 = 0) && decide (n ≤ 1020)) := hb
    have e4 : ((n : Int) % 4 == 0) = decide (n % 4 = 0) := by
      rw [Bool.eq_iff_iff, beq_iff_eq, decide_eq_true_iff]
      omega
    by_cases h4 : n % 4 = 0
    · rw [decide_eq_true h4] at e4 hb
      rw [Bool.true_and] at hb
      have HE : Hid (decide ((n : Int) ≤ 1020) = b) := by
        rw [Hid, hb]
        congr 1
        exact propext (by omega)
      clear hb
      go_enter Tryz.func95, Tryz.ntmps95
      go_wp2_with fail
      go_ret
      exact ⟨ret_bool HE.out, HB.out⟩
    · rw [decide_eq_false h4] at e4 hb
      rw [Bool.false_and] at hb
      subst hb
      go_enter Tryz.func95, Tryz.ntmps95
      go_wp2_with fail
      go_ret
      exact ⟨rfl, HB.out⟩
set_option maxRecDepth 100000 in
set_option maxHeartbeats 2000000 in
theorem flagged_any (hf : f ≤ 255) (h1 : 1 ≤ k) (h8 : k ≤ 8) : Calls Tryz.prog 94 #[.agg (oneV f k vA n vc aA m ac)] w fun e w' => e = .returned (.bool (flaggedB f k)) ∧ Below w.heap.size w w' := by
  have HB : Hid (Below w.heap.size w (w.alloc (.cells #[.int .i64 (f : Int), .int .i64 (k : Int), .slice vA n vc, .slice aA m ac] 90))) := (Below.refl _ _).alloc (Nat.le_refl _) _
  have HFl : Hid (∀ w', Calls Tryz.prog 93 #[.int .i64 (k : Int)] w' fun e w2 => e = .returned (.int .i64 (flg (k : Int))) ∧ w' = w2) := fun w' => flags_any k w'
  unfold oneV
  have a16 := andNot16 f hf
  have a32 := andNot32 (unExt f) (by have := unExt_le f; omega)
  by_cases h78 : k = 7 ∨ k = 8
  · have HE : Hid (((unPart (unExt f) : Int) == flg (k : Int)) = flaggedB f k) := by
      unfold flaggedB ownF
      rw [if_pos h78, Hid, Bool.eq_iff_iff, beq_iff_eq, decide_eq_true_iff]
    have hle := Nat.le_trans (unExt_le f) hf
    generalize unPart (unExt f) = y at *
    generalize unExt f = x at *
    generalize flaggedB f k = b at *
    rcases h78 with rfl | rfl
    · go_enter Tryz.func94, Tryz.ntmps94
      go_wp2_with (go_at_call 93; refine (HFl.out _).mono ?_; rintro e w2 ⟨rfl, rfl⟩)
      go_ret
      exact ⟨ret_bool HE.out, HB.out⟩
    · go_enter Tryz.func94, Tryz.ntmps94
      go_wp2_with (go_at_call 93; refine (HFl.out _).mono ?_; rintro e w2 ⟨rfl, rfl⟩)
      go_ret
      exact ⟨ret_bool HE.out, HB.out⟩
  · have HE : Hid (((unExt f : Int) == flg (k : Int)) = flaggedB f k) := by
      unfold flaggedB ownF
      rw [if_neg h78, Hid, Bool.eq_iff_iff, beq_iff_eq, decide_eq_true_iff]
    clear a32
    have d7 : ((k : Int) == 7) = false := by rw [beq_eq_false_iff_ne]; omega
    have d8 : ((k : Int) == 8) = false := by rw [beq_eq_false_iff_ne]; omega
    generalize unExt f = x at *
    generalize flaggedB f k = b at *
    go_enter Tryz.func94, Tryz.ntmps94
    go_wp2_with (go_at_call 93; refine (HFl.out _).mono ?_; rintro e w2 ⟨rfl, rfl⟩)
    go_ret
    exact ⟨ret_bool HE.out, HB.out⟩
end
theorem info_ntc : (Tryz.prog.info? 33).map (·.size) = some 3 := by kernel_rfl
set_option maxRecDepth 100000 in
set_option maxHeartbeats 2000000 in
theorem notice_any (s : Int) (A : Option Addr) (n c : Nat) (w : World) : Calls Tryz.prog 56 #[.int .i64 s, .slice A n c] w fun e w' => e = .returned (.agg (if s = 1 ∨ s = 11 then #[.int .i64 3, .int .i64 s, .slice none 0 0] else #[.int .i64 3, .int .i64 s, .slice A n c])) ∧ Below w.heap.size w w' := by
  by_cases h1 : s = 1
  · subst h1
    rw [if_pos (by simp)]
    go_enter Tryz.func56, Tryz.ntmps56
    go_wp2_with fail
    refine bodyPost_ret (results_cell_row rfl _ _ w.heap.size 33 _ (0, 0) _ rfl (Bk.new w _ _) Tryz.underlying33 rfl info_ntc) rfl ⟨rfl, (Below.refl _ _).alloc (Nat.le_refl _) _⟩
  · have d1 : (s == 1) = false := by rw [beq_eq_false_iff_ne]; exact h1
    by_cases h11 : s = 11
    · subst h11
      rw [if_pos (by simp)]
      go_enter Tryz.func56, Tryz.ntmps56
      go_wp2_with fail
      refine bodyPost_ret (results_cell_row rfl _ _ w.heap.size 33 _ (0, 0) _ rfl (Bk.new w _ _) Tryz.underlying33 rfl info_ntc) rfl ⟨rfl, (Below.refl _ _).alloc (Nat.le_refl _) _⟩
    · have d11 : (s == 11) = false := by rw [beq_eq_false_iff_ne]; exact h11
      rw [if_neg (by simp [h1, h11])]
      go_enter Tryz.func56, Tryz.ntmps56
      go_wp2_with fail
      refine bodyPost_ret (results_cell_row rfl _ _ w.heap.size 33 _ (0, 0) _ rfl (Bk.new w _ _) Tryz.underlying33 rfl info_ntc) rfl ⟨rfl, (Below.refl _ _).alloc (Nat.le_refl _) _⟩
end Go.Proofs.YtaeeeinpelfppaaGreat.attr
