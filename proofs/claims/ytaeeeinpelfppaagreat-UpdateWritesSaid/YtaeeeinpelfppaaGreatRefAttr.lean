/- What confluenceref08's Has, Hop, Flags, long, Told and Same return. Conditions as each lemma states. -/
import Derived.Test.YtaeeeinpelfppaaGreatAttrPub
import Derived.Test.YtaeeeinpelfppaaGreatRefAsn
import Derived.Test.YtaeeeinpelfppaaGreatStr
namespace Go.Proofs.YtaeeeinpelfppaaGreat.attr
open Go.RowKit Go.Proofs.YtaeeeinpelfppaaGreat.kit Go.Proofs.YtaeeeinpelfppaaGreat.mem Go.Proofs.YtaeeeinpelfppaaGreat.foot Go.Proofs.YtaeeeinpelfppaaGreat.nums Go.Proofs.YtaeeeinpelfppaaGreat.asn Go.Proofs.YtaeeeinpelfppaaGreat.pth Go.Proofs.YtaeeeinpelfppaaGreat.octet
set_option linter.unusedVariables false
set_option linter.unusedSimpArgs false
set_option maxRecDepth 100000 in
theorem refHas_any (a : Atr) (Ap Ac : Option Addr) (cp cc : Nat) (k : Nat) (hk : k ≤ 8) (w : World) :
    Calls Tryz.prog 32 #[.agg (atc a Ap cp Ac cc).toArray, .int .i64 (k : Int)] w fun e w' => e = .returned (.bool (bitI a.has k)) ∧ Below w.heap.size w w' := by
  have HB : Hid (Below w.heap.size w (w.alloc (.cells (atc a Ap cp Ac cc).toArray 29))) := (Below.refl _ _).alloc (Nat.le_refl _) _
  have q0 : (w.alloc (.cells (atc a Ap cp Ac cc).toArray 29)).cell? ⟨w.heap.size, 0, none⟩ = some (.int .i64 a.has) := by rw [(Bk.new w _ _).cell]; rfl
  obtain ⟨b, hb⟩ : ∃ b, b = bitI a.has k := ⟨_, rfl⟩
  rw [← hb]
  have HE : Hid ((bits .and .i64 (a.has / 2 ^ k) 1 == 1) = b) := by
    have h := i64_and_pow (a.has / 2 ^ k) 0 (by omega)
    rw [Int.pow_zero] at h
    rw [Hid, h, hb]
    unfold bitI
    rw [Int.pow_zero, Int.ediv_one]
    by_cases h : a.has / 2 ^ k % 2 = 1 <;> simp [h]
  have hk1 : (k : Int) < 30 := by omega
  clear hb
  generalize atc a Ap cp Ac cc = cs at *
  generalize a.has = h at *
  obtain ⟨w1, hw1⟩ : ∃ w1, w1 = w.alloc (.cells cs.toArray 29) := ⟨_, rfl⟩
  rw [← hw1] at HB q0
  go_enter Tryz.func32, Tryz.ntmps32
  go_upto_region 1 with fail
  rw [← hw1]
  clear hw1
  go_wp2_with fail
  go_ret
  exact ⟨by rw [← HE.out]; rfl, HB.out⟩
theorem refHop_any (n : Int) (hn : (Lit.int .u32 n).wf = true) (w : World) : Calls Tryz.prog 87 #[.int .u32 n] w fun e w' => e = .returned (.bool (hopB n)) ∧ w = w' := by
  have hw := wf_u32 hn
  obtain ⟨b, hb⟩ : ∃ b, b = hopB n := ⟨_, rfl⟩
  rw [← hb]
  unfold hopB at hb
  by_cases h0 : n = 0
  · subst h0
    simp at hb
    subst hb
    go_enter Tryz.func87, Tryz.ntmps87
    go_wp2_with fail
    go_ret
    exact ⟨rfl, rfl⟩
  · have d0 : (n == 0) = false := by rw [beq_eq_false_iff_ne]; exact h0
    have d1 : (n != 0) = true := by simp [h0]
    by_cases h1 : n = 4294967295
    · subst h1
      simp at hb
      subst hb
      go_enter Tryz.func87, Tryz.ntmps87
      go_wp2_with fail
      go_ret
      exact ⟨rfl, rfl⟩
    · have e0 : (n == 4294967295) = false := by rw [beq_eq_false_iff_ne]; exact h1
      have e1 : (n != 4294967295) = true := by simp [h1]
      have HBb : Hid (b = (n / 268435456 != 14)) := by rw [Hid, hb, d1, e1]; rfl
      clear hb
      go_enter Tryz.func87, Tryz.ntmps87
      go_wp2_with fail
      go_ret
      exact ⟨by rw [HBb.out]; rfl, rfl⟩
set_option maxRecDepth 100000 in
set_option maxHeartbeats 4000000 in
theorem refFlags_any (k : Int) (w : World) : Calls Tryz.prog 63 #[.int .i64 k] w fun e w' => e = .returned (.int .i64 (flg k)) ∧ Below w.heap.size w w' := by
  have HB : Hid (Below w.heap.size w (w.alloc (.cells #[.int .i64 0, .int .i64 64, .int .i64 64, .int .i64 64, .int .i64 128, .int .i64 64, .int .i64 64, .int .i64 192, .int .i64 192] 3))) := (Below.refl _ _).alloc (Nat.le_refl _) _
  by_cases hk : 1 ≤ k ∧ k ≤ 8
  · have h : k = 1 ∨ k = 2 ∨ k = 3 ∨ k = 4 ∨ k = 5 ∨ k = 6 ∨ k = 7 ∨ k = 8 := by omega
    clear hk
    rcases h with rfl | rfl | rfl | rfl | rfl | rfl | rfl | rfl
    all_goals
      go_enter Tryz.func63, Tryz.ntmps63
      go_wp2_with fail
      go_ret
      exact ⟨rfl, HB.out⟩
  · have hz : flg k = 0 := by unfold flg; rw [if_neg (by omega), if_neg (by omega), if_neg (by omega)]
    rw [hz]
    have hw : k < 1 ∨ (¬ k < 1 ∧ 8 < k) := by omega
    rcases hw with h | ⟨h, h2⟩
    · have d1 : decide (k < 1) = true := by simp [h]
      go_enter Tryz.func63, Tryz.ntmps63
      go_wp2_with fail
      go_ret
      exact ⟨rfl, HB.out⟩
    · have d1 : decide (k < 1) = false := by simp [h]
      have d2 : decide (8 < k) = true := by simp [h2]
      go_enter Tryz.func63, Tryz.ntmps63
      go_wp2_with fail
      go_ret
      exact ⟨rfl, HB.out⟩
set_option maxRecDepth 100000 in
set_option maxHeartbeats 2000000 in
/-- two notices that say the same -/
theorem refTold_yes (c s : Int) (A B : Option Addr) (l : List UInt8) (a b : Nat) (w : World) (h1 : Bs w w.heap.size A l) (h2 : Bs w w.heap.size B l) :
    Calls Tryz.prog 9 #[.agg #[.int .i64 c, .int .i64 s, .slice A l.length a], .agg #[.int .i64 c, .int .i64 s, .slice B l.length b]] w fun e w' => e = .returned (.bool true) ∧ Below w.heap.size w w' := by
  obtain ⟨w1, hw1⟩ : ∃ w1, w1 = (w.alloc (.cells #[.int .i64 c, .int .i64 s, .slice A l.length a] 33)).alloc (.cells #[.int .i64 c, .int .i64 s, .slice B l.length b] 33) := ⟨_, rfl⟩
  have hb : Below w.heap.size w w1 := by rw [hw1]; exact ((Below.refl _ _).alloc (Nat.le_refl _) _).alloc (by simp) _
  have HB := Lib.hid hb
  have s1 : (convert 22 9 (.slice A l.length a)).run Tryz.prog w1 = .ok (.string ⟨l.toArray⟩) w1 := run_str (h1.below hb (Nat.le_refl _))
  have s2 : (convert 22 9 (.slice B l.length b)).run Tryz.prog w1 = .ok (.string ⟨l.toArray⟩) w1 := run_str (h2.below hb (Nat.le_refl _))
  have k1 : Bk w1 w.heap.size 33 #[.int .i64 c, .int .i64 s, .slice A l.length a] := by rw [hw1]; exact (Bk.new w _ _).alloc _
  have k2 : Bk w1 (w.heap.size + 1) 33 #[.int .i64 c, .int .i64 s, .slice B l.length b] := by
    have h := Bk.new (w.alloc (.cells #[.int .i64 c, .int .i64 s, .slice A l.length a] 33)) 33 #[.int .i64 c, .int .i64 s, .slice B l.length b]
    rw [World.size_alloc] at h
    rw [hw1]; exact h
  have p0 := k1.cell 0
  have p1 := k1.cell 1
  have p2 := k1.cell 2
  have q0 := k2.cell 0
  have q1 := k2.cell 1
  have q2 := k2.cell 2
  simp at p0 p1 p2 q0 q1 q2
  clear k1 k2 h1 h2 hb
  generalize l.length = n at *
  go_enter Tryz.func9, Tryz.ntmps9
  go_upto_region 1 with fail
  rw [← hw1]
  clear hw1
  go_wp2_with fail
  go_ret
  exact ⟨rfl, HB.out⟩
end Go.Proofs.YtaeeeinpelfppaaGreat.attr
