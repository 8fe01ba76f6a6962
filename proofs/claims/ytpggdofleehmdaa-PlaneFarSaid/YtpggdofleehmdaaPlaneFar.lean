/- What plane.apart, Far, Near and the reference's Far return. Condition: addresses of 32 bits. -/
import Derived.Test.YtpggdofleehmdaaTallyFns
import Derived.Test.YtpggdofleehmdaaPlaneFns
import Derived.Test.YtpggdofleehmdaaNums
import Derived.Deep.RegionHeld3
namespace Go.Proofs.Ytpggdofleehmdaa.planeFar
open Go.RowKit Go.Proofs.Ytpggdofleehmdaa.kit Go.Proofs.Ytpggdofleehmdaa.mem Go.Proofs.Ytpggdofleehmdaa.foot Go.Proofs.Ytpggdofleehmdaa.nums Go.Proofs.Ytpggdofleehmdaa.plane Go.Proofs.Ytpggdofleehmdaa.flt
set_option linter.unusedVariables false
set_option linter.unusedSimpArgs false

/-- how far two addresses lie apart -/
def dist (a b : Nat) : Int := ((pt 32 a).1 - (pt 32 b).1) * ((pt 32 a).1 - (pt 32 b).1) + ((pt 32 a).2 - (pt 32 b).2) * ((pt 32 a).2 - (pt 32 b).2)
theorem dist_comm (a b : Nat) : dist a b = dist b a := by
  have h : ∀ x y : Int, (x - y) * (x - y) = (y - x) * (y - x) := fun x y => by
    rw [show y - x = -(x - y) from by omega, Int.neg_mul_neg]
  unfold dist
  rw [h (pt 32 a).1, h (pt 32 a).2]
theorem apart_dist (a b : Nat) : tally.apartv (pt 32 a).1 (pt 32 a).2 (pt 32 b).1 (pt 32 b).2 = dist a b := by
  have h1 := pt_small 32 a (by omega)
  have h2 := pt_small 32 b (by omega)
  unfold tally.apartv dist
  rw [if_pos]
  simp [tally.isNear]
  omega
/-- which of the first k lies nearest -/
def nearI (a : Nat) (l : List Nat) : Nat → Nat
  | 0 => 0
  | k + 1 => if dist a (l.getD k 0) < dist a (l.getD (nearI a l k) 0) then k else nearI a l k
theorem nearI_lt (a : Nat) (l : List Nat) : ∀ k, 0 < k → nearI a l k < k
  | 0, h => absurd h (by omega)
  | 1, _ => by simp [nearI]
  | k + 2, _ => by
    have := nearI_lt a l (k + 1) (by omega)
    rw [nearI]; split <;> omega
theorem nearI_best (a : Nat) (l : List Nat) : ∀ k j, j < k → dist a (l.getD (nearI a l k) 0) ≤ dist a (l.getD j 0) ∧ (j < nearI a l k → dist a (l.getD (nearI a l k) 0) < dist a (l.getD j 0))
  | 0, j, h => absurd h (by omega)
  | k + 1, j, h => by
    rw [nearI]
    have ih := nearI_best a l k
    split
    · rename_i h1
      by_cases hj : j = k
      · subst hj; exact ⟨Int.le_refl _, fun h => absurd h (by omega)⟩
      · have := ih j (by omega)
        exact ⟨by omega, fun _ => by omega⟩
    · rename_i h1
      by_cases hj : j = k
      · subst hj
        refine ⟨by omega, fun h2 => ?_⟩
        rcases Nat.eq_zero_or_pos j with h0 | h0
        · subst h0; simp [nearI] at h2
        · have := nearI_lt a l j h0; omega
      · exact ih j (by omega)

set_option maxRecDepth 100000 in
theorem apart_any (a b : Nat) (ha : a < 4294967296) (hb : b < 4294967296) (w : World) :
    Calls Try.prog 63 #[.int .u32 a, .int .u32 b] w fun e w' => e = .returned (.int .i64 (dist a b)) ∧ Below w.heap.size w w' := by
  have hs1 := pt_small 32 a (by omega)
  have hs2 := pt_small 32 b (by omega)
  have HP1 := Lib.hid (point_any a ha)
  have HP2 := Lib.hid (point_any b hb)
  have HA := Lib.hid (tally.apart_any (pt 32 a).1 (pt 32 a).2 (pt 32 b).1 (pt 32 b).2)
  rw [apart_dist] at HA
  have hc1 : ∀ x y, IsF x (pt 32 a).1 2200 → IsF y (pt 32 a).2 2200 → ∀ w, Calls Try.prog 52 #[.complex .f64 x y] w fun e w' => e = .returned (.tuple #[.int .i64 (pt 32 a).1, .int .i64 (pt 32 a).2]) ∧ w = w' := fun x y h1 h2 => parts_any x y _ _ h1 h2 ⟨by omega, by omega⟩ ⟨by omega, by omega⟩
  have hc2 : ∀ x y, IsF x (pt 32 b).1 2200 → IsF y (pt 32 b).2 2200 → ∀ w, Calls Try.prog 52 #[.complex .f64 x y] w fun e w' => e = .returned (.tuple #[.int .i64 (pt 32 b).1, .int .i64 (pt 32 b).2]) ∧ w = w' := fun x y h1 h2 => parts_any x y _ _ h1 h2 ⟨by omega, by omega⟩ ⟨by omega, by omega⟩
  have HC1 := Lib.hid hc1
  have HC2 := Lib.hid hc2
  clear hc1 hc2 hs1 hs2
  generalize dist a b = d at *
  go_enter Try.func63, Try.ntmps63
  go_wp2_with fail
  refine (HP1.out _).mono ?_; rintro e w' ⟨v, rfl, ⟨x, y, rfl, hx, hy⟩, rfl⟩
  have HD1 := Lib.hid (HC1.out x y hx hy)
  clear hx hy
  go_wp2_with fail
  refine (HP2.out _).mono ?_; rintro e w' ⟨v, rfl, ⟨x2, y2, rfl, hx, hy⟩, rfl⟩
  have HD2 := Lib.hid (HC2.out x2 y2 hx hy)
  clear hx hy HC1 HC2 HP1 HP2
  generalize pt 32 a = p at *
  generalize pt 32 b = q at *
  go_wp2_with fail
  refine (HD1.out _).mono ?_; rintro e w' ⟨rfl, rfl⟩
  go_wp2_with fail
  refine (HD2.out _).mono ?_; rintro e w' ⟨rfl, rfl⟩
  go_wp2_with fail
  refine (HA.out _).mono ?_; rintro e w' ⟨rfl, hb⟩
  have HB := Lib.hid hb
  clear hb
  go_wp2_with fail
  go_ret
  exact ⟨rfl, HB.out⟩

theorem Far_any (a b : Nat) (ha : a < 4294967296) (hb : b < 4294967296) (w : World) :
    Calls Try.prog 41 #[.int .u32 a, .int .u32 b] w fun e w' => e = .returned (.int .i64 (dist a b)) ∧ Below w.heap.size w w' := by
  have HA := Lib.hid (apart_any a b ha hb w)
  generalize dist a b = d at *
  go_enter Try.func41, Try.ntmps41
  go_wp2_with fail
  refine HA.out.mono ?_; rintro e w' ⟨rfl, hb⟩
  have HB := Lib.hid hb
  clear hb
  go_wp2_with fail
  go_ret
  exact ⟨rfl, HB.out⟩

theorem refFar_any (a b : Nat) (ha : a < 4294967296) (hb : b < 4294967296) (w : World) :
    Calls Try.prog 42 #[.int .u32 a, .int .u32 b] w fun e w' => e = .returned (.int .i64 (dist a b)) ∧ w = w' := by
  have hs1 := pt_small 32 a (by omega)
  have hs2 := pt_small 32 b (by omega)
  have HP1 := Lib.hid (ref_Point a ha)
  have HP2 := Lib.hid (ref_Point b hb)
  have hq : ∀ n : Int, -400000 ≤ n → n ≤ 400000 → 0 ≤ n * n ∧ n * n ≤ 160000000000 := fun n h1 h2 => by
    have := tally.sq_nonneg n
    have h3 := tally.sq_bound n 400000 (by omega)
    omega
  have q1 := hq ((pt 32 a).1 - (pt 32 b).1) (by omega) (by omega)
  have q2 := hq ((pt 32 a).2 - (pt 32 b).2) (by omega) (by omega)
  have HD : Hid (dist a b = ((pt 32 a).1 - (pt 32 b).1) * ((pt 32 a).1 - (pt 32 b).1) + ((pt 32 a).2 - (pt 32 b).2) * ((pt 32 a).2 - (pt 32 b).2)) := rfl
  clear hq
  generalize pt 32 a = p at *
  generalize pt 32 b = q at *
  obtain ⟨p1, p2⟩ := p
  obtain ⟨r1, r2⟩ := q
  dsimp only at *
  go_enter Try.func42, Try.ntmps42
  go_wp2_with fail
  refine (HP1.out _).mono ?_; rintro e w' ⟨rfl, rfl⟩
  go_wp2_with fail
  refine (HP2.out _).mono ?_; rintro e w' ⟨rfl, rfl⟩
  go_wp2_with fail
  go_ret
  exact ⟨by rw [HD.out]; rfl, rfl⟩

set_option maxRecDepth 100000 in
set_option maxHeartbeats 1000000 in
theorem Near_any (a : Nat) (ha : a < 4294967296) (A : Option Addr) (c : Nat) (l : List Nat) (G : Foot) (w : World) (hlen : l.length ≤ maxLen) (hl : ∀ n ∈ l, n < 4294967296) (hs : Us w G A l) :
    Calls Try.prog 40 #[.int .u32 a, .slice A l.length c] w fun e w' => e = .returned (.tuple #[.int .i64 (nearI a l l.length : Nat), .bool (decide (0 < l.length))]) ∧ Below w.heap.size w w' := by
  unfold maxLen at hlen
  have HS := Lib.hid hs
  have HL := Lib.hid hl
  clear hs hl
  go_enter Try.func40, Try.ntmps40
  go_wp2_with fail
  go_loopw [6, 7, 8, 11] (fun b _ _ i wr => ∃ k : Nat, k ≤ l.length ∧ i = .int .i64 k ∧ b = .int .i64 (nearI a l k : Nat) ∧ Below w.heap.size w wr) (fun _ _ _ i _ => l.length - (intOf i).toNat)
  case atStart => exact ⟨0, by omega, rfl, rfl, Below.refl _ _⟩
  case round =>
    obtain ⟨k, hk, rfl, rfl, hb⟩ := hrel
    have HB := Lib.hid hb
    clear hb
    by_cases hlt : k < l.length
    · obtain ⟨g, off, rfl, _, hg, hck⟩ := HS.out.at_ hlt
      have hbest : nearI a l k < l.length := by
        rcases Nat.eq_zero_or_pos k with h0 | h0
        · subst h0; simpa [nearI] using hlt
        · have := nearI_lt a l k h0; omega
      obtain ⟨g', off', e', _, _, hcb⟩ := HS.out.at_ hbest
      cases e'
      have HSt : Hid (nearI a l (k + 1) = if dist a l[k] < dist a l[nearI a l k] then k else nearI a l k) := by
        rw [Hid, nearI]; simp [hlt, hbest]
      have hx := HL.out _ (List.getElem_mem hlt)
      have hy := HL.out _ (List.getElem_mem hbest)
      have ck := (HB.out.cell (p := ⟨g, off + k, none⟩) hg).trans hck
      have cb := (HB.out.cell (p := ⟨g, off + nearI a l k, none⟩) hg).trans hcb
      have hgr : g < wr.heap.size := by have := HB.out.size; omega
      clear hck hcb
      generalize l[k] = x at *
      generalize l[nearI a l k] = y at *
      generalize nearI a l k = m at *
      have hmi : (m : Int) < (l.length : Int) := by omega
      have hki : (k : Int) < (l.length : Int) := by omega
      have HA1 := Lib.hid (apart_any a x ha hx)
      have HA2 := Lib.hid (apart_any a y ha hy)
      generalize dist a x = d1 at *
      generalize dist a y = d2 at *
      have HB0 := Lib.hid (Below.refl wr.heap.size wr)
      by_cases hd : d1 < d2
      all_goals
        go_wp2_with fail
        go_region_held3 (fun w' => w'.cell? ⟨g, off + m, none⟩ = some (.int .u32 (y : Int))) (first | exact cb | exact cb1 | exact cb2) (first
          | (go_at_call 63; (with_reducible refine (HA1.out _).mono ?_); rintro e w1 ⟨rfl, hb1⟩; go_must (have cb1 := (hb1.cell (p := ⟨g, off + m, none⟩) hgr).trans cb); go_must (have HB1 : Hid (Below wr.heap.size wr w1) := ⟨hb1.os, hb1.tape, hb1.output, hb1.size, hb1.block⟩); clear hb1)
          | (go_at_call 63; (with_reducible refine (HA2.out _).mono ?_); rintro e w2 ⟨rfl, hb2⟩; go_must (have cb2 := (hb2.cell (p := ⟨g, off + m, none⟩) (Nat.lt_of_lt_of_le hgr HB1.out.size)).trans cb1); go_must (have HB2 := Lib.hid (HB1.out.trans (hb2.mono HB1.out.size))); clear hb2))
        go_wp2_with fail
        go_roundw
        case measure => simp [intOf]; omega
        case rel => exact ⟨k + 1, by omega, by go_num, by rw [HSt.out]; first | rw [if_pos (by omega)] | rw [if_neg (by omega)], HB.out.trans (HB2.out.mono HB.out.size)⟩
    · obtain rfl : k = l.length := by omega
      have he : Hid (decide ((0 : Int) < (l.length : Int)) = decide (0 < l.length)) := by simp [Hid]
      go_wp2_with fail
      go_ret2
      exact ⟨by simp, HB.out⟩
end Go.Proofs.Ytpggdofleehmdaa.planeFar
