/- slices.Chunk of numbers of 32 bits: the function that it hands back, and which pieces that yields. Conditions as each statement says. -/
import Derived.RangeFuncNested
import Derived.RangeFuncBound
import Derived.RangeFuncCalls
import Derived.RangeFuncLeaves
import Derived.RangeFuncFrom
import Derived.Shelf.Abstract
import Derived.Shelf.RegionOpen
import Derived.OwnWalkIn
import Derived.TacticsInMore
import Derived.LoopNIn
import Derived.LoopIn
import Derived.Test.YtafepficapdepaaSeg
namespace Go.Proofs.Ytafepficapdepaa.pth
open Go.RowKit Go.Shelf Go.Proofs Go.Proofs.Ytafepficapdepaa.kit Go.Proofs.Ytafepficapdepaa.mem Go.Proofs.Ytafepficapdepaa.foot Go.Proofs.Ytafepficapdepaa.nums Go.Proofs.Ytafepficapdepaa.asn
set_option linter.unusedVariables false
set_option linter.unusedSimpArgs false
attribute [local go_sem] Oper.semAt_some
/-- the blocks of g and what is made later may turn -/
abbrev Kp (g : Foot) (n1 : Nat) : World → World → Prop := Chg fun k => g k ∨ n1 ≤ k
theorem kp_t {g : Foot} {n1 : Nat} {A B C : World} (h : Kp g n1 A B) (k : Kp g n1 B C) : Kp g n1 A C := h.trans k fun _ _ e => e
theorem kp_b {g : Foot} {n1 : Nat} {w : World} (hn : n1 ≤ w.heap.size) (W : World) (l : Nat) (o o' : Obj) (hl : w.heap.size ≤ l) (h : W.heap[l]? = some o) (_ : o.isCells = false) (_ : o.isWalk = false) : Kp g n1 W (W.putObj l o') :=
  ⟨rfl, rfl, rfl, by simp, fun k hk hf => World.putObj_heap_other (fun e => hf (.inr (by omega)))⟩
/-- where a piece begins -/
def upto (k : Nat) : List Nat := (List.range k).map fun j => 255 * j
theorem upto_succ (k : Nat) : upto (k + 1) = upto k ++ [255 * k] := by simp [upto, List.range_succ]
theorem upto_len (k : Nat) : (upto k).length = k := by simp [upto]
set_option maxRecDepth 100000 in
set_option maxHeartbeats 1000000 in
theorem Chunk_any (A : Option Addr) (len c : Nat) (w : World) :
    Calls Try.prog 153 #[.slice A len c, .int .i64 255] w fun e w' => e = .returned (.func (.func 169) #[] #[.pointer (some ⟨w.heap.size, 0, none⟩), .pointer (some ⟨w.heap.size + 1, 0, none⟩)]) ∧ w' = (w.alloc (.cells #[.slice A len c] 67)).alloc (.cells #[.int .i64 255] 3) := by
  have hmf : ∀ (fn : Fn) (first cap : Array Value) (w : World), (Instr.makeFunc fn first cap).run Try.prog w = .ok (.func fn first cap) w := fun _ _ _ _ => rfl
  go_enter Try.func153, Try.ntmps153
  go_wp2_with fail
  go_ret
  exact ⟨rfl, rfl⟩
set_option maxRecDepth 100000 in
set_option maxHeartbeats 2000000 in
theorem chunk1_in (n l Bs Bn : Nat) (g : Foot) (n1 b off len c : Nat) (hn : 1 ≤ n) (hlc : len ≤ c) (hlen : len ≤ 1000000) (hBs : Bs < n1) (hBn : Bn < n1) (hgs : ¬ g Bs) (hgn : ¬ g Bn) (J Jx : List Nat → World → Prop)
    (hY : ∀ pre x W, J pre W → pre.length < len → YieldAt Fence.wide (n - 1) Try.prog l #[.slice (some ⟨b, off + x, none⟩) (min 255 (len - x)) (min 255 (len - x))] W fun e W' =>
      (e = .returned (.bool true) ∧ J (pre ++ [x]) W' ∧ Kp g n1 W W') ∨ (e = .returned (.bool false) ∧ Jx (pre ++ [x]) W'))
    (hJd : ∀ pre W, J pre W → J pre W.drew) (W : World) (hW : n1 ≤ W.heap.size) (hcs : W.cell? ⟨Bs, 0, none⟩ = some (.slice (some ⟨b, off, none⟩) len c)) (hcn : W.cell? ⟨Bn, 0, none⟩ = some (.int .i64 255)) (h0 : J [] W) :
    CallsIn Fence.wide n Try.prog 169 #[.func (.yield l) #[] #[], .pointer (some ⟨Bs, 0, none⟩), .pointer (some ⟨Bn, 0, none⟩)] W fun e W' => (∃ v, e = .returned v) ∧
      ((∃ ys, (∃ k, len ≤ 255 * k ∧ 255 * k ≤ len + 254 ∧ ys = upto k) ∧ J ys W') ∨ (∃ pre, True ∧ Jx pre W')) := by
  refine callsIn_of_wp Try.func169 rfl trivial ?_ rfl
  simp only [Try.ntmps169, List.size_toArray, List.length_cons, List.length_nil, Nat.reduceAdd, Nat.reduceSub, Array.replicate_succ, Array.replicate_zero, List.push_toArray, List.append_toArray, List.nil_append, List.cons_append]
  gi_wp2
  gi_loopw [4, 5] (fun i _ wr => ∃ k : Nat, 255 * k ≤ len + 254 ∧ i = .int .i64 ((255 * k : Nat) : Int) ∧ J (upto k) wr ∧ Kp g n1 W wr)
    (fun i _ _ => len + 255 - (intOf i).toNat)
  case atStart => exact ⟨0, by omega, rfl, h0, Chg.refl _ _⟩
  case round =>
    obtain ⟨k, hk, rfl, hJs, hkp⟩ := hrel
    have hc1 : wr.cell? ⟨Bs, 0, none⟩ = some (.slice (some ⟨b, off, none⟩) len c) := by
      rw [World.cell?_of_block (w := W) (hkp.block Bs (by omega) (fun e => e.elim hgs (by omega)))]; exact hcs
    have hc2 : wr.cell? ⟨Bn, 0, none⟩ = some (.int .i64 255) := by
      rw [World.cell?_of_block (w := W) (hkp.block Bn (by omega) (fun e => e.elim hgn (by omega)))]; exact hcn
    obtain ⟨x, hx⟩ : ∃ x, x = 255 * k := ⟨_, rfl⟩
    rw [← hx] at hk
    by_cases hlt : x < len
    · obtain ⟨fn, tmps, assign, body, hy, hR⟩ := hY (upto k) x wr.drew (hJd _ _ hJs) (by rw [upto_len]; omega)
      have HX := Lib.hid hx
      rw [← hx]
      obtain ⟨m, hm⟩ : ∃ m, m = min 255 (len - x) := ⟨_, rfl⟩
      rw [← hm] at hy
      have HM := Lib.hid hm
      have hq : min (255 : Int) ((len - x : Nat) : Int) = (m : Int) := by omega
      have hq2 : ((x : Int) + (m : Int)).toNat - x = m := by omega
      have hcx : ¬ c = x := by omega
      have hxm : x + m ≤ len := by omega
      have hyp := Lib.hid (And.intro hJs hkp)
      clear hx hY hJs hkp hm h0 hcs hcn
      gi_wp2
      gi_region
      gi_wp2
      refine hR.mono ?_
      rintro e W3 (⟨rfl, hJ3, hk3⟩ | ⟨rfl, hJx3⟩)
      · have hk4 : Kp g n1 wr.drew W3 := hk3
        have hc4 : W3.cell? ⟨Bn, 0, none⟩ = some (.int .i64 255) := by
          have h5 := hyp.out.2.size
          rw [World.cell?_of_block (w := wr) (hk4.block Bn (Nat.lt_of_lt_of_le hBn (Nat.le_trans hW h5)) (fun e => e.elim hgn (by omega)))]
          exact hc2
        gi_wp2
        go_roundw
        case rel =>
          have e := HX.out
          exact ⟨k + 1, by omega, by go_num, by rw [upto_succ, ← e]; exact hJ3, (hyp.out.2.drew).trans hk4 fun _ _ e => e⟩
        case measure => simp [intOf]; omega
      · gi_wp2
        refine bodyPost_ret (results_none rfl _ _ _) rfl ?_
        exact ⟨⟨_, rfl⟩, .inr ⟨_, trivial, hJx3⟩⟩
    · have hd : len ≤ 255 * k := by omega
      rw [← hx]
      clear hY
      have HX := Lib.hid hx
      clear hx
      gi_wp2
      go_end0
      have e := HX.out
      exact ⟨⟨_, rfl⟩, .inl ⟨_, ⟨k, hd, by omega, rfl⟩, hJs⟩⟩
end Go.Proofs.Ytafepficapdepaa.pth
