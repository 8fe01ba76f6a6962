/- What attr.Decode does: the memory of its loop. -/
import Derived.Test.YtgpmkbpahnbhlaaGreatAttrDecMath
namespace Go.Proofs.YtgpmkbpahnbhlaaGreat.attr
open Go.RowKit Go.Proofs.YtgpmkbpahnbhlaaGreat.kit Go.Proofs.YtgpmkbpahnbhlaaGreat.mem Go.Proofs.YtgpmkbpahnbhlaaGreat.foot Go.Proofs.YtgpmkbpahnbhlaaGreat.nums Go.Proofs.YtgpmkbpahnbhlaaGreat.asn Go.Proofs.YtgpmkbpahnbhlaaGreat.pth Go.Proofs.YtgpmkbpahnbhlaaGreat.octet
set_option linter.unusedVariables false
set_option linter.unusedSimpArgs false
theorem wrongS_has (a : Atr) (f k : Nat) (v : List UInt8) (hs : (wrongS a f k v).2 = 0) : (wrongS a f k v).1.has = a.has ∨ ((wrongS a f k v).1.has = a.has + 2 ^ k ∧ 1 ≤ k ∧ k ≤ 8) := by
  unfold wrongS at hs ⊢
  by_cases hk : 1 ≤ k ∧ k ≤ 8
  · rw [if_pos hk] at hs ⊢
    split at hs
    · cases hs
    · split at hs
      · cases hs
      · split at hs
        · exact absurd hs (by assumption)
        · rename_i h1 h2 h3
          rw [if_neg h1, if_neg h2, if_neg h3]
          exact .inr ⟨rfl, hk⟩
  · rw [if_neg hk] at hs ⊢
    split
    · exact .inl rfl
    · exact .inl rfl
/-- bits of types not yet seen are not set -/
def BitsOk (seen : List Nat) (a : Atr) : Prop := (0 ≤ a.has ∧ a.has < 512) ∧ ∀ k, k ∉ seen → bitI a.has k = false
theorem bit_add (h : Int) (k j : Nat) (h0 : 0 ≤ h) (h1 : h < 512) (hk : k ≤ 8) (hb : bitI h k = false) : (0 ≤ h + 2 ^ k ∧ h + 2 ^ k < 512) ∧ (j ≠ k → bitI h j = false → bitI (h + 2 ^ k) j = false) := by
  have h2 : ∀ (a : Fin 512) (k : Fin 9), bitI (a.val : Int) k.val = false → (0 ≤ (a.val : Int) + 2 ^ k.val ∧ (a.val : Int) + 2 ^ k.val < 512) ∧ ∀ j : Fin 9, j ≠ k → bitI (a.val : Int) j.val = false → bitI ((a.val : Int) + 2 ^ k.val) j.val = false := by decide +kernel
  have h3 := h2 ⟨h.toNat, by omega⟩ ⟨k, by omega⟩
  simp only [Int.toNat_of_nonneg h0] at h3
  have h4 := h3 hb
  refine ⟨h4.1, fun hj hbj => ?_⟩
  by_cases h8 : j ≤ 8
  · exact h4.2 ⟨j, by omega⟩ (fun e => hj (congrArg Fin.val e)) hbj
  · have e : (h + 2 ^ k) / 2 ^ j = 0 := by
      apply Int.ediv_eq_zero_of_lt h4.1.1
      have : (2 : Int) ^ 9 ≤ 2 ^ j := by
        have : (2 : Nat) ^ 9 ≤ 2 ^ j := Nat.pow_le_pow_right (by omega) (by omega)
        exact_mod_cast this
      have h5 := h4.1.2
      omega
    unfold bitI
    rw [e]
    rfl
theorem BitsOk.zero : BitsOk [] zeroA := ⟨by decide, fun k _ => by
  unfold bitI zeroA
  simp⟩
theorem BitsOk.next {seen : List Nat} {a : Atr} {f k : Nat} {v : List UInt8} (h : BitsOk seen a) (hk : k ∉ seen) (hs : (wrongS a f k v).2 = 0) : BitsOk (k :: seen) (wrongS a f k v).1 := by
  have hb := h.2 k hk
  rcases wrongS_has a f k v hs with e | ⟨e, h1, h8⟩
  · exact ⟨by rw [e]; exact h.1, fun j hj => by rw [e]; exact h.2 j fun hm => hj (List.mem_cons_of_mem _ hm)⟩
  · refine ⟨by rw [e]; exact (bit_add a.has k k h.1.1 h.1.2 h8 hb).1, fun j hj => ?_⟩
    rw [e]
    exact (bit_add a.has k j h.1.1 h.1.2 h8 hb).2 (fun e => hj (e ▸ List.mem_cons_self ..)) (h.2 j fun hm => hj (List.mem_cons_of_mem _ hm))
theorem bs_chg {w w' : World} {B g : Nat} {A : Option Addr} {x : List UInt8} {t : TypeId} {cs : Array Value} (h : Bs w B A x) (hk : Bk w g t cs) (hn : ∀ (i : Nat) (v : Value), cs[i]? = some v → ∀ n : Int, v ≠ Value.int .u8 n) (hc : Chg (fun k => k = g) w w') (hB : B ≤ w.heap.size) : Bs w' B A x := by
  obtain ⟨h1, h2⟩ := h
  refine ⟨h1, fun hp => ?_⟩
  obtain ⟨b, off, e1, e2, e3⟩ := h2 hp
  refine ⟨b, off, e1, e2, fun j v hv => ?_⟩
  have h3 := e3 j v hv
  have hne : b ≠ g := by
    intro e
    subst e
    rw [hk.cell] at h3
    have hm := List.mem_of_getElem? hv
    simp [bv] at hm
    obtain ⟨c, _, hc⟩ := hm
    exact hn _ _ h3 _ hc.symm
  rw [← h3]
  exact World.cell?_of_block (hc.block b (by omega) hne)
/-- the memory within attr.Decode's loop -/
structure DQ (w : World) (r sb : Nat) (q : List UInt8) (seen ms : List Nat) (a : Atr) (wr : World) : Prop where
  z2 : Bk wr w.heap.size 26 zeroC.toArray
  z3 : Bk wr (w.heap.size + 1) 34 #[.int .i64 0, .int .i64 0, .slice none 0 0]
  at_ : ∃ Ap cp Ac cc, Bk wr (w.heap.size + 2) 26 (atc a Ap cp Ac cc).toArray ∧ Am wr (fun k => w.heap.size + 2 < k ∧ k ≠ r ∧ k ≠ sb) a Ap cp Ac cc ∧ (8 ∉ seen → a.comms = [] ∧ Ac = none ∧ cc = 0)
  rd : Rdr wr r q false
  sn : ∃ cs : Array Value, Bk wr sb 62 cs ∧ cs.size = 256 ∧ ∀ k, k < 256 → cs[k]? = some (.bool (decide (k ∈ ms)))
  bel : Below w.heap.size w wr
  bits : BitsOk seen a
  lr : w.heap.size + 2 < r
  rs : r < sb
section
variable {w wr w' : World} {r sb : Nat} {q q' : List UInt8} {seen ms : List Nat} {a : Atr} {bad : Bool}
theorem DQ.go (h : DQ w r sb q seen ms a wr) (hb : Below wr.heap.size wr w') : DQ w r sb q seen ms a w' := by
  obtain ⟨Ap, cp, Ac, cc, k1, k2, k3⟩ := h.at_
  obtain ⟨cs, s1, s2, s3⟩ := h.sn
  exact ⟨h.z2.below hb h.z2.lt, h.z3.below hb h.z3.lt, ⟨Ap, cp, Ac, cc, k1.below hb k1.lt, k2.bel hb, k3⟩, h.rd.below hb h.rd.lt, ⟨cs, s1.below hb s1.lt, s2, s3⟩, h.bel.trans (hb.mono h.bel.size), h.bits, h.lr, h.rs⟩
theorem DQ.read (h : DQ w r sb q seen ms a wr) (hr : Rdr w' r q' false) (hg : wr.grownBy w' (some r)) : DQ w r sb q' seen ms a w' := by
  obtain ⟨Ap, cp, Ac, cc, k1, k2, k3⟩ := h.at_
  obtain ⟨cs, s1, s2, s3⟩ := h.sn
  have h1 := h.lr
  have h2 := h.rs
  have hc := chg_of_grown hg
  exact ⟨h.z2.chg hc (by omega), h.z3.chg hc (by omega), ⟨Ap, cp, Ac, cc, k1.chg hc (by omega), k2.chg hc fun k _ hk e => hk.2.1 e, k3⟩, hr, ⟨cs, s1.chg hc (by omega), s2, s3⟩, h.bel.trans (hc.below (fun k e => by omega) h.bel.size), h.bits, h1, h2⟩
/-- a type marked as seen -/
theorem DQ.mark (h : DQ w r sb q seen ms a wr) {k : Nat} (hk : k < 256) : DQ w r sb q seen (k :: ms) a (wr.setCell ⟨sb, k, none⟩ (.bool true)) := by
  obtain ⟨Ap, cp, Ac, cc, k1, k2, k3⟩ := h.at_
  obtain ⟨cs, s1, s2, s3⟩ := h.sn
  have h1 := h.lr
  have h2 := h.rs
  have hc : Chg (fun j => j = sb) wr (wr.setCell ⟨sb, k, none⟩ (.bool true)) := (Chg.refl (fun j => j = sb) wr).put (p := ⟨sb, k, none⟩) (.inl rfl) _
  have hb : Below sb wr (wr.setCell ⟨sb, k, none⟩ (.bool true)) := hc.below (fun j e => Nat.le_of_eq e.symm) (Nat.le_of_lt s1.lt)
  refine ⟨h.z2.chg hc (by omega), h.z3.chg hc (by omega), ⟨Ap, cp, Ac, cc, k1.chg hc (by omega), k2.chg hc fun k _ hk e => hk.2.2 e, k3⟩, h.rd.below hb (by omega), ⟨cs.setIfInBounds k (.bool true), s1.put k _, by simp [s2], fun j hj => ?_⟩, h.bel.trans (hc.below (fun k e => by omega) h.bel.size), h.bits, h1, h2⟩
  rw [Array.getElem?_setIfInBounds]
  by_cases e : k = j
  · subst e
    rw [if_pos rfl, if_pos (by omega)]
    simp
  · rw [if_neg e, s3 j hj]
    have : (j ∈ k :: ms) ↔ (j ∈ ms) := by
      rw [List.mem_cons]
      constructor
      · rintro (h | h)
        · exact absurd h.symm e
        · exact h
      · exact .inr
    simp only [this]
/-- an attribute laid among the others -/
theorem DQ.step (h : DQ w r sb q seen ms a wr) {f k : Nat} {v : List UInt8} {Ap Ac : Option Addr} {cp cc : Nat} {e : Ending}
    (hAc : 8 ∉ seen → Ac = none ∧ cc = 0) (hk : k ∉ seen) (hs : (wrongS a f k v).2 = 0)
    (hr : RetLay (w.heap.size + 2) k (wrongS a f k v).1 (wrongS a f k v).2 (fun j => (w.heap.size + 2 < j ∧ j ≠ r ∧ j ≠ sb) ∧ j < wr.heap.size) Ac cc wr e w')
    (hcm : k ≠ 8 → (wrongS a f k v).1.comms = a.comms) (hc0 : 8 ∉ seen → a.comms = []) : DQ w r sb q (k :: seen) ms (wrongS a f k v).1 w' := by
  obtain ⟨cs, s1, s2, s3⟩ := h.sn
  have h1 := h.lr
  have h2 := h.rs
  obtain ⟨_, hc, hm⟩ := hr
  obtain ⟨Ap', cp', Ac', cc', k1, k2, k3⟩ := hm hs
  have hrd : Rdr w' r q false := by
    obtain ⟨A0, c0, t1, t2, t3, t4, t5⟩ := h.rd
    obtain ⟨Ax, cx, Ay, cy, y1, _, _⟩ := h.at_
    exact ⟨A0, c0, t1.chg hc (by omega), t2, t3, t4, bs_chg t5 y1 (atc_nob a Ax cx Ay cy) hc (Nat.le_of_lt t1.lt)⟩
  refine ⟨h.z2.chg hc (by omega), h.z3.chg hc (by omega), ⟨Ap', cp', Ac', cc', k1, k2.mono fun j hj hx => ?_, fun h8 => ?_⟩, hrd, ⟨cs, s1.chg hc (by omega), s2, s3⟩, h.bel.trans (hc.below (fun k e => by omega) h.bel.size), h.bits.next hk hs, h1, h2⟩
  · rcases hx with hx | hx
    · exact hx.1
    · have := s1.lt
      exact ⟨by omega, by omega, by omega⟩
  · have h9 : 8 ∉ seen := fun hm => h8 (List.mem_cons_of_mem _ hm)
    have hk8 : k ≠ 8 := fun e => h8 (e ▸ List.mem_cons_self ..)
    obtain ⟨e1, e2⟩ := hAc h9
    obtain ⟨e3, e4⟩ := k3 hk8
    exact ⟨by rw [hcm hk8]; exact hc0 h9, e3.trans e1, e4.trans e2⟩
end
end Go.Proofs.YtgpmkbpahnbhlaaGreat.attr
