/- Sets of numbers as rising lists; two of them gone over at once. Plain Lean. slices.Compact and slices.Equal of numbers of 32 bits at this dump, off the shelf's contracts for elements of one cell (laid in plain words). Conditions as each states. slices.Clone, slices.Compact, slices.Equal of numbers of 32 bits, and asn.Set: the set of any numbers, in new memory. Conditions as each lemma states. Paths as lists of pieces: numbers parted into pieces of 255, put one by one, led, taken together. Plain Lean. Paths in memory: rows of numbers, pieces, lists of pieces; what stays where cells stay. Conditions as each lemma states. slices.Chunk of numbers of 32 bits: the function that it hands back, and which pieces that yields. Conditions as each statement says. path.pieces: numbers in sequences of 255. Condition: at most 10^6 numbers. What path.norm makes of a list of pieces: plain. What path.norm returns. Condition: at most 10^6 pieces and numbers together. What path.norm returns: the walk. Condition: at most 10^6 pieces and numbers together. How great what path.norm makes is: plain. asn.merged, its closure, asn.Union and asn.Minus: what they return. Condition: fewer than 10^6 numbers. What path.same, path.Same and path.Norm return. Condition: at most 10^6 pieces and numbers together. What path.good and path.Good return. Condition: at most 10^5 pieces and numbers together. What path.Lead and path.All return. Condition: at most 10^6 pieces and numbers together. -/
import Derived.Shelf.SlicesE.Compact
import Derived.Shelf.SlicesE.Equal
import Derived.Test.YtbljhjfaimnieaaGreatRows
import Derived.Test.YtbljhjfaimnieaaGreatSuAll
import Derived.Test.YtbljhjfaimnieaaGreatGround
import Derived.RangeFuncNested
import Derived.RangeFuncBound
import Derived.RangeFuncCalls
import Derived.RangeFuncLeaves
import Derived.RangeFuncFrom
import Derived.Shelf.Abstract
import Derived.Shelf.RegionOpen
import Derived.OwnWalkIn
import Derived.TacticsInMore
import Derived.LoopNIn
import Derived.LoopIn
import Derived.Deep.RegionHeld3
import Derived.Deep.DeepCutAuto
namespace Go.Proofs.YtbljhjfaimnieaaGreat.asn
set_option linter.unusedVariables false

/-- each once, rising -/
def StN (l : List Nat) : Prop := l.Pairwise (· < ·)
structure IsSet (l s : List Nat) : Prop where
  strict : StN s
  mem : ∀ x, x ∈ s ↔ x ∈ l
theorem stN_eq : ∀ {a b : List Nat}, StN a → StN b → (∀ x, x ∈ a ↔ x ∈ b) → a = b
  | [], [], _, _, _ => rfl
  | [], y :: b, _, _, h => by have := (h y).2 (by simp); cases this
  | x :: a, [], _, _, h => by have := (h x).1 (by simp); cases this
  | x :: a, y :: b, ha, hb, h => by
    obtain ⟨a1, a2⟩ := List.pairwise_cons.1 ha
    obtain ⟨b1, b2⟩ := List.pairwise_cons.1 hb
    have e : x = y := by
      have h1 := (h x).1 (by simp)
      have h2 := (h y).2 (by simp)
      rcases List.mem_cons.1 h1 with h1 | h1
      · exact h1
      · rcases List.mem_cons.1 h2 with h2 | h2
        · exact h2.symm
        · have := b1 x h1; have := a1 y h2; omega
    subst e
    have : a = b := stN_eq a2 b2 fun z => by
      have hz := h z
      constructor
      · intro hza
        have hlt := a1 z hza
        rcases List.mem_cons.1 (hz.1 (by simp [hza])) with e | e
        · omega
        · exact e
      · intro hzb
        have hlt := b1 z hzb
        rcases List.mem_cons.1 (hz.2 (by simp [hzb])) with e | e
        · omega
        · exact e
    rw [this]
theorem IsSet.eq {l s t : List Nat} (h : IsSet l s) (k : IsSet l t) : s = t := stN_eq h.strict k.strict fun x => (h.mem x).trans (k.mem x).symm
theorem IsSet.self {s : List Nat} (h : StN s) : IsSet s s := ⟨h, fun _ => Iff.rfl⟩
theorem IsSet.nil : IsSet [] [] := IsSet.self List.Pairwise.nil
theorem IsSet.same {l m s t : List Nat} (h : IsSet l s) (k : IsSet m t) (e : ∀ x, x ∈ l ↔ x ∈ m) : s = t := stN_eq h.strict k.strict fun x => (h.mem x).trans ((e x).trans (k.mem x).symm)

/-- a number put into a set -/
def spotN (l : List Nat) (n : Nat) : Nat := (l.takeWhile fun x => decide (x < n)).length
def putN (l : List Nat) (n : Nat) : List Nat := if n ∈ l then l else l.take (spotN l n) ++ [n] ++ l.drop (spotN l n)
theorem spotN_le (l : List Nat) (n : Nat) : spotN l n ≤ l.length := (List.takeWhile_sublist _).length_le
theorem spotN_take : ∀ (o : List Nat) (x : Nat), ∀ p ∈ o.take (spotN o x), p < x
  | [], x, p, h => by simp at h
  | q :: o, x, p, h => by
    unfold spotN at h
    rw [List.takeWhile_cons] at h
    split at h
    · rename_i hq
      simp only [List.length_cons, List.take_succ_cons] at h
      rcases List.mem_cons.1 h with rfl | h
      · simpa using hq
      · exact spotN_take o x p h
    · simp at h
theorem spotN_drop : ∀ (o : List Nat) (x : Nat), StN o → ∀ p ∈ o.drop (spotN o x), x ≤ p
  | [], x, _, p, h => by simp at h
  | q :: o, x, hp, p, h => by
    obtain ⟨h1, h2⟩ := List.pairwise_cons.1 hp
    unfold spotN at h
    rw [List.takeWhile_cons] at h
    split at h
    · simp only [List.length_cons, List.drop_succ_cons] at h
      exact spotN_drop o x h2 p h
    · rename_i hq
      simp only [List.length_nil, List.drop_zero] at h
      have hq : x ≤ q := by simpa using hq
      rcases List.mem_cons.1 h with rfl | h
      · exact hq
      · have := h1 p h; omega
theorem putN_ok {l s : List Nat} (h : IsSet l s) (n : Nat) : IsSet (l ++ [n]) (putN s n) := by
  unfold putN
  split
  · rename_i hn
    exact ⟨h.strict, fun x => by
      rw [h.mem x, List.mem_append, List.mem_singleton]
      constructor
      · exact .inl
      · rintro (k | rfl)
        · exact k
        · exact (h.mem _).1 hn⟩
  · rename_i hn
    have hto : s = s.take (spotN s n) ++ s.drop (spotN s n) := (List.take_append_drop _ s).symm
    have hst := h.strict
    unfold StN at hst
    rw [hto] at hst
    have hap := List.pairwise_append.1 hst
    have h1 := spotN_take s n
    have h2 : ∀ p ∈ s.drop (spotN s n), n < p := fun p hp => by
      have := spotN_drop s n h.strict p hp
      rcases Nat.lt_or_ge n p with k | k
      · exact k
      · exact absurd (List.mem_of_mem_drop hp) (by rw [show p = n by omega]; exact hn)
    refine ⟨List.pairwise_append.2 ⟨List.pairwise_append.2 ⟨hap.1, by simp, fun p hp q hq => ?_⟩, hap.2.1, fun p hp q hq => ?_⟩, fun x => ?_⟩
    · rw [List.mem_singleton.1 hq]; exact h1 p hp
    · rcases List.mem_append.1 hp with hp | hp
      · exact hap.2.2 p hp q hq
      · rw [List.mem_singleton.1 hp]; exact h2 q hq
    · have hm := h.mem x
      rw [hto] at hm
      simp only [List.mem_append, List.mem_singleton] at hm ⊢
      constructor
      · rintro ((k | k) | k)
        · exact .inl (hm.1 (.inl k))
        · exact .inr k
        · exact .inl (hm.1 (.inr k))
      · rintro (k | k)
        · rcases hm.2 k with k | k
          · exact .inl (.inl k)
          · exact .inr k
        · exact .inl (.inr k)
theorem putN_len (l : List Nat) (n : Nat) : (putN l n).length ≤ l.length + 1 := by
  unfold putN
  split
  · omega
  · have := spotN_le l n
    simp only [List.length_append, List.length_take, List.length_drop, List.length_singleton]
    omega
end Go.Proofs.YtbljhjfaimnieaaGreat.asn

namespace Go.Proofs
open Go.Shelf
set_option linter.unusedVariables false
def Tryz.compactU_ren : Go.Shelf.Ren := ⟨fun | 43 => 128 | n => n, fun | 22 => 24 | 23 => 23 | n => n, fun | n => n⟩
theorem Tryz.compactU : Go.Proofs.SlLaysE.n43 Tryz.prog Tryz.compactU_ren := {
  mixed := by kernel_rfl
  f43 := ⟨Tryz.f128.name, by decide, Tryz.func128.trans (congrArg some (by kernel_rfl))⟩
  t0 := Tryz.underlying0
  a0 := Tryz.isAgg0
  z0 := Tryz.sizeOf0
  v0 := Tryz.zeroValue0
  t3 := Tryz.underlying3
  a3 := Tryz.isAgg3
  z3 := Tryz.sizeOf3
  v3 := Tryz.zeroValue3
  t4 := Tryz.underlying4
  a4 := Tryz.isAgg4
  z4 := Tryz.sizeOf4
  v4 := Tryz.zeroValue4
  t22 := Tryz.underlying24
  a22 := Tryz.isAgg24
  z22 := Tryz.sizeOf24
  v22 := Tryz.zeroValue24
  a23 := Tryz.isAgg23
  z23 := Tryz.sizeOf23 }
def Tryz.equalU_ren : Go.Shelf.Ren := ⟨fun | 33 => 101 | n => n, fun | 22 => 24 | 23 => 23 | n => n, fun | n => n⟩
theorem Tryz.equalU : Go.Proofs.SlLaysE.n33 Tryz.prog Tryz.equalU_ren := {
  mixed := by kernel_rfl
  f33 := ⟨Tryz.f101.name, by decide, Tryz.func101.trans (congrArg some (by kernel_rfl))⟩
  t0 := Tryz.underlying0
  a0 := Tryz.isAgg0
  z0 := Tryz.sizeOf0
  v0 := Tryz.zeroValue0
  t3 := Tryz.underlying3
  a3 := Tryz.isAgg3
  z3 := Tryz.sizeOf3
  v3 := Tryz.zeroValue3
  t4 := Tryz.underlying4
  a4 := Tryz.isAgg4
  z4 := Tryz.sizeOf4
  v4 := Tryz.zeroValue4
  t22 := Tryz.underlying24
  a22 := Tryz.isAgg24
  z22 := Tryz.sizeOf24
  v22 := Tryz.zeroValue24
  a23 := Tryz.isAgg23
  z23 := Tryz.sizeOf23 }
end Go.Proofs

namespace Go.Proofs.YtbljhjfaimnieaaGreat.nums
open Go.RowKit Go.Proofs.YtbljhjfaimnieaaGreat.kit Go.Proofs.YtbljhjfaimnieaaGreat.mem Go.Proofs.YtbljhjfaimnieaaGreat.foot Go.Proofs.YtbljhjfaimnieaaGreat.su Go.Proofs.YtbljhjfaimnieaaGreat.asn
set_option linter.unusedVariables false
set_option linter.unusedSimpArgs false
/-- numbers as integers -/
abbrev zs (l : List Nat) : List Int := l.map fun n : Nat => (n : Int)
theorem own_put {w : World} {g off n c : Nat} {l s : List Nat} (h : foot.Own w 23 1 (some ⟨g, off, none⟩) n c (uv l)) (hs : s.length = l.length) (q : Nat) (os : Array Obj) :
    foot.Own (Go.Sort.grow (Go.Sort.putRow eu (Go.Sort.ahead w q) g off (zs s).toArray) os) 23 1 (some ⟨g, off, none⟩) n c (uv s) ∧ Chg (sf (some ⟨g, off, none⟩)) w (Go.Sort.grow (Go.Sort.putRow eu (Go.Sort.ahead w q) g off (zs s).toArray) os) := by
  have hn : l.length = n := by have := h.1; simpa [uv] using this
  obtain ⟨hlen, hr⟩ := h
  rcases hr with ⟨h0, _⟩ | ⟨g', off', cur, h0, hb, h1, h2, h3, h4⟩
  · cases h0
  · cases h0
    have hg : g < w.heap.size := hb.lt
    refine ⟨⟨by simp [uv, hs, hn], .inr ⟨g, off, Go.Sort.putCells eu off (zs s).toArray cur, rfl, ?_, h1, h2, by simpa [Go.Sort.putCells] using h3, fun j u hu => ?_⟩⟩, ⟨rfl, rfl, rfl, by simp, fun k hk hf => ?_⟩⟩
    · unfold Bk at hb ⊢
      simp only [Go.Sort.grow, Go.Sort.putRow, Go.Sort.mapBlock, Go.Sort.ahead]
      rw [Array.getElem?_append_left (by simpa using hg), Array.getElem?_modify, hb]
      simp [Go.Sort.onCells]
    · have hj : j < s.length := by
        have := (List.getElem?_eq_some_iff.1 hu).1
        simpa [uv] using this
      have e1 : u = .int .u32 (s[j] : Int) := by
        unfold uv at hu
        rw [List.getElem?_map, List.getElem?_eq_getElem hj] at hu
        exact (Option.some.inj hu).symm
      have hcur : off + j < cur.size := by omega
      subst e1
      simp only [Go.Sort.putCells, Array.getElem?_mapIdx]
      rw [Array.getElem?_eq_getElem hcur]
      simp [hj]
    · simp only [Go.Sort.grow, Go.Sort.putRow, Go.Sort.mapBlock, Go.Sort.ahead]
      rw [Array.getElem?_append_left (by simpa using hk), Array.getElem?_modify]
      rw [sf_some] at hf
      simp [hf]
/-- rising numbers, each once -/
theorem compact_set (s : List Nat) (hs : s.Pairwise (· ≤ ·)) : ∀ m, m ≤ s.length → ∃ t : List Nat, Go.Lib.compactUpTo (zs s).toArray m = zs t ∧ StN t ∧ (∀ x, x ∈ t ↔ x ∈ s.take m) ∧ t.length ≤ m
  | 0, _ => ⟨[], rfl, List.Pairwise.nil, by simp, Nat.le_refl _⟩
  | m + 1, hm => by
    obtain ⟨t, h1, h2, h3, h4⟩ := compact_set s hs m (by omega)
    have hm' : m < s.length := hm
    have e : (zs s).toArray[m]! = (s[m] : Int) := by simp [hm']
    have et : s.take (m + 1) = s.take m ++ [s[m]] := by rw [List.take_add_one, List.getElem?_eq_getElem hm']; rfl
    rw [Go.Lib.compactUpTo_succ, h1, et]
    by_cases h0 : m = 0
    · subst h0
      have hk : Go.Lib.keeps (zs s).toArray 0 = true := by simp [Go.Lib.keeps]
      rw [hk, if_pos rfl, e]
      have ht : t = [] := List.length_eq_zero_iff.1 (by omega)
      subst ht
      exact ⟨[s[0]], by simp, List.pairwise_singleton _ _, by simp, by simp⟩
    · have e' : (zs s).toArray[m - 1]! = (s[m - 1] : Int) := by simp [show m - 1 < s.length by omega]
      have hle : ∀ x ∈ s.take m, x ≤ s[m - 1] := fun x hx => by
        obtain ⟨i, hi, rfl⟩ := List.mem_iff_getElem.1 hx
        rw [List.length_take] at hi
        rw [List.getElem_take]
        rcases Nat.lt_or_ge i (m - 1) with h | h
        · exact List.pairwise_iff_getElem.1 hs i (m - 1) (by omega) (by omega) h
        · have : i = m - 1 := by omega
          subst this; exact Nat.le_refl _
      have hmem : s[m - 1] ∈ s.take m := by
        rw [List.mem_iff_getElem]
        exact ⟨m - 1, by rw [List.length_take]; omega, by rw [List.getElem_take]⟩
      by_cases hq : s[m] = s[m - 1]
      · have hk : Go.Lib.keeps (zs s).toArray m = false := Go.Lib.keeps_neg (by omega) (by rw [e, e', hq])
        rw [hk]
        refine ⟨t, by simp, h2, fun x => ?_, by omega⟩
        rw [h3, List.mem_append, List.mem_singleton, hq]
        exact ⟨.inl, fun h => h.elim id fun h => h ▸ hmem⟩
      · have hk : Go.Lib.keeps (zs s).toArray m = true := Go.Lib.keeps_pos (by rw [e, e']; omega)
        rw [hk, if_pos rfl, e]
        have hlt : s[m - 1] < s[m] := by
          have := List.pairwise_iff_getElem.1 hs (m - 1) m (by omega) hm' (by omega)
          omega
        refine ⟨t ++ [s[m]], by simp, ?_, fun x => by rw [List.mem_append, List.mem_append, h3], by simp; omega⟩
        unfold StN
        rw [List.pairwise_append]
        refine ⟨h2, List.pairwise_singleton _ _, fun x hx y hy => ?_⟩
        rw [List.mem_singleton] at hy
        subst hy
        exact Nat.lt_of_le_of_lt (hle x ((h3 x).1 hx)) hlt
theorem u32_cell : OneCell eu := fun _ => rfl
set_option maxHeartbeats 1000000 in
theorem Compact_any (A : Option Addr) (n c : Nat) (s : List Nat) (w : World) (hn : n < 1152921504606846976) (hs : s.Pairwise (· ≤ ·)) (h : foot.Own w 23 1 A n c (uv s)) :
    Calls Tryz.prog 128 #[.slice A n c] w fun e w' => ∃ t : List Nat, e = .returned (.slice A t.length c) ∧ IsSet s t ∧ t.length ≤ s.length ∧ foot.Own w' 23 1 A t.length c (uv t) ∧ Chg (sf A) w w' := by
  have hl : s.length = n := by have := h.1; simpa [uv] using this
  subst hl
  rcases Nat.eq_zero_or_pos s.length with h0 | h0
  · have hz : s = [] := List.length_eq_zero_iff.1 h0
    subst hz
    have HO := Lib.hid h
    clear h h0
    go_enter Tryz.func128, Tryz.ntmps128
    go_wp2_with fail
    go_ret
    exact ⟨[], rfl, IsSet.nil, Nat.le_refl _, HO.out, Chg.refl _ _⟩
  · obtain ⟨g, off, rfl⟩ : ∃ g off, A = some ⟨g, off, none⟩ := by
      obtain ⟨b, off, e, _⟩ := h.rg.2 h0
      exact ⟨b, off, e⟩
    have hH : Go.Sort.Holds eu w g off (zs s).toArray := by
      rcases h.2 with ⟨h0, _⟩ | ⟨g', off', cur, h0, hb, _, _, _, h4⟩
      · cases h0
      · cases h0
        intro j hj
        have hj' : j < s.length := by simpa using hj
        refine ⟨?_, by rw [hb.free]⟩
        rw [hb.cell, h4 j (.int .u32 (s[j] : Int)) (by simp [uv, hj'])]
        simp [hj']
    have hcap := h.cap
    obtain ⟨t, h1, h2, h3, h4⟩ := compact_set s hs s.length (Nat.le_refl _)
    have hd : (zs s).toArray.size = s.length := by simp
    have hc := AnyE.slices_Compact Tryz.compactU eu u32_cell (.intD _ _ .u32) (.intD _ _ .u32) 0 (fun w => Tryz.zeroValue23 w) g off c (zs s).toArray w hH (by rw [hd]; omega) (by rw [hd]; exact hcap)
    rw [hd, h1] at hc
    refine hc.mono ?_
    rintro e w' ⟨rfl, q, rfl⟩
    have hlt : (zs t).length = t.length := by simp
    have hrow : (zs t ++ List.replicate (s.length - (zs t).length) (0 : Int)).toArray = (zs (t ++ List.replicate (s.length - t.length) 0)).toArray := by simp
    have hsz : (t ++ List.replicate (s.length - t.length) 0).length = s.length := by simp; omega
    obtain ⟨k1, k2⟩ := own_put h hsz q #[]
    rw [Go.Sort.grow_empty, ← hrow] at k1 k2
    refine ⟨t, by rw [hlt], ⟨h2, fun x => by rw [h3, List.take_length]⟩, h4, ?_, k2⟩
    have := k1.take (k := t.length) h4
    rw [Nat.mul_one, uv_app, List.take_left' (uv_len t)] at this
    exact this
set_option maxRecDepth 100000 in
set_option maxHeartbeats 1000000 in
theorem Clone_any (A : Option Addr) (c : Nat) (l : List Nat) (G : Foot) (w : World) (hl : l.length ≤ 1099511627776) (hA : A = none → c = 0) (hc : l.length ≤ c) (hcm : c ≤ maxLen) (hs : Us w G A l) :
    Calls Tryz.prog 126 #[.slice A l.length c] w (RetNums l w) := by
  obtain ⟨i0, hi, hz0, hz1, hz2⟩ := info_parts info_u32
  have Hi := Lib.hid hi
  have Hz0 := Lib.hid hz0
  have Hz1 := Lib.hid hz1
  have Hz2 := Lib.hid hz2
  have HA := Lib.hid hA
  have HL1 : Hid (0 + l.length ≤ maxLen) := by show _ ≤ _; unfold maxLen; omega
  have HL2 : Hid ((0 + l.length) * 4 ≤ 140737488355328) := by show _ ≤ _; omega
  have HO0 : Hid (foot.Own (w.alloc (.cells #[] 23)) 23 1 (some ⟨w.heap.size, 0, none⟩) 0 0 []) := foot.Own.made w 23 1 0 0 #[] [] (Nat.le_refl _) (Nat.zero_le _) rfl rfl rfl
  have hb0 : Below w.heap.size w (w.alloc (.cells #[] 23)) := (Below.refl _ _).alloc (Nat.le_refl _) _
  have HFin : Hid (∀ (A' : Option Addr) (c' : Nat) (w' : World), foot.Own w' 23 1 A' (0 + l.length) c' ([] ++ uv l) → Chg (sf (some ⟨w.heap.size, 0, none⟩)) (w.alloc (.cells #[] 23)) w' → Fresh (w.alloc (.cells #[] 23)) (sf (some ⟨w.heap.size, 0, none⟩)) (sf A') → RetNums l w (.returned (.slice A' l.length c')) w') := fun A' c' w' h1 h2 h3 => by
    rw [Nat.zero_add, List.nil_append] at h1
    refine ⟨A', c', rfl, h1, fun k hk => ?_, hb0.trans (h2.below (fun k hk => by rw [sf_some] at hk; exact Nat.le_of_eq hk) hb0.size)⟩
    rcases h3 k hk with e | e
    · rw [sf_some] at e; exact Nat.le_of_eq e
    · exact Nat.le_trans hb0.size e
  have hq := fun (w : World) (a : Option Addr) (n c : Nat) => Lib.run_eql_slice_nil (P := Tryz.prog) w 24 23 a n c 0 0 Tryz.underlying24
  rcases A with _ | ad
  · have h0 := hA rfl
    subst h0
    have hz : l = [] := List.length_eq_zero_iff.1 (by omega)
    subst hz
    clear hs hA hi hz0 hz1 hz2 hb0 HO0 HFin HA hl hc hcm HL1 HL2
    go_enter Tryz.func126, Tryz.ntmps126
    go_wp2_with fail
    go_ret
    exact ⟨none, 0, rfl, foot.Own.none_ _ _ _, fun k hk => absurd hk (sf_none k), Below.refl _ _⟩
  · have HR := Lib.hid (hs.bel hb0)
    clear hs hA hi hz0 hz1 hz2 hb0 hl hc hcm
    go_enter Tryz.func126, Tryz.ntmps126
    go_wp2_with (at_builtin; refine wpList_app _ rfl (.tmp 5) (.tmp 6) _ rfl 23 i0 _ 1 4 Tryz.underlying24 Hi.out Hz0.out Hz1.out Hz2.out rfl (by omega) _ 0 0 [] rfl HO0.out _ (some ad) l.length c HA.out (uv l) rfl HR.out (uv_one _) HL1.out HL2.out ?_; intro A' c' w' ho hc' hf; have HE := Lib.hid (HFin.out _ _ _ ho hc' hf); clear ho hc' hf)
    go_ret
    exact HE.out
theorem RetNums.at_ {l : List Nat} {w : World} {e : Ending} {w' : World} (h : RetNums l w e w') : ∃ A c, e = .returned (.slice A l.length c) ∧ foot.Own w' 23 1 A l.length c (uv l) ∧ (∀ k, sf A k → w.heap.size ≤ k) ∧ Below w.heap.size w w' := h
set_option maxHeartbeats 1000000 in
/-- asn.Set -/
theorem Set_any (A : Option Addr) (c : Nat) (l : List Nat) (G : Foot) (w : World) (hl : l.length ≤ 1099511627776) (hA : A = none → c = 0) (hc : l.length ≤ c) (hcm : c ≤ maxLen) (hs : Us w G A l) :
    Calls Tryz.prog 95 #[.slice A l.length c] w fun e w' => ∃ t : List Nat, IsSet l t ∧ t.length ≤ l.length ∧ RetNums t w e w' := by
  have HC := Lib.hid (Clone_any A c l G w hl hA hc hcm hs)
  have HSort : Hid (∀ (A : Option Addr) (c : Nat) (w : World), foot.Own w 23 1 A l.length c (uv l) → Calls Tryz.prog 127 #[.slice A l.length c] w fun e w' => e = .returned (.tuple #[]) ∧ ∃ s : List Nat, s.Perm l ∧ s.Pairwise (· ≤ ·) ∧ foot.Own w' 23 1 A l.length c (uv s) ∧ Chg (sf A) w w') := fun A c w h => Sort_any A l.length c l w rfl (by omega) h
  have HComp : Hid (∀ (A : Option Addr) (c : Nat) (s : List Nat) (w : World), s.Pairwise (· ≤ ·) → foot.Own w 23 1 A l.length c (uv s) → Calls Tryz.prog 128 #[.slice A l.length c] w fun e w' => ∃ t : List Nat, e = .returned (.slice A t.length c) ∧ IsSet s t ∧ t.length ≤ s.length ∧ foot.Own w' 23 1 A t.length c (uv t) ∧ Chg (sf A) w w') := fun A c s w h1 h2 => Compact_any A l.length c s w (by omega) h1 h2
  clear hA hc hcm hs hl
  go_enter Tryz.func95, Tryz.ntmps95
  go_wp2_with (go_at_call 126; refine HC.out.mono ?_; rintro e w1 ⟨A1, c1, rfl, ho, hlo, hb⟩; have HO1 := Lib.hid ho; have HB1 := Lib.hid (And.intro hlo hb); clear ho hlo hb)
  go_wp2_with (go_at_call 127; refine (HSort.out A1 c1 _ HO1.out).mono ?_; rintro e w2 ⟨rfl, s, hp, hle, ho, hch⟩; have HP := Lib.hid (And.intro hp hle); have HO2 := Lib.hid (And.intro ho hch); clear hp hle ho hch)
  go_wp2_with (go_at_call 128; refine (HComp.out A1 c1 s _ HP.out.2 HO2.out.1).mono ?_; rintro e w3 ⟨t, rfl, ht, hlt, ho, hch⟩; have HT := Lib.hid (And.intro ht hlt); have HO3 := Lib.hid (And.intro ho hch); clear ht hlt ho hch)
  go_ret
  refine ⟨t, ⟨HT.out.1.strict, fun x => (HT.out.1.mem x).trans HP.out.1.mem_iff⟩, ?_, A1, c1, rfl, HO3.out.1, HB1.out.1, ?_⟩
  · have := HP.out.1.length_eq
    have := HT.out.2
    omega
  · exact (HB1.out.2.trans (HO2.out.2.below HB1.out.1 HB1.out.2.size)).trans (HO3.out.2.below HB1.out.1 (Nat.le_trans HB1.out.2.size HO2.out.2.size))
theorem allEq_nums : ∀ (l r : List Nat), Go.Lib.allEq (fun x y : Int => decide (x = y)) (zs l) (zs r) = decide (l = r)
  | [], [] => rfl
  | [], _ :: _ => by simp [Go.Lib.allEq]
  | _ :: _, [] => by simp [Go.Lib.allEq]
  | x :: l, y :: r => by
    have := allEq_nums l r
    simp only [zs, List.map_cons, Go.Lib.allEq] at this ⊢
    rw [this]
    by_cases h1 : x = y
    · by_cases h2 : l = r <;> simp [h1, h2]
    · have : ¬ (x : Int) = (y : Int) := by omega
      simp [h1, this]
set_option maxHeartbeats 1000000 in
/-- slices.Equal: two rows, nil or not -/
theorem Equal_any (A B : Option Addr) (c d : Nat) (l r : List Nat) (G H : Foot) (w : World) (hl : l.length ≤ 1099511627776) (hr : r.length ≤ 1099511627776) (h1 : Us w G A l) (h2 : Us w H B r) :
    Calls Tryz.prog 101 #[.slice A l.length c, .slice B r.length d] w fun e w' => e = .returned (.bool (decide (l = r))) ∧ ∃ q, w' = w.drewN q := by
  by_cases he : l.length = r.length
  · rcases Nat.eq_zero_or_pos l.length with h0 | h0
    · have hz : l = [] := List.length_eq_zero_iff.1 h0
      have hz2 : r = [] := List.length_eq_zero_iff.1 (by omega)
      subst hz hz2
      clear h1 h2 he h0 hl hr
      go_enter Tryz.func101, Tryz.ntmps101
      go_wp2_with fail
      go_loopw [5, 13] (fun _ v wr => v = .int .i64 0 ∧ wr = w) (fun _ _ _ => 0)
      case atStart => exact ⟨rfl, rfl⟩
      case round =>
        obtain ⟨rfl, rfl⟩ := hrel
        go_wp2_with fail
        go_ret
        exact ⟨rfl, 0, rfl⟩
    · obtain ⟨b1, o1, rfl, _, _, c1⟩ := h1.2 h0
      obtain ⟨b2, o2, rfl, _, _, c2⟩ := h2.2 (by omega)
      have hc := AnyE.slices_Equal Tryz.equalU eu (fun x y => decide (x = y)) (.intD _ _ .u32) b1 o1 l.length c b2 o2 r.length d (zs l) (zs r) w (by simp) (by simp) (by omega) (by omega)
        (fun j hj => by have hj' : j < l.length := by simpa using hj
                        rw [c1 j (.int .u32 (l[j] : Int)) (by simp [uv, hj'])]; simp [hj'])
        (fun j hj => by have hj' : j < r.length := by simpa using hj
                        rw [c2 j (.int .u32 (r[j] : Int)) (by simp [uv, hj'])]; simp [hj'])
      refine hc.mono ?_
      rintro e w' ⟨rfl, q, rfl⟩
      have e1 : (zs l).take l.length = zs l := List.take_of_length_le (by simp)
      have e2 : (zs r).take r.length = zs r := List.take_of_length_le (by simp)
      exact ⟨by rw [e1, e2, allEq_nums], q, rfl⟩
  · clear h1 h2
    have hne : ¬ l = r := fun e => he (by rw [e])
    have hd : decide (l = r) = false := by simp [hne]
    rw [hd]
    clear hne hd hl hr
    have hq : ((l.length : Int) == (r.length : Int)) = false := by simp; omega
    generalize l.length = n at *
    generalize r.length = m at *
    go_enter Tryz.func101, Tryz.ntmps101
    go_wp2_with fail
    go_ret
    exact ⟨rfl, 0, rfl⟩
end Go.Proofs.YtbljhjfaimnieaaGreat.nums

namespace Go.Proofs.YtbljhjfaimnieaaGreat.pth
open Go.Proofs.YtbljhjfaimnieaaGreat.asn
set_option linter.unusedVariables false

abbrev Sg := Int × List Nat
def chF : Nat → List Nat → List (List Nat)
  | 0, _ => []
  | f + 1, l => if l = [] then [] else l.take 255 :: chF f (l.drop 255)
/-- in pieces of 255 -/
def ck (l : List Nat) : List (List Nat) := chF l.length l
theorem chF_more : ∀ (f g : Nat) (l : List Nat), l.length ≤ f → l.length ≤ g → chF f l = chF g l
  | 0, 0, l, _, _ => rfl
  | 0, g + 1, l, hf, _ => by
    have : l = [] := List.length_eq_zero_iff.1 (by omega)
    subst this; simp [chF]
  | f + 1, 0, l, _, hg => by
    have : l = [] := List.length_eq_zero_iff.1 (by omega)
    subst this; simp [chF]
  | f + 1, g + 1, l, hf, hg => by
    unfold chF
    split
    · rfl
    · rename_i h
      have h0 : 0 < l.length := List.length_pos_iff.2 h
      rw [chF_more f g (l.drop 255) (by rw [List.length_drop]; omega) (by rw [List.length_drop]; omega)]
theorem ck_cons {l : List Nat} (h : l ≠ []) : ck l = l.take 255 :: ck (l.drop 255) := by
  have h0 : 0 < l.length := List.length_pos_iff.2 h
  obtain ⟨f, hf⟩ : ∃ f, l.length = f + 1 := ⟨l.length - 1, by omega⟩
  unfold ck
  rw [hf]
  conv => lhs; unfold chF
  rw [if_neg h, chF_more f (l.drop 255).length _ (by rw [List.length_drop]; omega) (Nat.le_refl _)]
theorem ck_ind {P : List Nat → Prop} (h0 : P []) (h1 : ∀ l, l ≠ [] → P (l.drop 255) → P l) : ∀ (n : Nat) (l : List Nat), l.length ≤ n → P l
  | 0, l, hn => by
    have : l = [] := List.length_eq_zero_iff.1 (by omega)
    subst this; exact h0
  | n + 1, l, hn => by
    by_cases h : l = []
    · subst h; exact h0
    · have hp : 0 < l.length := List.length_pos_iff.2 h
      exact h1 l h (ck_ind h0 h1 n (l.drop 255) (by rw [List.length_drop]; omega))
theorem ck_flat (l : List Nat) : (ck l).flatten = l := by
  refine ck_ind (P := fun l => (ck l).flatten = l) rfl (fun l h ih => ?_) l.length l (Nat.le_refl _)
  rw [ck_cons h, List.flatten_cons, ih, List.take_append_drop]
theorem ck_len (l : List Nat) : (ck l).length ≤ l.length := by
  refine ck_ind (P := fun l => (ck l).length ≤ l.length) (Nat.le_refl _) (fun l h ih => ?_) l.length l (Nat.le_refl _)
  have hp : 0 < l.length := List.length_pos_iff.2 h
  rw [ck_cons h, List.length_cons]
  rw [List.length_drop] at ih
  omega
/-- pieces of one kind -/
def sgs (k : Int) (l : List Nat) : List Sg := (ck l).map fun c => (k, c)
theorem sgs_len (k : Int) (l : List Nat) : (sgs k l).length ≤ l.length := by unfold sgs; rw [List.length_map]; exact ck_len l
theorem sgs_cons (k : Int) {l : List Nat} (h : l ≠ []) : sgs k l = (k, l.take 255) :: sgs k (l.drop 255) := by unfold sgs; rw [ck_cons h]; rfl
/-- a number put behind, into the last piece if that is a sequence with room -/
def putS (p : List Sg) (n : Nat) : List Sg :=
  match p.getLast? with
  | some s => if s.1 = 2 ∧ s.2.length < 255 then p.dropLast ++ [(2, s.2 ++ [n])] else p ++ [(2, [n])]
  | none => p ++ [(2, [n])]
def allP (p : List Sg) : List Nat := p.flatMap (·.2)
end Go.Proofs.YtbljhjfaimnieaaGreat.pth

namespace Go.Proofs.YtbljhjfaimnieaaGreat.pth
open Go.RowKit Go.Joins Go.ChangeShapes Go.WideShapes Go.ChangeAt Go.Proofs.YtbljhjfaimnieaaGreat.kit Go.Proofs.YtbljhjfaimnieaaGreat.mem Go.Proofs.YtbljhjfaimnieaaGreat.foot Go.Proofs.YtbljhjfaimnieaaGreat.nums Go.Proofs.YtbljhjfaimnieaaGreat.asn
set_option linter.unusedVariables false
set_option linter.unusedSimpArgs false
/-- numbers of 32 bits each -/
def W32 (l : List Nat) : Prop := ∀ n ∈ l, n < 4294967296
theorem W32.sub {l r : List Nat} (h : W32 l) (hs : ∀ x ∈ r, x ∈ l) : W32 r := fun x hx => h x (hs x hx)
theorem W32.app {l r : List Nat} (h : W32 l) (k : W32 r) : W32 (l ++ r) := fun x hx => (List.mem_append.1 hx).elim (h x) (k x)
theorem W32.take {l : List Nat} (h : W32 l) (n : Nat) : W32 (l.take n) := h.sub fun _ => List.mem_of_mem_take
theorem W32.drop {l : List Nat} (h : W32 l) (n : Nat) : W32 (l.drop n) := h.sub fun _ => List.mem_of_mem_drop
/-- a slice of numbers -/
def rNs : Rel (List Nat) := fun w G cs l => ∃ A c, cs = [.slice A l.length c] ∧ (A = none → c = 0) ∧ l.length ≤ c ∧ c ≤ maxLen ∧ Us w G A l ∧ W32 l
theorem keeps_ns : Keeps 1 rNs := by
  refine ⟨fun h => ?_, fun h u hu => ?_, fun h hc hd => ?_, fun h hG => ?_⟩
  all_goals obtain ⟨A, c, rfl, h1, h2, h3, h4, h5⟩ := h
  · rfl
  · simp at hu; rw [hu]; rfl
  · exact ⟨A, c, rfl, h1, h2, h3, h4.chg hc hd, h5⟩
  · exact ⟨A, c, rfl, h1, h2, h3, h4.mono hG, h5⟩
/-- a piece: its kind, its numbers -/
def rSeg : Rel Sg := rPair (rInt .i64) rNs
theorem keeps_seg : Keeps 2 rSeg := keeps_pair (keeps_int .i64) keeps_ns
theorem Rel_own {w : World} {A : Option Addr} {c : Nat} {l : List Nat} {G : Foot} (h : foot.Own w 23 1 A l.length c (uv l)) (hw : W32 l) (hG : ∀ k, sf A k → G k) : rNs w G [.slice A l.length c] l :=
  ⟨A, c, rfl, h.nil, h.cap, h.max, h.rg.mono fun k _ hk => hG k hk, hw⟩
theorem seg_of {w : World} {G : Foot} {k : Int} {l : List Nat} {A : Option Addr} {c : Nat} (hk : (Lit.int .i64 k).wf = true) (h : rNs w G [.slice A l.length c] l) : rSeg w G [.int .i64 k, .slice A l.length c] (k, l) :=
  ⟨[.int .i64 k], [.slice A l.length c], rfl, ⟨rfl, hk⟩, h⟩
/-- a piece's two cells -/
theorem seg_at {w : World} {G : Foot} {cs : List Value} {s : Sg} (h : rSeg w G cs s) : ∃ A c, cs = [.int .i64 s.1, .slice A s.2.length c] ∧ (Lit.int .i64 s.1).wf = true ∧ (A = none → c = 0) ∧ s.2.length ≤ c ∧ c ≤ maxLen ∧ Us w G A s.2 ∧ W32 s.2 := by
  obtain ⟨c1, c2, rfl, ⟨rfl, hk⟩, A, c, rfl, h1, h2, h3, h4, h5⟩ := h
  exact ⟨A, c, rfl, hk, h1, h2, h3, h4, h5⟩
section
variable {H : Type} {enc : TypeId × Value → H} {w : World} {base : Nat} {held : Bool}
end
section
variable {w w' : World} {G : Foot}
theorem ns_stay {cs : List Value} {l : List Nat} (h : rNs w G cs l) (hs : Stay w w') : rNs w' G cs l := by
  obtain ⟨A, c, rfl, h1, h2, h3, h4, h5⟩ := h
  exact ⟨A, c, rfl, h1, h2, h3, Rg.stay h4 hs, h5⟩
theorem seg_stay {cs : List Value} {s : Sg} (h : rSeg w G cs s) (hs : Stay w w') : rSeg w' G cs s := by
  obtain ⟨c1, c2, e, h1, h2⟩ := h
  exact ⟨c1, c2, e, h1, ns_stay h2 hs⟩
theorem all_stay : ∀ {l : List Sg} {vs : List Value}, rAll rSeg w G vs l → Stay w w' → rAll rSeg w' G vs l
  | [], _, h, _ => h
  | _ :: l, _, ⟨a, t, e, h1, h2⟩, hs => ⟨a, t, e, seg_stay h1 hs, all_stay h2 hs⟩
end
/-- a list of pieces handed back in new memory -/
abbrev RetP (l : List Sg) := RetL 2 rSeg 67 l
theorem info_seg : (Tryz.prog.info? 67).map (fun i => (i.zero, i.size, i.bytes)) = some (some (.agg #[.int .i64 0, .slice none 0 0]), 2, 32) := by kernel_rfl
end Go.Proofs.YtbljhjfaimnieaaGreat.pth

namespace Go.Proofs.YtbljhjfaimnieaaGreat.pth
open Go.RowKit Go.Shelf Go.Proofs Go.Proofs.YtbljhjfaimnieaaGreat.kit Go.Proofs.YtbljhjfaimnieaaGreat.mem Go.Proofs.YtbljhjfaimnieaaGreat.foot Go.Proofs.YtbljhjfaimnieaaGreat.nums Go.Proofs.YtbljhjfaimnieaaGreat.asn
set_option linter.unusedVariables false
set_option linter.unusedSimpArgs false
attribute [local go_sem] Oper.semAt_some
/-- the blocks of g and what is made later may turn -/
abbrev Kp (g : Foot) (n1 : Nat) : World → World → Prop := Chg fun k => g k ∨ n1 ≤ k
theorem kp_t {g : Foot} {n1 : Nat} {A B C : World} (h : Kp g n1 A B) (k : Kp g n1 B C) : Kp g n1 A C := h.trans k fun _ _ e => e
theorem kp_b {g : Foot} {n1 : Nat} {w : World} (hn : n1 ≤ w.heap.size) (W : World) (l : Nat) (o o' : Obj) (hl : w.heap.size ≤ l) (h : W.heap[l]? = some o) (_ : o.isCells = false) (_ : o.isWalk = false) : Kp g n1 W (W.putObj l o') :=
  ⟨rfl, rfl, rfl, by simp, fun k hk hf => World.putObj_heap_other (fun e => hf (.inr (by omega)))⟩
/-- where a piece begins -/
def upto (k : Nat) : List Nat := (List.range k).map fun j => 255 * j
theorem upto_succ (k : Nat) : upto (k + 1) = upto k ++ [255 * k] := by simp [upto, List.range_succ]
theorem upto_len (k : Nat) : (upto k).length = k := by simp [upto]
set_option maxRecDepth 100000 in
set_option maxHeartbeats 1000000 in
theorem Chunk_any (A : Option Addr) (len c : Nat) (w : World) :
    Calls Tryz.prog 149 #[.slice A len c, .int .i64 255] w fun e w' => e = .returned (.func (.func 159) #[] #[.pointer (some ⟨w.heap.size, 0, none⟩), .pointer (some ⟨w.heap.size + 1, 0, none⟩)]) ∧ w' = (w.alloc (.cells #[.slice A len c] 24)).alloc (.cells #[.int .i64 255] 3) := by
  have hmf : ∀ (fn : Fn) (first cap : Array Value) (w : World), (Instr.makeFunc fn first cap).run Tryz.prog w = .ok (.func fn first cap) w := fun _ _ _ _ => rfl
  go_enter Tryz.func149, Tryz.ntmps149
  go_wp2_with fail
  go_ret
  exact ⟨rfl, rfl⟩
set_option maxRecDepth 100000 in
set_option maxHeartbeats 2000000 in
theorem chunk1_in (n l Bs Bn : Nat) (g : Foot) (n1 b off len c : Nat) (hn : 1 ≤ n) (hlc : len ≤ c) (hlen : len ≤ 1000000) (hBs : Bs < n1) (hBn : Bn < n1) (hgs : ¬ g Bs) (hgn : ¬ g Bn) (J Jx : List Nat → World → Prop)
    (hY : ∀ pre x W, J pre W → pre.length < len → YieldAt Fence.wide (n - 1) Tryz.prog l #[.slice (some ⟨b, off + x, none⟩) (min 255 (len - x)) (min 255 (len - x))] W fun e W' =>
      (e = .returned (.bool true) ∧ J (pre ++ [x]) W' ∧ Kp g n1 W W') ∨ (e = .returned (.bool false) ∧ Jx (pre ++ [x]) W'))
    (hJd : ∀ pre W, J pre W → J pre W.drew) (W : World) (hW : n1 ≤ W.heap.size) (hcs : W.cell? ⟨Bs, 0, none⟩ = some (.slice (some ⟨b, off, none⟩) len c)) (hcn : W.cell? ⟨Bn, 0, none⟩ = some (.int .i64 255)) (h0 : J [] W) :
    CallsIn Fence.wide n Tryz.prog 159 #[.func (.yield l) #[] #[], .pointer (some ⟨Bs, 0, none⟩), .pointer (some ⟨Bn, 0, none⟩)] W fun e W' => (∃ v, e = .returned v) ∧
      ((∃ ys, (∃ k, len ≤ 255 * k ∧ 255 * k ≤ len + 254 ∧ ys = upto k) ∧ J ys W') ∨ (∃ pre, True ∧ Jx pre W')) := by
  refine callsIn_of_wp Tryz.func159 rfl trivial ?_ rfl
  simp only [Tryz.ntmps159, List.size_toArray, List.length_cons, List.length_nil, Nat.reduceAdd, Nat.reduceSub, Array.replicate_succ, Array.replicate_zero, List.push_toArray, List.append_toArray, List.nil_append, List.cons_append]
  gi_wp2
  gi_loopw [4, 5] (fun i _ wr => ∃ k : Nat, 255 * k ≤ len + 254 ∧ i = .int .i64 ((255 * k : Nat) : Int) ∧ J (upto k) wr ∧ Kp g n1 W wr)
    (fun i _ _ => len + 255 - (intOf i).toNat)
  case atStart => exact ⟨0, by omega, rfl, h0, Chg.refl _ _⟩
  case round =>
    obtain ⟨k, hk, rfl, hJs, hkp⟩ := hrel
    have hc1 : wr.cell? ⟨Bs, 0, none⟩ = some (.slice (some ⟨b, off, none⟩) len c) := by
      rw [World.cell?_of_block (w := W) (hkp.block Bs (by omega) (fun e => e.elim hgs (by omega)))]; exact hcs
    have hc2 : wr.cell? ⟨Bn, 0, none⟩ = some (.int .i64 255) := by
      rw [World.cell?_of_block (w := W) (hkp.block Bn (by omega) (fun e => e.elim hgn (by omega)))]; exact hcn
    obtain ⟨x, hx⟩ : ∃ x, x = 255 * k := ⟨_, rfl⟩
    rw [← hx] at hk
    by_cases hlt : x < len
    · obtain ⟨fn, tmps, assign, body, hy, hR⟩ := hY (upto k) x wr.drew (hJd _ _ hJs) (by rw [upto_len]; omega)
      have HX := Lib.hid hx
      rw [← hx]
      obtain ⟨m, hm⟩ : ∃ m, m = min 255 (len - x) := ⟨_, rfl⟩
      rw [← hm] at hy
      have HM := Lib.hid hm
      have hq : min (255 : Int) ((len - x : Nat) : Int) = (m : Int) := by omega
      have hq2 : ((x : Int) + (m : Int)).toNat - x = m := by omega
      have hcx : ¬ c = x := by omega
      have hxm : x + m ≤ len := by omega
      have hyp := Lib.hid (And.intro hJs hkp)
      clear hx hY hJs hkp hm h0 hcs hcn
      gi_wp2
      gi_region
      gi_wp2
      refine hR.mono ?_
      rintro e W3 (⟨rfl, hJ3, hk3⟩ | ⟨rfl, hJx3⟩)
      · have hk4 : Kp g n1 wr.drew W3 := hk3
        have hc4 : W3.cell? ⟨Bn, 0, none⟩ = some (.int .i64 255) := by
          have h5 := hyp.out.2.size
          rw [World.cell?_of_block (w := wr) (hk4.block Bn (Nat.lt_of_lt_of_le hBn (Nat.le_trans hW h5)) (fun e => e.elim hgn (by omega)))]
          exact hc2
        gi_wp2
        go_roundw
        case rel =>
          have e := HX.out
          exact ⟨k + 1, by omega, by go_num, by rw [upto_succ, ← e]; exact hJ3, (hyp.out.2.drew).trans hk4 fun _ _ e => e⟩
        case measure => simp [intOf]; omega
      · gi_wp2
        refine bodyPost_ret (results_none rfl _ _ _) rfl ?_
        exact ⟨⟨_, rfl⟩, .inr ⟨_, trivial, hJx3⟩⟩
    · have hd : len ≤ 255 * k := by omega
      rw [← hx]
      clear hY
      have HX := Lib.hid hx
      clear hx
      gi_wp2
      go_end0
      have e := HX.out
      exact ⟨⟨_, rfl⟩, .inl ⟨_, ⟨k, hd, by omega, rfl⟩, hJs⟩⟩
end Go.Proofs.YtbljhjfaimnieaaGreat.pth

namespace Go.Proofs.YtbljhjfaimnieaaGreat.pth
open Go.RowKit Go.Shelf Go.Proofs Go.Proofs.YtbljhjfaimnieaaGreat.kit Go.Proofs.YtbljhjfaimnieaaGreat.mem Go.Proofs.YtbljhjfaimnieaaGreat.foot Go.Proofs.YtbljhjfaimnieaaGreat.nums Go.Proofs.YtbljhjfaimnieaaGreat.asn
set_option linter.unusedVariables false
set_option linter.unusedSimpArgs false
attribute [local go_sem] Oper.semAt_some
theorem enters_chunk : ∀ args w, (callFunc 159 args).run Tryz.prog w = .ok (.enter 159 args) w := enters_of Tryz.func159 (by kernel_rfl) rfl
theorem upto_sgs (l : List Nat) (k : Nat) (h1 : l.length ≤ 255 * k) (h2 : 255 * k ≤ l.length + 254) : (upto k).map (fun x => ((2 : Int), (l.drop x).take 255)) = sgs 2 l := by
  have key : ∀ (k o : Nat), l.length ≤ o + 255 * k → o + 255 * k ≤ l.length + 254 → (k = 0 → l.length ≤ o) → ((List.range k).map fun j => ((2 : Int), (l.drop (o + 255 * j)).take 255)) = sgs 2 (l.drop o) := by
    intro k
    induction k with
    | zero =>
      intro o h1 h2 _
      rw [List.drop_eq_nil_of_le (by omega)]
      rfl
    | succ k ih =>
      intro o h1 h2 _
      have hne : l.drop o ≠ [] := by
        intro e
        have := congrArg List.length e
        rw [List.length_drop] at this
        simp at this
        omega
      rw [sgs_cons 2 hne, List.drop_drop, ← ih (o + 255) (by omega) (by omega) (by intro e; subst e; omega), List.range_succ_eq_map, List.map_cons, List.map_map]
      congr 1
      refine List.map_congr_left fun j _ => ?_
      simp only [Function.comp, Nat.succ_eq_add_one]
      rw [show o + 255 * (j + 1) = o + 255 + 255 * j by omega]
  have := key k 0 (by omega) (by omega) (by omega)
  rw [List.drop_zero] at this
  rw [← this]
  unfold upto
  rw [List.map_map]
  refine List.map_congr_left fun j _ => ?_
  simp [Function.comp]
/-- between two rounds -/
structure PI (w : World) (A : Option Addr) (l pre : List Nat) (W : World) : Prop where
  mem : ∃ A1 c1 vs, Bk W w.heap.size 22 #[.slice A1 pre.length c1] ∧ (∀ k, sf A1 k → w.heap.size + 3 ≤ k) ∧ Lst 2 rSeg 67 (fun k => w.heap.size ≤ k ∧ k ≠ w.heap.size) w W A1 pre.length c1 vs (pre.map fun x => ((2 : Int), (l.drop x).take 255))
  src : Us W (fun k => k < w.heap.size) A l
  big : w.heap.size + 3 ≤ W.heap.size
theorem PI.own {w : World} {A : Option Addr} {l : List Nat} {B : Nat} (hB : w.heap.size ≤ B) : OwnFrom B (PI w A l) := fun s W W' row hs hg hr => by
  have hst := stay_row hg fun r e => (hr r e).2
  obtain ⟨⟨A1, c1, vs, h1, h2, h3⟩, h4, h5⟩ := hs
  exact ⟨⟨A1, c1, vs, hst.block _ _ _ _ h1, h2, ⟨⟨foot.Own.stay h3.acc.own hst, h3.acc.bel.trans (below_grown hg h3.acc.bel.size fun g e => Nat.le_trans hB (hr g e).1), h3.acc.low⟩, all_stay h3.all hst, h3.len⟩⟩, Rg.stay h4 hst, Nat.le_trans h5 hg.size⟩
/-- a piece of the numbers -/
theorem us_part {w : World} {G : Foot} {b off : Nat} {l : List Nat} (h : Us w G (some ⟨b, off, none⟩) l) (x k : Nat) : Us w G (some ⟨b, off + x, none⟩) ((l.drop x).take k) := by
  refine ⟨by simp [uv], fun hn => ?_⟩
  have hn' : 0 < l.length := by simp at hn; omega
  obtain ⟨b', off', e, hb, hl, hc⟩ := h.2 hn'
  cases e
  refine ⟨b, off + x, rfl, hb, hl, fun j u hu => ?_⟩
  rw [Nat.add_assoc]
  refine hc (x + j) u ?_
  rw [uv_take, uv_drop, List.getElem?_take] at hu
  split at hu
  · rwa [List.getElem?_drop] at hu
  · cases hu
theorem stepIn_app {F : Fence} {n : Nat} {P : Program} {ops : Array Oper} {o : Oper} {a : Act} {w : World} {K : Act → World → Prop} {Q : Exit → Act → World → Prop} {E : Prop} (hgd : o.guard = none) (s x : Operand) (t : TypeId)
    (ho : o.op = .call { callee := .builtin .append, args := #[s, x], argTypes := #[t, t] })
    (e : TypeId) (i : TypeInfo) (z : Value) (size bytes : Nat) (ht : P.underlying t = some (.slice e)) (hi : P.info? e = some i) (hz : i.zero = some z)
    (hsize : i.size = size) (hby : i.bytes = bytes) (hzs : z.cells.size = size) (hsz : 0 < size)
    (A : Option Addr) (k c : Nat) (xs : List Value) (hs : a.eval s = .slice A k c) (hown : foot.Own w e size A k c xs)
    (G : Foot) (A2 : Option Addr) (m c2 : Nat) (hA2 : A2 = none → c2 = 0) (news : List Value) (hx : a.eval x = .slice A2 m c2) (hr : Rg w G size A2 m news) (h1 : ∀ u ∈ news, u.oneCell' = true)
    (h63 : k + m ≤ maxLen) (hbytes : (k + m) * bytes ≤ 140737488355328)
    (h : ∀ A' c' w', foot.Own w' e size A' (k + m) c' (xs ++ news) → Chg (sf A) w w' → Fresh w (sf A) (sf A') → K (a.put o.dst (.slice A' (k + m) c')) w') :
    if Region.wanted o (yielded ops a.tmps) = true then Oper.wpIn F n P o a w K Q else E := by
  have hw : Region.wanted o (yielded ops a.tmps) = true := by simp [Region.wanted, hgd]
  rw [if_pos hw]
  obtain ⟨A', c', w', hrun, h2, h3, h4⟩ := run_app (P := P) w t o.type e i z size bytes ht hi hz hsize hby hzs hsz A k c xs hown G A2 m c2 hA2 news hr h1 h63 hbytes
  unfold Oper.wpIn
  refine ⟨by simp [Oper.about, ho, resolve, Target.leads, Sem.run_pure], ?_⟩
  rw [Oper.semAt_plain F _ _ (by rw [ho]; intro c hc'; cases hc')]
  simp only [ho, execOp, resolve, invoke, builtin, Sem.run_bind, Sem.run_pure, Result.andThen_ok, List.map_toArray, List.map_cons, List.map_nil, hs, hx, hrun]
  exact h A' c' w' h2 h3 h4
section
variable {w W wc w' : World} {A A1 A2 A' : Option Addr} {l pre y : List Nat} {x c1 c2 c' : Nat} {vs : List Value}
/-- one piece more -/
theorem PI.next (hy : y = (l.drop x).take 255) (hw : W32 y) (hbk : Bk W w.heap.size 22 #[.slice A1 pre.length c1]) (hne : ∀ k, sf A1 k → w.heap.size + 3 ≤ k)
    (hlst : Lst 2 rSeg 67 (fun k => w.heap.size ≤ k ∧ k ≠ w.heap.size) w W A1 pre.length c1 vs (pre.map fun x => ((2 : Int), (l.drop x).take 255))) (hsr : Us W (fun k => k < w.heap.size) A l) (hbig : w.heap.size + 3 ≤ W.heap.size)
    (ho2 : foot.Own wc 23 1 A2 y.length c2 (uv y)) (hlo2 : ∀ k, sf A2 k → W.heap.size ≤ k) (hb2 : Below W.heap.size W wc)
    (ho : foot.Own w' 67 2 A' (pre.length + 1) c' (vs ++ [.int .i64 2, .slice A2 y.length c2])) (hch : Chg (sf A1) (wc.alloc (.cells #[.int .i64 2, .slice A2 y.length c2] 67)) w') (hf : Fresh (wc.alloc (.cells #[.int .i64 2, .slice A2 y.length c2] 67)) (sf A1) (sf A')) :
    KeepsOthers W (w'.setCell ⟨w.heap.size, 0, none⟩ (.slice A' (pre.length + 1) c')) ∧ Kp (fun k => k = w.heap.size) (w.heap.size + 3) W (w'.setCell ⟨w.heap.size, 0, none⟩ (.slice A' (pre.length + 1) c')) ∧ PI w A l (pre ++ [x]) (w'.setCell ⟨w.heap.size, 0, none⟩ (.slice A' (pre.length + 1) c')) := by
  have hba : Below W.heap.size W (wc.alloc (.cells #[.int .i64 2, .slice A2 y.length c2] 67)) := hb2.alloc hb2.size _
  have hw2 : Below w.heap.size w w' := hlst.acc.bel.trans ((hba.mono hlst.acc.bel.size).trans (hch.below (fun k hk => by have := hne k hk; omega) (Nat.le_trans hlst.acc.bel.size hba.size)))
  have hA' : ∀ k, sf A' k → w.heap.size + 3 ≤ k := fun k hk => by
    rcases hf k hk with e | e
    · exact hne k e
    · have := hba.size; omega
  have hx : ∀ k, Chg (fun j => j = w.heap.size) w' (w'.setCell ⟨w.heap.size, 0, none⟩ k) := fun k => (Chg.refl (fun j => j = w.heap.size) w').put (p := ⟨w.heap.size, 0, none⟩) (.inl rfl) k
  have hW' : ∀ k, Chg (fun j => j = w.heap.size ∨ w.heap.size + 3 ≤ j) W (w'.setCell ⟨w.heap.size, 0, none⟩ k) := fun k => ((Chg.of_below hba (fun j => j = w.heap.size ∨ w.heap.size + 3 ≤ j)).trans hch fun i _ hi => .inr (hne i hi)).trans (hx k) fun i _ hi => .inl hi
  refine ⟨⟨(hW' _).size, fun k o hk ho' => ?_⟩, hW' _, ⟨A', c', vs ++ [.int .i64 2, .slice A2 y.length c2], ?_, hA', ?_⟩, ?_, Nat.le_trans hbig (hW' _).size⟩
  · have hkW := (Array.getElem?_eq_some_iff.1 hk).1
    have n1 : ¬ sf A1 k := fun hs => by
      rcases hlst.acc.own.2 with ⟨rfl, _⟩ | ⟨g, off, cur, rfl, hb, _⟩
      · exact sf_none k hs
      · rw [sf_some] at hs
        subst hs
        unfold Bk at hb
        rw [hb] at hk
        cases hk
        cases ho'
    have n2 : k ≠ w.heap.size := by
      rintro rfl
      unfold Bk at hbk
      rw [hbk] at hk
      cases hk
      cases ho'
    rw [(hx _).block k (Nat.lt_of_lt_of_le (Nat.lt_of_lt_of_le hkW hba.size) hch.size) n2, hch.block k (Nat.lt_of_lt_of_le hkW hba.size) n1, hba.block k hkW]
    exact hk
  · have h1 := (hbk.below hba hbk.lt).chg hch (fun hs => by have := hne _ hs; omega)
    have h2 := h1.put 0 (.slice A' (pre.length + 1) c')
    rw [List.length_append, List.length_singleton]
    simpa using h2
  · have hL := (hlst.go keeps_seg hba).app keeps_seg (news := [.int .i64 2, .slice A2 y.length c2]) (l2 := [((2 : Int), y)]) (k := 1)
      (rAll.single (seg_of (by decide) (Rel_own ((ho2.bel (((Below.refl _ wc).alloc (Nat.le_refl _) _)))) hw fun k hk => by
        have h3 := hlo2 k hk
        refine ⟨⟨by omega, by omega⟩, fun hs => ?_⟩
        have := hlst.acc.own.lt k hs
        omega))) rfl ho hch hf
    rw [List.length_append, List.length_singleton, List.map_append, List.map_cons, List.map_nil, ← hy]
    exact ⟨⟨hL.acc.own.chg (hx _) (fun k _ hk e => by have := hA' k hk; omega), hL.acc.bel.trans ((hx _).below (fun k e => by rw [e]; exact Nat.le_refl _) hw2.size), hL.acc.low⟩, hL.all.chg keeps_seg (hx _) (fun k _ hk e => hk.1.2 e), hL.len⟩
  · exact ((hsr.chg (F := fun _ => False) (Chg.of_below hba _) (fun _ _ _ e => e)).chg hch (fun k _ hk hs => by have := hne k hs; omega)).chg (hx _) (fun k _ hk e => by omega)
end
set_option maxRecDepth 100000 in
set_option maxHeartbeats 2000000 in
theorem pieces_some (b off c : Nat) (l : List Nat) (w : World) (hl : l.length ≤ 1000000) (hc : l.length ≤ c) (hw : W32 l) (hs : Us w (fun _ => True) (some ⟨b, off, none⟩) l) (hb : 0 < l.length → b < w.heap.size) :
    Calls Tryz.prog 143 #[.slice (some ⟨b, off, none⟩) l.length c] w (RetP (sgs 2 l) w) := by
  refine (callsIn_wide (n := 4)).1 ?_
  obtain ⟨i0, hi, hz0, hz1, hz2⟩ := info_parts info_seg
  have h1 : 1 ≤ 4 := by omega
  have hmx : Tryz.prog.follows .mixedOrders = true := by kernel_rfl
  have hsrc : Us w (fun k => k < w.heap.size) (some ⟨b, off, none⟩) l := hs.mono fun k hk _ => hk
  have HCh : Hid (∀ w, Calls Tryz.prog 149 #[.slice (some ⟨b, off, none⟩) l.length c, .int .i64 255] w fun e w' => e = .returned (.func (.func 159) #[] #[.pointer (some ⟨w.heap.size, 0, none⟩), .pointer (some ⟨w.heap.size + 1, 0, none⟩)]) ∧ w' = (w.alloc (.cells #[.slice (some ⟨b, off, none⟩) l.length c] 24)).alloc (.cells #[.int .i64 255] 3)) := fun w => Chunk_any _ _ _ w
  refine callsIn_of_wp_marks Tryz.func143 rfl trivial ?_ rfl
  simp only [Tryz.ntmps143, List.size_toArray, List.length_cons, List.length_nil, Nat.reduceAdd, Nat.reduceSub, Array.replicate_succ, Array.replicate_zero, List.push_toArray, List.append_toArray, List.nil_append, List.cons_append]
  gi_wp2_with (refine ⟨trivial, ?_⟩; gi_at_call 149; refine (callsIn_wide.2 (HCh.out _)).mono ?_; rintro e w' ⟨rfl, rfl⟩)
  have hz3 : (((w.alloc (Obj.cells #[Value.slice none 0 0] 22)).alloc (Obj.cells #[Value.slice (some ⟨b, off, none⟩) l.length c] 24)).alloc (Obj.cells #[Value.int IntKind.i64 255] 3)).heap.size = w.heap.size + 3 := by simp
  have hI0 : PI w (some ⟨b, off, none⟩) l [] (((w.alloc (Obj.cells #[Value.slice none 0 0] 22)).alloc (Obj.cells #[Value.slice (some ⟨b, off, none⟩) l.length c] 24)).alloc (Obj.cells #[Value.int IntKind.i64 255] 3)) := by
    have hbb : Below w.heap.size w (((w.alloc (Obj.cells #[Value.slice none 0 0] 22)).alloc (Obj.cells #[Value.slice (some ⟨b, off, none⟩) l.length c] 24)).alloc (Obj.cells #[Value.int IntKind.i64 255] 3)) := (((Below.refl _ _).alloc (Nat.le_refl _) _).alloc (by simp) _).alloc (by simp; omega) _
    refine ⟨⟨none, 0, [], ?_, (fun k hk => absurd hk (sf_none k)), (Lst.nil w).go keeps_seg hbb⟩, hsrc.chg (F := fun _ => False) (Chg.of_below hbb _) (fun _ _ _ e => e), by rw [hz3]; exact Nat.le_refl _⟩
    exact ((Bk.new w 22 #[.slice none 0 0]).alloc _).alloc _
  have hcS : (((w.alloc (Obj.cells #[Value.slice none 0 0] 22)).alloc (Obj.cells #[Value.slice (some ⟨b, off, none⟩) l.length c] 24)).alloc (Obj.cells #[Value.int IntKind.i64 255] 3)).cell? ⟨w.heap.size + 1, 0, none⟩ = some (.slice (some ⟨b, off, none⟩) l.length c) := by
    have := ((Bk.new (w.alloc (Obj.cells #[Value.slice none 0 0] 22)) 24 #[.slice (some ⟨b, off, none⟩) l.length c]).alloc (Obj.cells #[Value.int IntKind.i64 255] 3)).cell 0
    simpa using this
  have hcN : (((w.alloc (Obj.cells #[Value.slice none 0 0] 22)).alloc (Obj.cells #[Value.slice (some ⟨b, off, none⟩) l.length c] 24)).alloc (Obj.cells #[Value.int IntKind.i64 255] 3)).cell? ⟨w.heap.size + 1 + 1, 0, none⟩ = some (.int .i64 255) := by
    have := (Bk.new ((w.alloc (Obj.cells #[Value.slice none 0 0] 22)).alloc (Obj.cells #[Value.slice (some ⟨b, off, none⟩) l.length c] 24)) 3 #[.int .i64 255]).cell 0
    simpa using this
  generalize ((w.alloc (Obj.cells #[Value.slice none 0 0] 22)).alloc (Obj.cells #[Value.slice (some ⟨b, off, none⟩) l.length c] 24)).alloc (Obj.cells #[Value.int IntKind.i64 255] 3) = w3 at *
  have hseq : SeqStopsK Fence.wide 3 Tryz.prog 159 #[.pointer (some ⟨w.heap.size + 1, 0, none⟩), .pointer (some ⟨w.heap.size + 1 + 1, 0, none⟩)] (fun x : Nat => #[Value.slice (some ⟨b, off + x, none⟩) (min 255 (l.length - x)) (min 255 (l.length - x))]) (Kp (fun k => k = w.heap.size) (w.heap.size + 3)) (fun ys => ∃ k, l.length ≤ 255 * k ∧ 255 * k ≤ l.length + 254 ∧ ys = upto k) (fun _ => True) l.length w3 := fun l' J Jx W hW hJ hJx hY h0 =>
    chunk1_in 3 l' (w.heap.size + 1) (w.heap.size + 1 + 1) (fun k => k = w.heap.size) (w.heap.size + 3) b off l.length c (by omega) hc hl (by omega) (by omega) (fun e : _ = _ => by omega) (fun e : _ = _ => by omega) J Jx hY
      (fun pre W1 h => hJ pre W1 W1.drew none h (grown_drew (World.grownBy.refl W1 none)) (fun r e => by cases e)) W (Nat.le_trans (Nat.le_of_eq hz3.symm) hW.size) ((hW.cell (p := ⟨w.heap.size + 1, 0, none⟩) (show w.heap.size + 1 < _ by omega)).trans hcS) ((hW.cell (p := ⟨w.heap.size + 1 + 1, 0, none⟩) (show w.heap.size + 1 + 1 < _ by omega)).trans hcN) h0
  refine wpIn_rangeFunc_ownF (F := Fence.wide) (n := 4) rfl h1 (gf := 159) (lb := #[.pointer (some ⟨w.heap.size + 1, 0, none⟩), .pointer (some ⟨w.heap.size + 1 + 1, 0, none⟩)]) rfl trivial enters_chunk hseq kp_t (kp_b (Nat.le_of_eq hz3.symm)) (Below.refl _ _) (fun _ => rfl)
    (PI w (some ⟨b, off, none⟩) l) (fun _ _ _ => False) (PI.own (by omega)) (fun _ _ _ _ _ hs _ _ => hs) hI0
    (fun x => { tmps := #[.slice (some ⟨b, off, none⟩) l.length c, undef, .slice none 0 0, .pointer (some ⟨w.heap.size, 0, none⟩), .slice (some ⟨b, off + x, none⟩) (min 255 (l.length - x)) (min 255 (l.length - x)), .slice (some ⟨b, off, none⟩) l.length c, .func (.func 159) #[] #[.pointer (some ⟨w.heap.size + 1, 0, none⟩), .pointer (some ⟨w.heap.size + 1 + 1, 0, none⟩)], .slice (some ⟨b, off + x, none⟩) (min 255 (l.length - x)) (min 255 (l.length - x)), undef, undef, undef, undef, undef, undef, undef], defers := [] }) ?assign ?body ?done ?stop
  case assign =>
    intro l' x W K hK
    gi_wp2
    exact hK
  case body =>
    rintro l' pre x W hPI hlt
    obtain ⟨⟨A1, c1, vs, hbk, hne, hlst⟩, hsr, hbig⟩ := hPI
    have hcell := hbk.cell 0
    have hfr := hbk.free 0
    simp at hcell
    obtain ⟨y, hy⟩ : ∃ y, y = (l.drop x).take 255 := ⟨_, rfl⟩
    have hyl : y.length = min 255 (l.length - x) := by rw [hy, List.length_take, List.length_drop]
    have hwy : W32 y := by rw [hy]; exact (hw.drop x).take 255
    have hbd : Below W.heap.size W W.drew := (Below.refl _ _).drew
    have hus : Us W.drew (fun k => k < w.heap.size) (some ⟨b, off + x, none⟩) y := by
      rw [hy]
      exact us_part (hsr.chg (F := fun _ => False) (Chg.of_below hbd _) (fun _ _ _ e => e)) x 255
    have HCl := Lib.hid (Clone_any (some ⟨b, off + x, none⟩) y.length y _ W.drew (by omega) (by intro h; cases h) (Nat.le_refl _) (by unfold maxLen; omega) hus)
    have HNext : Hid (∀ (wc : World) (A2 : Option Addr) (c2 : Nat) (A' : Option Addr) (c' : Nat) (w' : World), foot.Own wc 23 1 A2 y.length c2 (uv y) → (∀ k, sf A2 k → W.drew.heap.size ≤ k) → Below W.drew.heap.size W.drew wc →
        foot.Own w' 67 2 A' (pre.length + 1) c' (vs ++ [.int .i64 2, .slice A2 y.length c2]) → Chg (sf A1) (wc.alloc (.cells #[.int .i64 2, .slice A2 y.length c2] 67)) w' → Fresh (wc.alloc (.cells #[.int .i64 2, .slice A2 y.length c2] 67)) (sf A1) (sf A') →
        KeepsOthers W (w'.setCell ⟨w.heap.size, 0, none⟩ (.slice A' (pre.length + 1) c')) ∧ Kp (fun k => k = w.heap.size) (w.heap.size + 3) W (w'.setCell ⟨w.heap.size, 0, none⟩ (.slice A' (pre.length + 1) c')) ∧ PI w (some ⟨b, off, none⟩) l (pre ++ [x]) (w'.setCell ⟨w.heap.size, 0, none⟩ (.slice A' (pre.length + 1) c'))) :=
      fun wc A2 c2 A' c' w' h1 h2 h3 h4 h5 h6 => PI.next hy hwy hbk hne hlst hsr hbig h1 h2 (hbd.trans h3) h4 h5 h6
    have HOw : Hid (∀ (wc : World), Below W.drew.heap.size W.drew wc → ∀ (A2 : Option Addr) (c2 : Nat), foot.Own (wc.alloc (.cells #[.int .i64 2, .slice A2 y.length c2] 67)) 67 2 A1 pre.length c1 vs) :=
      fun wc h A2 c2 => hlst.acc.own.bel ((hbd.trans h).alloc (hbd.trans h).size _)
    have hgW : w.heap.size < W.drew.heap.size := by show w.heap.size < W.heap.size; omega
    have HFr : Hid (∀ (wc : World), Below W.drew.heap.size W.drew wc → wc.frozen? ⟨w.heap.size, 0, none⟩ = false) := fun wc h => (hbk.below (hbd.trans h) hbk.lt).free 0
    have HCell3 : Hid (∀ (wc : World) (A2 : Option Addr) (c2 : Nat) (A' : Option Addr) (c' : Nat) (w' : World), Below W.drew.heap.size W.drew wc → foot.Own w' 67 2 A' (pre.length + 1) c' (vs ++ [.int .i64 2, .slice A2 y.length c2]) → Chg (sf A1) (wc.alloc (.cells #[.int .i64 2, .slice A2 y.length c2] 67)) w' → Fresh (wc.alloc (.cells #[.int .i64 2, .slice A2 y.length c2] 67)) (sf A1) (sf A') →
        w'.cell? ⟨w.heap.size, 0, none⟩ = some (.slice A1 pre.length c1) ∧ w'.frozen? ⟨w.heap.size, 0, none⟩ = false) := fun wc A2 c2 A' c' w' h _ hch _ => by
      have h1 := (hbk.below ((hbd.trans h).alloc (hbd.trans h).size _) hbk.lt).chg hch (fun hs => by have := hne _ hs; omega)
      exact ⟨by have := h1.cell 0; simpa using this, h1.free 0⟩
    have HB1 : Hid (pre.length + 1 ≤ maxLen) := by show _ ≤ _; unfold maxLen; omega
    have HB2 : Hid ((pre.length + 1) * 32 ≤ 140737488355328) := by show _ ≤ _; omega
    have Hi := Lib.hid hi
    have Hz0 := Lib.hid hz0
    have Hz1 := Lib.hid hz1
    have Hz2 := Lib.hid hz2
    rw [hyl] at HCl
    clear hi hz0 hz1 hz2 hus hy hyl hwy hbk hne hlst hsr hbig hseq hI0 hcS hcN hs hsrc hw hc hb hlt
    gi_wp2
    refine wpIn_region_any (by assumption) ?_
    change wpAnyIn _ _ _ _ _ _ _ _ _ (World.drew _)
    refine wpAnyIn_ready (rs := [0, 1]) (by kernel_rfl) (by simp) ?_
    refine AllReadyIn.cons rfl (fun K hK => ?_) ?_
    · skip
      go_simp
      refine hK _ _ ?_
      clear hK K
      refine wpAnyIn_ready (rs := [1]) (by kernel_rfl) (by simp) ?_
      refine AllReadyIn.cons rfl (fun K hK => ?_) AllReadyIn.nil
      go_simp
      refine hK _ _ ?_
      clear hK K
      refine wpAnyIn_ready (rs := [2]) (by kernel_rfl) (by simp) ?_
      refine AllReadyIn.cons rfl (fun K hK => ?_) AllReadyIn.nil
      go_simp
      gi_wp2_with (refine ⟨trivial, ?_⟩; gi_at_call 126; refine (CallsIn.inRound l' (callsIn_wide.2 HCl.out)).mono ?_; rintro e wc ⟨A2, c2, rfl, ho2, hlo2, hb2⟩; have HCn := Lib.hid (And.intro ho2 (And.intro hlo2 hb2)); have hcell2 := (hb2.cell (p := ⟨w.heap.size, 0, none⟩) hgW).trans hcell; have hfr2 := HFr.out wc hb2; have hgc : w.heap.size < wc.heap.size := Nat.lt_of_lt_of_le hgW hb2.size; clear ho2 hlo2 hb2)
      refine wpAnyIn_ready (rs := [3]) (by kernel_rfl) (by simp) ?_
      refine AllReadyIn.cons rfl (fun K hK => ?_) AllReadyIn.nil
      go_simp
      refine hK _ _ ?_
      clear hK K
      refine wpAnyIn_ready (rs := [4]) (by kernel_rfl) (by simp) ?_
      refine AllReadyIn.cons rfl (fun K hK => ?_) AllReadyIn.nil
      go_simp
      refine hK _ _ ?_
      clear hK K
      refine wpAnyIn_ready (rs := [5]) (by kernel_rfl) (by simp) ?_
      refine AllReadyIn.cons rfl (fun K hK => ?_) AllReadyIn.nil
      refine stepIn_app rfl (.tmp 8) (.tmp 12) 22 rfl 67 i0 _ 2 32 Tryz.underlying22 Hi.out Hz0.out Hz1.out Hz2.out rfl (by omega) A1 pre.length c1 vs rfl (HOw.out wc HCn.out.2.2 A2 c2) _ (some ⟨wc.heap.size, 0, none⟩) 1 1 (by intro h; cases h) [.int .i64 2, .slice A2 y.length c2] rfl (Rg.new wc 67 2 1 _ rfl) (by simp [Value.oneCell']) HB1.out HB2.out ?_
      intro A' c' w' ho hch hf
      obtain ⟨HE1, HE2, HE3⟩ := HNext.out wc A2 c2 A' c' w' HCn.out.1 HCn.out.2.1 HCn.out.2.2 ho hch hf
      have hcell3 := HCell3.out wc A2 c2 A' c' w' HCn.out.2.2 ho hch hf
      have HE := Lib.hid (And.intro HE1 (And.intro HE2 HE3))
      clear ho hch hf HE1 HE2 HE3
      refine hK _ _ ?_
      clear hK K
      refine wpAnyIn_ready (rs := [6]) (by kernel_rfl) (by simp) ?_
      refine AllReadyIn.cons rfl (fun K hK => ?_) AllReadyIn.nil
      go_simp
      refine hK _ _ ?_
      clear hK K
      refine wpAnyIn_done (by kernel_rfl) ?_ _
      gi_wp2
      exact HE.out
    refine AllReadyIn.cons rfl (fun K hK => ?_) AllReadyIn.nil
    go_simp
    refine hK _ _ ?_
    clear hK K
    refine wpAnyIn_ready (rs := [0, 2]) (by kernel_rfl) (by simp) ?_
    refine AllReadyIn.cons rfl (fun K hK => ?_) ?_
    · skip
      go_simp
      refine hK _ _ ?_
      clear hK K
      refine wpAnyIn_ready (rs := [2]) (by kernel_rfl) (by simp) ?_
      refine AllReadyIn.cons rfl (fun K hK => ?_) AllReadyIn.nil
      go_simp
      gi_wp2_with (refine ⟨trivial, ?_⟩; gi_at_call 126; refine (CallsIn.inRound l' (callsIn_wide.2 HCl.out)).mono ?_; rintro e wc ⟨A2, c2, rfl, ho2, hlo2, hb2⟩; have HCn := Lib.hid (And.intro ho2 (And.intro hlo2 hb2)); have hcell2 := (hb2.cell (p := ⟨w.heap.size, 0, none⟩) hgW).trans hcell; have hfr2 := HFr.out wc hb2; have hgc : w.heap.size < wc.heap.size := Nat.lt_of_lt_of_le hgW hb2.size; clear ho2 hlo2 hb2)
      refine wpAnyIn_ready (rs := [3]) (by kernel_rfl) (by simp) ?_
      refine AllReadyIn.cons rfl (fun K hK => ?_) AllReadyIn.nil
      go_simp
      refine hK _ _ ?_
      clear hK K
      refine wpAnyIn_ready (rs := [4]) (by kernel_rfl) (by simp) ?_
      refine AllReadyIn.cons rfl (fun K hK => ?_) AllReadyIn.nil
      go_simp
      refine hK _ _ ?_
      clear hK K
      refine wpAnyIn_ready (rs := [5]) (by kernel_rfl) (by simp) ?_
      refine AllReadyIn.cons rfl (fun K hK => ?_) AllReadyIn.nil
      refine stepIn_app rfl (.tmp 8) (.tmp 12) 22 rfl 67 i0 _ 2 32 Tryz.underlying22 Hi.out Hz0.out Hz1.out Hz2.out rfl (by omega) A1 pre.length c1 vs rfl (HOw.out wc HCn.out.2.2 A2 c2) _ (some ⟨wc.heap.size, 0, none⟩) 1 1 (by intro h; cases h) [.int .i64 2, .slice A2 y.length c2] rfl (Rg.new wc 67 2 1 _ rfl) (by simp [Value.oneCell']) HB1.out HB2.out ?_
      intro A' c' w' ho hch hf
      obtain ⟨HE1, HE2, HE3⟩ := HNext.out wc A2 c2 A' c' w' HCn.out.1 HCn.out.2.1 HCn.out.2.2 ho hch hf
      have hcell3 := HCell3.out wc A2 c2 A' c' w' HCn.out.2.2 ho hch hf
      have HE := Lib.hid (And.intro HE1 (And.intro HE2 HE3))
      clear ho hch hf HE1 HE2 HE3
      refine hK _ _ ?_
      clear hK K
      refine wpAnyIn_ready (rs := [6]) (by kernel_rfl) (by simp) ?_
      refine AllReadyIn.cons rfl (fun K hK => ?_) AllReadyIn.nil
      go_simp
      refine hK _ _ ?_
      clear hK K
      refine wpAnyIn_done (by kernel_rfl) ?_ _
      gi_wp2
      exact HE.out
    refine AllReadyIn.cons rfl (fun K hK => ?_) AllReadyIn.nil
    go_simp
    gi_wp2_with (refine ⟨trivial, ?_⟩; gi_at_call 126; refine (CallsIn.inRound l' (callsIn_wide.2 HCl.out)).mono ?_; rintro e wc ⟨A2, c2, rfl, ho2, hlo2, hb2⟩; have HCn := Lib.hid (And.intro ho2 (And.intro hlo2 hb2)); have hcell2 := (hb2.cell (p := ⟨w.heap.size, 0, none⟩) hgW).trans hcell; have hfr2 := HFr.out wc hb2; have hgc : w.heap.size < wc.heap.size := Nat.lt_of_lt_of_le hgW hb2.size; clear ho2 hlo2 hb2)
    refine wpAnyIn_ready (rs := [0, 3]) (by kernel_rfl) (by simp) ?_
    refine AllReadyIn.cons rfl (fun K hK => ?_) ?_
    · skip
      go_simp
      refine hK _ _ ?_
      clear hK K
      refine wpAnyIn_ready (rs := [3]) (by kernel_rfl) (by simp) ?_
      refine AllReadyIn.cons rfl (fun K hK => ?_) AllReadyIn.nil
      go_simp
      refine hK _ _ ?_
      clear hK K
      refine wpAnyIn_ready (rs := [4]) (by kernel_rfl) (by simp) ?_
      refine AllReadyIn.cons rfl (fun K hK => ?_) AllReadyIn.nil
      go_simp
      refine hK _ _ ?_
      clear hK K
      refine wpAnyIn_ready (rs := [5]) (by kernel_rfl) (by simp) ?_
      refine AllReadyIn.cons rfl (fun K hK => ?_) AllReadyIn.nil
      refine stepIn_app rfl (.tmp 8) (.tmp 12) 22 rfl 67 i0 _ 2 32 Tryz.underlying22 Hi.out Hz0.out Hz1.out Hz2.out rfl (by omega) A1 pre.length c1 vs rfl (HOw.out wc HCn.out.2.2 A2 c2) _ (some ⟨wc.heap.size, 0, none⟩) 1 1 (by intro h; cases h) [.int .i64 2, .slice A2 y.length c2] rfl (Rg.new wc 67 2 1 _ rfl) (by simp [Value.oneCell']) HB1.out HB2.out ?_
      intro A' c' w' ho hch hf
      obtain ⟨HE1, HE2, HE3⟩ := HNext.out wc A2 c2 A' c' w' HCn.out.1 HCn.out.2.1 HCn.out.2.2 ho hch hf
      have hcell3 := HCell3.out wc A2 c2 A' c' w' HCn.out.2.2 ho hch hf
      have HE := Lib.hid (And.intro HE1 (And.intro HE2 HE3))
      clear ho hch hf HE1 HE2 HE3
      refine hK _ _ ?_
      clear hK K
      refine wpAnyIn_ready (rs := [6]) (by kernel_rfl) (by simp) ?_
      refine AllReadyIn.cons rfl (fun K hK => ?_) AllReadyIn.nil
      go_simp
      refine hK _ _ ?_
      clear hK K
      refine wpAnyIn_done (by kernel_rfl) ?_ _
      gi_wp2
      exact HE.out
    refine AllReadyIn.cons rfl (fun K hK => ?_) AllReadyIn.nil
    go_simp
    refine hK _ _ ?_
    clear hK K
    refine wpAnyIn_ready (rs := [0, 4]) (by kernel_rfl) (by simp) ?_
    refine AllReadyIn.cons rfl (fun K hK => ?_) ?_
    · skip
      go_simp
      refine hK _ _ ?_
      clear hK K
      refine wpAnyIn_ready (rs := [4]) (by kernel_rfl) (by simp) ?_
      refine AllReadyIn.cons rfl (fun K hK => ?_) AllReadyIn.nil
      go_simp
      refine hK _ _ ?_
      clear hK K
      refine wpAnyIn_ready (rs := [5]) (by kernel_rfl) (by simp) ?_
      refine AllReadyIn.cons rfl (fun K hK => ?_) AllReadyIn.nil
      refine stepIn_app rfl (.tmp 8) (.tmp 12) 22 rfl 67 i0 _ 2 32 Tryz.underlying22 Hi.out Hz0.out Hz1.out Hz2.out rfl (by omega) A1 pre.length c1 vs rfl (HOw.out wc HCn.out.2.2 A2 c2) _ (some ⟨wc.heap.size, 0, none⟩) 1 1 (by intro h; cases h) [.int .i64 2, .slice A2 y.length c2] rfl (Rg.new wc 67 2 1 _ rfl) (by simp [Value.oneCell']) HB1.out HB2.out ?_
      intro A' c' w' ho hch hf
      obtain ⟨HE1, HE2, HE3⟩ := HNext.out wc A2 c2 A' c' w' HCn.out.1 HCn.out.2.1 HCn.out.2.2 ho hch hf
      have hcell3 := HCell3.out wc A2 c2 A' c' w' HCn.out.2.2 ho hch hf
      have HE := Lib.hid (And.intro HE1 (And.intro HE2 HE3))
      clear ho hch hf HE1 HE2 HE3
      refine hK _ _ ?_
      clear hK K
      refine wpAnyIn_ready (rs := [6]) (by kernel_rfl) (by simp) ?_
      refine AllReadyIn.cons rfl (fun K hK => ?_) AllReadyIn.nil
      go_simp
      refine hK _ _ ?_
      clear hK K
      refine wpAnyIn_done (by kernel_rfl) ?_ _
      gi_wp2
      exact HE.out
    refine AllReadyIn.cons rfl (fun K hK => ?_) AllReadyIn.nil
    go_simp
    refine hK _ _ ?_
    clear hK K
    refine wpAnyIn_ready (rs := [0]) (by kernel_rfl) (by simp) ?_
    refine AllReadyIn.cons rfl (fun K hK => ?_) AllReadyIn.nil
    go_simp
    refine hK _ _ ?_
    clear hK K
    refine wpAnyIn_ready (rs := [5]) (by kernel_rfl) (by simp) ?_
    refine AllReadyIn.cons rfl (fun K hK => ?_) AllReadyIn.nil
    refine stepIn_app rfl (.tmp 8) (.tmp 12) 22 rfl 67 i0 _ 2 32 Tryz.underlying22 Hi.out Hz0.out Hz1.out Hz2.out rfl (by omega) A1 pre.length c1 vs rfl (HOw.out wc HCn.out.2.2 A2 c2) _ (some ⟨wc.heap.size, 0, none⟩) 1 1 (by intro h; cases h) [.int .i64 2, .slice A2 y.length c2] rfl (Rg.new wc 67 2 1 _ rfl) (by simp [Value.oneCell']) HB1.out HB2.out ?_
    intro A' c' w' ho hch hf
    obtain ⟨HE1, HE2, HE3⟩ := HNext.out wc A2 c2 A' c' w' HCn.out.1 HCn.out.2.1 HCn.out.2.2 ho hch hf
    have hcell3 := HCell3.out wc A2 c2 A' c' w' HCn.out.2.2 ho hch hf
    have HE := Lib.hid (And.intro HE1 (And.intro HE2 HE3))
    clear ho hch hf HE1 HE2 HE3
    refine hK _ _ ?_
    clear hK K
    refine wpAnyIn_ready (rs := [6]) (by kernel_rfl) (by simp) ?_
    refine AllReadyIn.cons rfl (fun K hK => ?_) AllReadyIn.nil
    go_simp
    refine hK _ _ ?_
    clear hK K
    refine wpAnyIn_done (by kernel_rfl) ?_ _
    gi_wp2
    exact HE.out
  case done =>
    rintro D ys W hD ⟨k, hk1, hk2, rfl⟩ hPI hK
    obtain ⟨⟨A1, c1, vs, hbk, hne, hlst⟩, hsr, hbig⟩ := hPI
    have hcell := hbk.cell 0
    simp at hcell
    rw [upto_sgs l k hk1 hk2] at hlst
    have hlen : (upto k).length = (sgs 2 l).length := by rw [← upto_sgs l k hk1 hk2, List.length_map]
    rw [hlen] at hlst hcell
    have HL := Lib.hid hlst
    have HK := Lib.hid hK
    clear hlst hsr
    gi_wp2
    refine ⟨by simp, .inl ⟨_, _, rfl, run_takeDeferred HK.out, ?_⟩⟩
    refine ⟨_, results_tmp rfl _ _ _, A1, c1, vs, rfl, ?_⟩
    have hst : Stay W (W.putObj D (.deferred none)) := stay_row (grownBy_putObj' W D _) (fun r e => by cases e; exact ⟨_, HK.out, rfl⟩)
    have hl := HL.out
    exact ⟨⟨foot.Own.stay hl.acc.own hst, hl.acc.bel.trans (below_grown (grownBy_putObj' W D _) hl.acc.bel.size (fun g e => by cases e; omega)), hl.acc.low⟩, (all_stay hl.all hst).mono keeps_seg (fun k _ h => ⟨h.1.1, h.2⟩), hl.len⟩
  case stop =>
    rintro D c pre W _ _ h _
    exact h.elim
set_option maxRecDepth 100000 in
set_option maxHeartbeats 1000000 in
theorem chunk1_nil (n l Bs Bn : Nat) (J : List Nat → World → Prop) (W : World) (hcs : W.cell? ⟨Bs, 0, none⟩ = some (.slice none 0 0)) (h0 : J [] W) :
    CallsIn Fence.wide n Tryz.prog 159 #[.func (.yield l) #[] #[], .pointer (some ⟨Bs, 0, none⟩), .pointer (some ⟨Bn, 0, none⟩)] W fun e W' => (∃ v, e = .returned v) ∧ J [] W' := by
  refine callsIn_of_wp Tryz.func159 rfl trivial ?_ rfl
  simp only [Tryz.ntmps159, List.size_toArray, List.length_cons, List.length_nil, Nat.reduceAdd, Nat.reduceSub, Array.replicate_succ, Array.replicate_zero, List.push_toArray, List.append_toArray, List.nil_append, List.cons_append]
  gi_wp2
  gi_loopw [4, 5] (fun i _ wr => i = .int .i64 0 ∧ wr = W) (fun _ _ _ => 0)
  case atStart => exact ⟨rfl, rfl⟩
  case round =>
    obtain ⟨rfl, rfl⟩ := hrel
    gi_wp2
    go_end0
    exact ⟨⟨_, rfl⟩, h0⟩
set_option maxRecDepth 100000 in
set_option maxHeartbeats 2000000 in
theorem pieces_nil (w : World) : Calls Tryz.prog 143 #[.slice none 0 0] w (RetP [] w) := by
  refine (callsIn_wide (n := 4)).1 ?_
  have h1 : 1 ≤ 4 := by omega
  have HCh : Hid (∀ w, Calls Tryz.prog 149 #[.slice none 0 0, .int .i64 255] w fun e w' => e = .returned (.func (.func 159) #[] #[.pointer (some ⟨w.heap.size, 0, none⟩), .pointer (some ⟨w.heap.size + 1, 0, none⟩)]) ∧ w' = (w.alloc (.cells #[.slice none 0 0] 24)).alloc (.cells #[.int .i64 255] 3)) := fun w => Chunk_any _ _ _ w
  refine callsIn_of_wp_marks Tryz.func143 rfl trivial ?_ rfl
  simp only [Tryz.ntmps143, List.size_toArray, List.length_cons, List.length_nil, Nat.reduceAdd, Nat.reduceSub, Array.replicate_succ, Array.replicate_zero, List.push_toArray, List.append_toArray, List.nil_append, List.cons_append]
  gi_wp2_with (refine ⟨trivial, ?_⟩; gi_at_call 149; refine (callsIn_wide.2 (HCh.out _)).mono ?_; rintro e w' ⟨rfl, rfl⟩)
  have hz3 : (((w.alloc (Obj.cells #[Value.slice none 0 0] 22)).alloc (Obj.cells #[Value.slice none 0 0] 24)).alloc (Obj.cells #[Value.int IntKind.i64 255] 3)).heap.size = w.heap.size + 3 := by simp
  have hI0 : PI w none [] [] (((w.alloc (Obj.cells #[Value.slice none 0 0] 22)).alloc (Obj.cells #[Value.slice none 0 0] 24)).alloc (Obj.cells #[Value.int IntKind.i64 255] 3)) := by
    have hbb : Below w.heap.size w (((w.alloc (Obj.cells #[Value.slice none 0 0] 22)).alloc (Obj.cells #[Value.slice none 0 0] 24)).alloc (Obj.cells #[Value.int IntKind.i64 255] 3)) := (((Below.refl _ _).alloc (Nat.le_refl _) _).alloc (by simp) _).alloc (by simp; omega) _
    refine ⟨⟨none, 0, [], ?_, (fun k hk => absurd hk (sf_none k)), (Lst.nil w).go keeps_seg hbb⟩, Rg.nil _ _ _ _, by rw [hz3]; exact Nat.le_refl _⟩
    exact ((Bk.new w 22 #[.slice none 0 0]).alloc _).alloc _
  have hcS : (((w.alloc (Obj.cells #[Value.slice none 0 0] 22)).alloc (Obj.cells #[Value.slice none 0 0] 24)).alloc (Obj.cells #[Value.int IntKind.i64 255] 3)).cell? ⟨w.heap.size + 1, 0, none⟩ = some (.slice none 0 0) := by
    have := ((Bk.new (w.alloc (Obj.cells #[Value.slice none 0 0] 22)) 24 #[.slice none 0 0]).alloc (Obj.cells #[Value.int IntKind.i64 255] 3)).cell 0
    simpa using this
  generalize ((w.alloc (Obj.cells #[Value.slice none 0 0] 22)).alloc (Obj.cells #[Value.slice none 0 0] 24)).alloc (Obj.cells #[Value.int IntKind.i64 255] 3) = w3 at *
  have hseq : SeqStopsK Fence.wide 3 Tryz.prog 159 #[.pointer (some ⟨w.heap.size + 1, 0, none⟩), .pointer (some ⟨w.heap.size + 1 + 1, 0, none⟩)] (fun x : Nat => #[Value.slice none 0 0]) (Kp (fun k => k = w.heap.size) (w.heap.size + 3)) (fun ys => ys = []) (fun _ => True) 0 w3 := fun l' J Jx W hW hJ hJx hY h0 =>
    (chunk1_nil 3 l' (w.heap.size + 1) (w.heap.size + 1 + 1) J W ((hW.cell (p := ⟨w.heap.size + 1, 0, none⟩) (show w.heap.size + 1 < _ by omega)).trans hcS) h0).mono fun e W' h => ⟨h.1, .inl ⟨[], rfl, h.2⟩⟩
  refine wpIn_rangeFunc_ownF (F := Fence.wide) (n := 4) rfl h1 (gf := 159) (lb := #[.pointer (some ⟨w.heap.size + 1, 0, none⟩), .pointer (some ⟨w.heap.size + 1 + 1, 0, none⟩)]) rfl trivial enters_chunk hseq kp_t (kp_b (Nat.le_of_eq hz3.symm)) (Below.refl _ _) (fun _ => rfl)
    (PI w none []) (fun _ _ _ => False) (PI.own (by omega)) (fun _ _ _ _ _ hs _ _ => hs) hI0
    (fun x => { tmps := #[.slice none 0 0, undef, .slice none 0 0, .pointer (some ⟨w.heap.size, 0, none⟩), .slice none 0 0, .slice none 0 0, .func (.func 159) #[] #[.pointer (some ⟨w.heap.size + 1, 0, none⟩), .pointer (some ⟨w.heap.size + 1 + 1, 0, none⟩)], .slice none 0 0, undef, undef, undef, undef, undef, undef, undef], defers := [] }) ?assign ?body ?done ?stop
  case assign =>
    intro l' x W K hK
    gi_wp2
    exact hK
  case body =>
    rintro l' pre x W hPI hlt
    exact absurd hlt (by omega)
  case done =>
    rintro D ys W hD rfl hPI hK
    obtain ⟨⟨A1, c1, vs, hbk, hne, hlst⟩, hsr, hbig⟩ := hPI
    have hcell := hbk.cell 0
    simp at hcell
    have HL := Lib.hid hlst
    have HK := Lib.hid hK
    clear hlst hsr
    gi_wp2
    refine ⟨by simp, .inl ⟨_, _, rfl, run_takeDeferred HK.out, ?_⟩⟩
    refine ⟨_, results_tmp rfl _ _ _, A1, c1, vs, rfl, ?_⟩
    have hst : Stay W (W.putObj D (.deferred none)) := stay_row (grownBy_putObj' W D _) (fun r e => by cases e; exact ⟨_, HK.out, rfl⟩)
    have hl := HL.out
    exact ⟨⟨foot.Own.stay hl.acc.own hst, hl.acc.bel.trans (below_grown (grownBy_putObj' W D _) hl.acc.bel.size (fun g e => by cases e; omega)), hl.acc.low⟩, (all_stay hl.all hst).mono keeps_seg (fun k _ h => ⟨h.1.1, h.2⟩), hl.len⟩
  case stop =>
    rintro D c pre W _ _ h _
    exact h.elim
/-- numbers in sequences that are as long as can be -/
theorem pieces_any (A : Option Addr) (c : Nat) (l : List Nat) (w : World) (hl : l.length ≤ 1000000) (hw : W32 l) (h : foot.Own w 23 1 A l.length c (uv l)) :
    Calls Tryz.prog 143 #[.slice A l.length c] w (RetP (sgs 2 l) w) := by
  have hlt := h.lt
  have hcap := h.cap
  have hrg := h.rg
  rcases h.2 with ⟨rfl, h1, rfl⟩ | ⟨g, off, cur, rfl, _⟩
  · have hz : l = [] := List.length_eq_zero_iff.1 h1
    subst hz
    exact pieces_nil w
  · exact pieces_some g off c l w hl hcap hw (hrg.mono fun _ _ _ => trivial) (fun _ => hlt g (by rw [sf_some]))
end Go.Proofs.YtbljhjfaimnieaaGreat.pth

namespace Go.Proofs.YtbljhjfaimnieaaGreat.pth
open Go.Proofs.YtbljhjfaimnieaaGreat.asn
set_option linter.unusedVariables false
/-- a list as a set -/
def setN (l : List Nat) : List Nat := l.foldl putN []
theorem putNs_ok : ∀ (xs l s : List Nat), IsSet l s → IsSet (l ++ xs) (xs.foldl putN s)
  | [], l, s, h => by simpa using h
  | x :: xs, l, s, h => by
    have := putNs_ok xs (l ++ [x]) (putN s x) (putN_ok h x)
    simpa using this
theorem setN_ok (l : List Nat) : IsSet l (setN l) := by have := putNs_ok l [] [] IsSet.nil; simpa [setN] using this
/-- a piece taken up -/
def nstep (st : List Sg × List Nat) (s : Sg) : List Sg × List Nat := if s.1 = 2 then (st.1, st.2 ++ s.2) else if s.1 = 1 ∧ 0 < s.2.length then (st.1 ++ sgs 2 st.2 ++ [(1, setN s.2)], []) else st
def nrun (l : List Sg) : List Sg × List Nat := l.foldl nstep ([], [])
def normS (l : List Sg) : List Sg := (nrun l).1 ++ sgs 2 (nrun l).2
theorem nrun_succ {l : List Sg} {k : Nat} (hk : k < l.length) : nrun (l.take (k + 1)) = nstep (nrun (l.take k)) l[k] := by
  unfold nrun
  rw [List.take_succ_eq_append_getElem hk, List.foldl_append]
  rfl
def nsz (l : List Sg) : Nat := (l.map fun s => 1 + s.2.length).sum
theorem nstep_sz (st : List Sg × List Nat) (s : Sg) : (nstep st s).1.length + (nstep st s).2.length ≤ st.1.length + st.2.length + (1 + s.2.length) := by
  unfold nstep
  split
  · simp; omega
  · split
    · have := sgs_len 2 st.2
      simp; omega
    · omega
theorem nrun_sz : ∀ (l : List Sg) (st : List Sg × List Nat), (l.foldl nstep st).1.length + (l.foldl nstep st).2.length ≤ st.1.length + st.2.length + nsz l
  | [], st => by simp [nsz]
  | s :: l, st => by
    have h1 := nrun_sz l (nstep st s)
    have h2 := nstep_sz st s
    simp only [List.foldl_cons, nsz, List.map_cons, List.sum_cons] at h1 ⊢
    omega
theorem nsz_take (l : List Sg) (k : Nat) : nsz (l.take k) ≤ nsz l := by
  have h : nsz l = nsz (l.take k) + nsz (l.drop k) := by
    unfold nsz
    rw [← List.sum_append, ← List.map_append, List.take_append_drop]
  omega
theorem nsz_at {l : List Sg} {k : Nat} (hk : k < l.length) : nsz (l.take k) + (1 + l[k].2.length) ≤ nsz l := by
  have h1 := nsz_take l (k + 1)
  have h2 : nsz (l.take (k + 1)) = nsz (l.take k) + (1 + l[k].2.length) := by
    unfold nsz
    rw [List.take_succ_eq_append_getElem hk, List.map_append, List.sum_append]
    simp
  omega
theorem nrun_le (l : List Sg) (k : Nat) : (nrun (l.take k)).1.length + (nrun (l.take k)).2.length ≤ nsz (l.take k) := by
  have := nrun_sz (l.take k) ([], [])
  simpa [nrun] using this
end Go.Proofs.YtbljhjfaimnieaaGreat.pth

namespace Go.Proofs.YtbljhjfaimnieaaGreat.pth
open Go.RowKit Go.Proofs.YtbljhjfaimnieaaGreat.kit Go.Proofs.YtbljhjfaimnieaaGreat.mem Go.Proofs.YtbljhjfaimnieaaGreat.foot Go.Proofs.YtbljhjfaimnieaaGreat.nums Go.Proofs.YtbljhjfaimnieaaGreat.asn
set_option linter.unusedVariables false
set_option linter.unusedSimpArgs false
/-- what stands so far: pieces, and a run of numbers apart from them -/
structure NJ (w wr : World) (out : List Sg) (run : List Nat) (Ao : Option Addr) (co : Nat) (vs : List Value) (Ar : Option Addr) (cr : Nat) : Prop where
  lst : Lst 2 rSeg 67 (fun k => w.heap.size ≤ k ∧ ¬ sf Ar k) w wr Ao out.length co vs out
  apart : ∀ k, sf Ao k → ¬ sf Ar k
  rn : foot.Own wr 23 1 Ar run.length cr (uv run)
  low : ∀ k, sf Ar k → w.heap.size ≤ k
  w32 : W32 run
section
variable {w wr w2 w3 : World} {out : List Sg} {run add : List Nat} {Ao A' : Option Addr} {co c' cr : Nat} {vs : List Value} {Ar Ar' : Option Addr}
theorem NJ.go (h : NJ w wr out run Ao co vs Ar cr) (hb : Below wr.heap.size wr w2) : NJ w w2 out run Ao co vs Ar cr :=
  ⟨h.lst.go keeps_seg hb, h.apart, foot.Own.bel h.rn hb, h.low, h.w32⟩
theorem NJ.more (h : NJ w wr out run Ao co vs Ar cr) (ho : foot.Own w2 23 1 Ar' (run.length + add.length) c' (uv run ++ uv add)) (hc : Chg (sf Ar) wr w2) (hf : Fresh wr (sf Ar) (sf Ar')) (hw : W32 add) : NJ w w2 out (run ++ add) Ao co vs Ar' c' := by
  have hlt := foot.Own.lt h.lst.acc.own
  refine ⟨⟨⟨foot.Own.chg h.lst.acc.own hc fun k _ hk => h.apart k hk, h.lst.acc.bel.trans (hc.below h.low h.lst.acc.bel.size), h.lst.acc.low⟩, ?_, h.lst.len⟩, fun k hk he => ?_, by rw [List.length_append, show uv (run ++ add) = uv run ++ uv add from by simp [uv]]; exact ho, fun k hk => ?_, h.w32.app hw⟩
  · have h1 : rAll rSeg wr (fun k => ((w.heap.size ≤ k ∧ ¬ sf Ar k) ∧ ¬ sf Ao k) ∧ ¬ sf Ar' k) vs out := h.lst.all.mono keeps_seg fun k hk hG => ⟨hG, fun hs => by
      rcases hf k hs with e | e
      · exact hG.1.2 e
      · omega⟩
    exact (h1.chg keeps_seg hc fun k _ hG hs => hG.1.1.2 hs).mono keeps_seg fun k _ hG => ⟨⟨hG.1.1.1, hG.2⟩, hG.1.2⟩
  · rcases hf k he with e | e
    · exact h.apart k hk e
    · have := hlt k hk; omega
  · rcases hf k hk with e | e
    · exact h.low k e
    · exact Nat.le_trans h.lst.acc.bel.size e
/-- the pieces alone, apart from their row -/
theorem NJ.outs (h : NJ w wr out run Ao co vs Ar cr) : Lst 2 rSeg 67 (fun k => w.heap.size ≤ k) w wr Ao out.length co vs out := h.lst.wide keeps_seg fun k _ hk => hk.1
end
section
variable {w wr w2 w3 : World} {out ps : List Sg} {Ao A' A1 : Option Addr} {co c' c1 : Nat} {vs vs1 : List Value}
/-- a list handed back, behind those that stand -/
theorem outs_app (h : Lst 2 rSeg 67 (fun k => w.heap.size ≤ k) w wr Ao out.length co vs out) (hr : Lst 2 rSeg 67 (fun k => wr.heap.size ≤ k) wr w2 A1 ps.length c1 vs1 ps)
    (ho : foot.Own w3 67 2 A' (out.length + ps.length) c' (vs ++ vs1)) (hc : Chg (sf Ao) w2 w3) (hf : Fresh w2 (sf Ao) (sf A')) : Lst 2 rSeg 67 (fun k => w.heap.size ≤ k) w w3 A' (out ++ ps).length c' (vs ++ vs1) (out ++ ps) := by
  have hlt := foot.Own.lt h.acc.own
  have := (h.go keeps_seg hr.acc.bel).app keeps_seg (hr.all.mono keeps_seg fun k _ hk => ⟨Nat.le_trans h.acc.bel.size hk.1, fun e => by have := hlt k e; have := hk.1; omega⟩) rfl ho hc hf
  rw [List.length_append]
  exact this
end
end Go.Proofs.YtbljhjfaimnieaaGreat.pth

namespace Go.Proofs.YtbljhjfaimnieaaGreat.pth
open Go.RowKit Go.Proofs.YtbljhjfaimnieaaGreat.kit Go.Proofs.YtbljhjfaimnieaaGreat.mem Go.Proofs.YtbljhjfaimnieaaGreat.foot Go.Proofs.YtbljhjfaimnieaaGreat.nums Go.Proofs.YtbljhjfaimnieaaGreat.asn
set_option linter.unusedVariables false
set_option linter.unusedSimpArgs false
theorem chg_cell {F : Foot} {w w' : World} {g j : Nat} (h : Chg F w w') (hg : g < w.heap.size) (hF : ¬ F g) : w'.cell? ⟨g, j, none⟩ = w.cell? ⟨g, j, none⟩ := by
  simp only [World.cell?, h.block g hg hF]
theorem lt_of_some {w : World} {g j : Nat} {v : Value} (h : w.cell? ⟨g, j, none⟩ = some v) : g < w.heap.size := by
  simp only [World.cell?] at h
  rcases Nat.lt_or_ge g w.heap.size with h1 | h1
  · exact h1
  · rw [Array.getElem?_eq_none h1] at h
    simp at h
theorem NJ.start (w : World) : NJ w w [] [] none 0 [] none 0 :=
  ⟨Lst.nil w, fun k h => absurd h (sf_none k), foot.Own.none_ _ _ _, fun k h => absurd h (sf_none k), fun _ h => by cases h⟩
theorem NJ.of_outs {w wr : World} {out : List Sg} {Ao : Option Addr} {co : Nat} {vs : List Value} (h : Lst 2 rSeg 67 (fun k => w.heap.size ≤ k) w wr Ao out.length co vs out) : NJ w wr out [] Ao co vs none 0 :=
  ⟨h.wide keeps_seg fun k _ hk => ⟨hk, sf_none k⟩, fun k _ e => sf_none k e, foot.Own.none_ _ _ _, fun k h => absurd h (sf_none k), fun _ h => by cases h⟩
theorem rg_two {w : World} {g : Nat} {t : TypeId} {a b : Value} (h : Bk w g t #[a, b]) : Rg w (fun k => k = g) 2 (some ⟨g, 0, none⟩) 1 [a, b] :=
  ⟨rfl, fun _ => ⟨g, 0, rfl, rfl, h.lt, fun j u hu => by rw [h.cell, Nat.zero_add]; simpa using hu⟩⟩
/-- a set's piece, behind those that stand -/
theorem set_app {w w3 w4 w6 : World} {out : List Sg} {t : List Nat} {A3 A5 A6 : Option Addr} {c3 c5 c6 : Nat} {vs : List Value} (h : Lst 2 rSeg 67 (fun k => w.heap.size ≤ k) w w3 A3 out.length c3 vs out) (ho5 : foot.Own w4 23 1 A5 t.length c5 (uv t)) (hlo5 : ∀ k, sf A5 k → w3.heap.size ≤ k) (hb5 : Below w3.heap.size w3 w4) (hw : W32 t)
    (ho : foot.Own w6 67 2 A6 (out.length + 1) c6 (vs ++ [.int .i64 1, .slice A5 t.length c5])) (hc : Chg (sf A3) (w4.alloc (.cells #[.int .i64 1, .slice A5 t.length c5] 67)) w6) (hf : Fresh (w4.alloc (.cells #[.int .i64 1, .slice A5 t.length c5] 67)) (sf A3) (sf A6)) :
    Lst 2 rSeg 67 (fun k => w.heap.size ≤ k) w w6 A6 (out ++ [((1 : Int), t)]).length c6 (vs ++ [.int .i64 1, .slice A5 t.length c5]) (out ++ [((1 : Int), t)]) := by
  have hlt := foot.Own.lt h.acc.own
  have hb : Below w4.heap.size w4 (w4.alloc (.cells #[.int .i64 1, .slice A5 t.length c5] 67)) := (Below.refl _ _).alloc (Nat.le_refl _) _
  have hs := seg_of (G := fun k => w.heap.size ≤ k ∧ ¬ sf A3 k) (k := 1) (by decide) (Rel_own (foot.Own.bel ho5 hb) hw fun k hk => ⟨Nat.le_trans h.acc.bel.size (hlo5 k hk), fun e => by have := hlt k e; have := hlo5 k hk; omega⟩)
  have := ((h.go keeps_seg hb5).go keeps_seg hb).app keeps_seg (rAll.single hs) rfl ho hc hf
  rw [List.length_append]
  exact this
theorem setN_w32 {l : List Nat} (h : W32 l) : W32 (setN l) := h.sub fun x hx => ((setN_ok l).mem x).1 hx
theorem nsz_len : ∀ l : List Sg, l.length ≤ nsz l
  | [] => Nat.le_refl _
  | s :: l => by have := nsz_len l; simp only [nsz, List.map_cons, List.sum_cons, List.length_cons] at this ⊢; omega
set_option maxRecDepth 100000 in
set_option maxHeartbeats 4000000 in
theorem norm_any (A : Option Addr) (c : Nat) (l : List Sg) (G : Foot) (w : World) (hl : nsz l ≤ 1000000) (hs : Els 2 rSeg w G A l) :
    Calls Tryz.prog 125 #[.slice A l.length c] w (RetP (normS l) w) := by
  obtain ⟨i0, hi, hz0, hz1, hz2⟩ := info_parts info_seg
  obtain ⟨j0, hj, hy0, hy1, hy2⟩ := info_parts info_u32
  have Hi := Lib.hid hi
  have Hz0 := Lib.hid hz0
  have Hz1 := Lib.hid hz1
  have Hz2 := Lib.hid hz2
  have Hj := Lib.hid hj
  have Hy0 := Lib.hid hy0
  have Hy1 := Lib.hid hy1
  have Hy2 := Lib.hid hy2
  have HS := Lib.hid hs
  have hll := nsz_len l
  have HQ : Hid (∀ e w', (∃ A' c' vs' ps, ps = normS l ∧ e = .returned (.slice A' ps.length c') ∧ Lst 2 rSeg 67 (fun k => w.heap.size ≤ k) w w' A' ps.length c' vs' ps) → RetP (normS l) w e w') := fun e w' => by
    rintro ⟨A', c', vs', ps, rfl, h1, h2⟩
    exact ⟨A', c', vs', h1, h2⟩
  obtain ⟨Q, hQ⟩ : ∃ Q, Q = RetP (normS l) w := ⟨_, rfl⟩
  rw [← hQ] at HQ ⊢
  clear hi hz0 hz1 hz2 hj hy0 hy1 hy2 hs hQ
  go_enter Tryz.func125, Tryz.ntmps125
  go_wp2_with fail
  go_loopw [3, 4, 9] (fun v3 v4 v9 wr => ∃ (i : Nat) (Ao : Option Addr) (co : Nat) (vs : List Value) (Ar : Option Addr) (cr : Nat), i ≤ l.length ∧ v9 = .int .i64 i ∧ v3 = .slice Ao (nrun (l.take i)).1.length co ∧ v4 = .slice Ar (nrun (l.take i)).2.length cr ∧ NJ w wr (nrun (l.take i)).1 (nrun (l.take i)).2 Ao co vs Ar cr) (fun _ _ v9 _ => l.length - (intOf v9).toNat)
  case atStart => exact ⟨0, none, 0, [], none, 0, by omega, rfl, rfl, rfl, NJ.start w⟩
  case round =>
    obtain ⟨i, Ao, co, vs, Ar, cr, hi, rfl, rfl, rfl, hJ⟩ := hrel
    have HJ := Lib.hid hJ
    have hsz := nrun_le l i
    have hsz2 := nsz_take l i
    by_cases hlt : i < l.length
    · have hn := nsz_at hlt
      have HN := Lib.hid (nrun_succ hlt)
      obtain ⟨b, off, cs, rfl, _, hb, hr, hc⟩ := HS.out.at_ keeps_seg hlt
      obtain ⟨A2, c2, rfl, hkw, hA2, hc2, hm2, hu2, hw2⟩ := seg_at hr
      have q0 := (HJ.out.lst.acc.bel.cell (p := ⟨b, off + i * 2 + 0, none⟩) hb).trans (hc 0 _ rfl)
      have q1 := (HJ.out.lst.acc.bel.cell (p := ⟨b, off + i * 2 + 1, none⟩) hb).trans (hc 1 _ rfl)
      rw [Nat.add_zero] at q0
      have HA2 := Lib.hid (And.intro hA2 (And.intro hc2 (And.intro hm2 hw2)))
      have HU := Lib.hid hu2
      have hi' : (i : Int) < (l.length : Int) := by omega
      clear hc hr hkw hA2 hc2 hm2 hu2 hw2 hJ
      generalize hor : nrun (l.take i) = st at *
      obtain ⟨out, run⟩ := st
      dsimp only at *
      generalize l[i] = s at *
      obtain ⟨kd, ns⟩ := s
      dsimp only at *
      obtain ⟨wa, hwa⟩ : ∃ wa, wa = wr.alloc (.cells #[.int .i64 kd, .slice A2 ns.length c2] 67) := ⟨_, rfl⟩
      have HBx : Hid (Bk wa wr.heap.size 67 #[.int .i64 kd, .slice A2 ns.length c2]) := by rw [hwa]; exact Bk.new wr _ _
      have HJa : Hid (NJ w wa out run Ao co vs Ar cr) := by rw [hwa]; exact HJ.out.go ((Below.refl _ _).alloc (Nat.le_refl _) _)
      have HGo : Hid (∀ k, sf Ao k ∨ sf Ar k → k ≠ wr.heap.size) := fun k hk => by
        rcases hk with hk | hk
        · have := foot.Own.lt HJ.out.lst.acc.own k hk; omega
        · have := foot.Own.lt HJ.out.rn k hk; omega
      have HGl : Hid (wr.heap.size < wa.heap.size) := HBx.out.lt
      go_upto_region 6 with fail
      rw [← hwa]
      have HR := Lib.hid hwa
      have q0 : wa.cell? ⟨wr.heap.size, 0, none⟩ = some (.int .i64 kd) := by have := HBx.out.cell 0; simpa using this
      have q1 : wa.cell? ⟨wr.heap.size, 1, none⟩ = some (.slice A2 ns.length c2) := by have := HBx.out.cell 1; simpa using this
      clear hwa hb
      generalize wr.heap.size = g at *
      by_cases hk2 : kd = 2
      · subst hk2
        have hns : nstep (out, run) (2, ns) = (out, run ++ ns) := by simp [nstep]
        rw [hns] at HN
        have HM : Hid (∀ A' c' w2, foot.Own w2 23 1 A' (run.length + ns.length) c' (uv run ++ uv ns) → Chg (sf Ar) wa w2 → Fresh wa (sf Ar) (sf A') → NJ w w2 out (run ++ ns) Ao co vs A' c') := fun A' c' w2 ho hc hf => HJa.out.more ho hc hf HA2.out.2.2.2
        have HUa : Hid (Us wa G A2 ns) := HU.out.bel HJa.out.lst.acc.bel
        go_wp2_with (at_builtin; refine wpList_app _ rfl (.tmp 17) (.tmp 19) _ rfl 23 j0 _ 1 4 Tryz.underlying24 Hj.out Hy0.out Hy1.out Hy2.out rfl (by omega) Ar run.length cr (uv run) rfl HJa.out.rn _ A2 ns.length c2 HA2.out.1 (uv ns) rfl HUa.out (uv_one ns) (by unfold maxLen; omega) (by omega) ?_; intro A3 c3 w3 ho3 hc3 hf3; have HJ3 := Lib.hid (HM.out A3 c3 w3 ho3 hc3 hf3); clear ho3 hc3 hf3)
        go_roundw
        case rel => exact ⟨i + 1, Ao, co, vs, A3, c3, by omega, by go_num, by rw [HN.out], by rw [HN.out, List.length_append], by rw [HN.out]; exact HJ3.out⟩
        case measure => simp [intOf]; omega
      · have d2 : (kd == 2) = false := by rw [beq_eq_false_iff_ne]; exact hk2
        by_cases hk1 : kd = 1 ∧ 0 < ns.length
        · obtain ⟨rfl, hpos⟩ := hk1
          have hns : nstep (out, run) (1, ns) = (out ++ sgs 2 run ++ [(1, setN ns)], []) := by simp [nstep, hpos]
          rw [hns] at HN
          have dpos : decide ((0 : Int) < (ns.length : Int)) = true := by simp; omega
          have hsl := sgs_len 2 run
          have HJd : Hid (NJ w wa.drew out run Ao co vs Ar cr) := HJa.out.go (Below.refl _ _).drew
          have HPi := Lib.hid (pieces_any Ar cr run wa.drew (by omega) HJd.out.w32 HJd.out.rn)
          have HSe : Hid (∀ w', Below w.heap.size w w' → Calls Tryz.prog 95 #[.slice A2 ns.length c2] w' fun e w2 => RetNums (setN ns) w' e w2) := fun w' hb => by
            refine (Set_any A2 c2 ns G w' (by omega) HA2.out.1 HA2.out.2.1 HA2.out.2.2.1 (Rg.bel HU.out hb)).mono ?_
            rintro e w2 ⟨t, ht, _, hr⟩
            obtain rfl := ht.eq (setN_ok ns)
            exact hr
          have q1 : wa.drew.cell? ⟨g, 1, none⟩ = some (.slice A2 ns.length c2) := q1
          have HGd : Hid (g < wa.drew.heap.size) := HGl.out
          have hpp : (sgs 2 run).length ≤ 1000000 := by omega
          have hso : out.length ≤ 1000000 := by omega
          go_upto_region 9 with fail
          generalize hps : sgs 2 run = ps at *
          clear hps
          go_region_held3 (fun w' => w'.cell? ⟨g, 1, none⟩ = some (.slice A2 ns.length c2)) (first | assumption | exact (by go_simp)) (first
            | (go_at_call 143; refine HPi.out.mono ?_; rintro e w2 ⟨A1, c1, vs1, rfl, hl1⟩; go_must (have HL1 := Lib.hid hl1); go_must (have q2 : w2.cell? ⟨g, 1, none⟩ = some (.slice A2 ns.length c2) := (hl1.acc.bel.cell (p := ⟨g, 1, none⟩) HGd.out).trans q1); go_must (have HL2 := Lib.hid (HJd.out.outs.go keeps_seg hl1.acc.bel)); clear hl1)
            | (refine step_app _ (by rfl) (.tmp 31) (.tmp 33) _ (by rfl) 67 i0 _ 2 32 Tryz.underlying22 Hi.out Hz0.out Hz1.out Hz2.out rfl (by omega) Ao out.length co vs (by rfl) HL2.out.acc.own _ A1 ps.length c1 (foot.Own.nil HL1.out.acc.own) vs1 (by rfl) (foot.Own.rg HL1.out.acc.own) (rAll.one keeps_seg HL1.out.all) (by unfold maxLen; omega) (by omega) ?_; intro A3 c3 w3 ho3 hc3 hf3; go_must (have HL3 := Lib.hid (outs_app HJd.out.outs HL1.out ho3 hc3 hf3)); go_must (have q3 : w3.cell? ⟨g, 1, none⟩ = some (.slice A2 ns.length c2) := (chg_cell hc3 (Nat.lt_of_lt_of_le HGd.out HL1.out.acc.bel.size) fun e => HGo.out g (.inl e) rfl).trans q2); go_must (have hg3 : ¬ sf A3 g := fun e => by rcases hf3 g e with e | e <;> first | exact HGo.out g (.inl e) rfl | (have := lt_of_some q2; omega)); clear ho3 hc3 hf3)
            | (go_at_call 95; refine (HSe.out _ HL3.out.acc.bel).mono ?_; rintro e w4 ⟨A5, c5, rfl, ho5, hlo5, hb5⟩; go_must (have HO5 := Lib.hid (And.intro ho5 (And.intro hlo5 hb5))); go_must (have HL4 := Lib.hid (HL3.out.go keeps_seg hb5)); go_must (have q4 : w4.cell? ⟨g, 1, none⟩ = some (.slice A2 ns.length c2) := (hb5.cell (p := ⟨g, 1, none⟩) (lt_of_some q3)).trans q3); go_must (have q5 : (w4.alloc (.cells #[.int .i64 1, .slice A5 (setN ns).length c5] 67)).cell? ⟨g, 1, none⟩ = some (.slice A2 ns.length c2) := (((Below.refl _ _).alloc (Nat.le_refl _) _).cell (p := ⟨g, 1, none⟩) (lt_of_some q4)).trans q4); clear ho5 hlo5 hb5)
            | ((have HL5 : Hid (Lst 2 rSeg 67 (fun k => w.heap.size ≤ k) w (w4.alloc (.cells #[.int .i64 1, .slice A5 (setN ns).length c5] 67)) A3 (out.length + ps.length) c3 (vs ++ vs1) (out ++ ps)) := by have h := HL4.out.go keeps_seg ((Below.refl _ _).alloc (Nat.le_refl _) (.cells #[.int .i64 1, .slice A5 (setN ns).length c5] 67)); rwa [List.length_append] at h); refine step_app _ (by rfl) (.tmp 34) (.tmp 39) _ (by rfl) 67 i0 _ 2 32 Tryz.underlying22 Hi.out Hz0.out Hz1.out Hz2.out rfl (by omega) A3 (out.length + ps.length) c3 (vs ++ vs1) (by rfl) HL5.out.acc.own _ (some ⟨w4.heap.size, 0, none⟩) 1 1 (by intro h; cases h) [.int .i64 1, .slice A5 (setN ns).length c5] (by rfl) (rg_two (Bk.new w4 _ _)) (by intro u hu; simp at hu; rcases hu with rfl | rfl <;> rfl) (by unfold maxLen; omega) (by omega) ?_; intro A6 c6 w6 ho6 hc6 hf6; go_must (have q6 : w6.cell? ⟨g, 1, none⟩ = some (.slice A2 ns.length c2) := (chg_cell hc6 (lt_of_some q5) hg3).trans q5); go_must (rw [← List.length_append] at ho6); go_must (have HL6 := Lib.hid (set_app HL3.out HO5.out.1 HO5.out.2.1 HO5.out.2.2 (setN_w32 HA2.out.2.2.2) ho6 hc6 hf6)); clear ho6 hc6 hf6))
          go_wp2_with fail
          go_roundw
          case rel => exact ⟨i + 1, A6, c6, _, none, 0, by omega, by go_num, by rw [HN.out]; simp [Nat.add_assoc], by rw [HN.out]; rfl, by rw [HN.out]; exact NJ.of_outs HL6.out⟩
          case measure => simp [intOf]; omega
        · have hns : nstep (out, run) (kd, ns) = (out, run) := by simp only [nstep]; rw [if_neg hk2, if_neg hk1]
          rw [hns] at HN
          by_cases hk3 : kd = 1
          case' pos =>
            subst hk3
            have hz : ns.length = 0 := by
              rcases Nat.eq_zero_or_pos ns.length with h | h
              · exact h
              · exact absurd ⟨rfl, h⟩ hk1
            have dpos : decide ((0 : Int) < (ns.length : Int)) = false := by rw [decide_eq_false_iff_not]; omega
          case' neg =>
            have d1 : (kd == 1) = false := by rw [beq_eq_false_iff_ne]; exact hk3
          all_goals
            go_wp2_with fail
            go_roundw
            case rel => exact ⟨i + 1, Ao, co, vs, Ar, cr, by omega, by go_num, by rw [HN.out], by rw [HN.out], by rw [HN.out]; exact HJa.out⟩
            case measure => simp [intOf]; omega
    · obtain rfl : i = l.length := by omega
      rw [List.take_length] at HJ hsz hsz2 ⊢
      have HNr : Hid (normS l = (nrun l).1 ++ sgs 2 (nrun l).2) := rfl
      have hsl := sgs_len 2 (nrun l).2
      clear hJ
      generalize hor : nrun l = st at *
      obtain ⟨out, run⟩ := st
      dsimp only at *
      have HPi := Lib.hid (pieces_any Ar cr run wr (by omega) HJ.out.w32 HJ.out.rn)
      go_wp2_with (first
        | (go_at_call 143; refine HPi.out.mono ?_; rintro e w2 ⟨A1, c1, vs1, rfl, hl1⟩; have HL1 := Lib.hid hl1; have HL2 := Lib.hid (HJ.out.outs.go keeps_seg hl1.acc.bel); clear hl1)
        | (at_builtin; refine wpList_app _ rfl (.tmp 42) (.tmp 44) _ rfl 67 i0 _ 2 32 Tryz.underlying22 Hi.out Hz0.out Hz1.out Hz2.out rfl (by omega) Ao out.length co vs rfl HL2.out.acc.own _ A1 (sgs 2 run).length c1 (foot.Own.nil HL1.out.acc.own) vs1 rfl (foot.Own.rg HL1.out.acc.own) (rAll.one keeps_seg HL1.out.all) (by unfold maxLen; omega) (by omega) ?_; intro A3 c3 w3 ho3 hc3 hf3; have HL3 := Lib.hid (outs_app HJ.out.outs HL1.out ho3 hc3 hf3); clear ho3 hc3 hf3))
      exact HQ.out _ _ ⟨A3, c3, _, out ++ sgs 2 run, HNr.out.symm, by rw [List.length_append]; rfl, HL3.out⟩
end Go.Proofs.YtbljhjfaimnieaaGreat.pth

namespace Go.Proofs.YtbljhjfaimnieaaGreat.pth
open Go.Proofs.YtbljhjfaimnieaaGreat.asn
set_option linter.unusedVariables false
theorem putNs_len : ∀ (xs s : List Nat), (xs.foldl putN s).length ≤ s.length + xs.length
  | [], s => by simp
  | x :: xs, s => by
    have h1 := putNs_len xs (putN s x)
    have h2 := putN_len s x
    simp only [List.foldl_cons, List.length_cons] at h1 ⊢
    omega
theorem setN_len (l : List Nat) : (setN l).length ≤ l.length := by have := putNs_len l []; simpa [setN] using this
theorem nsz_app (a b : List Sg) : nsz (a ++ b) = nsz a + nsz b := by simp [nsz]
theorem nsz_map (k : Int) : ∀ cs : List (List Nat), nsz (cs.map fun c => (k, c)) = cs.length + cs.flatten.length
  | [] => rfl
  | c :: cs => by
    have ih := nsz_map k cs
    simp only [nsz, List.map_cons, List.sum_cons, List.length_cons, List.flatten_cons, List.length_append] at ih ⊢
    omega
theorem nsz_sgs (k : Int) (l : List Nat) : nsz (sgs k l) ≤ 2 * l.length := by
  unfold sgs
  rw [nsz_map, ck_flat]
  have := ck_len l
  omega
theorem nstep_nsz (st : List Sg × List Nat) (s : Sg) : nsz (nstep st s).1 + 2 * (nstep st s).2.length ≤ nsz st.1 + 2 * st.2.length + 2 * (1 + s.2.length) := by
  unfold nstep
  split
  · simp only [List.length_append]; omega
  · split
    · have h1 := nsz_sgs 2 st.2
      have h2 := setN_len s.2
      have h3 : nsz [((1 : Int), setN s.2)] = 1 + (setN s.2).length := by simp [nsz]
      simp only [nsz_app, h3, List.length_nil]
      omega
    · omega
theorem nrun_nsz : ∀ (l : List Sg) (st : List Sg × List Nat), nsz (l.foldl nstep st).1 + 2 * (l.foldl nstep st).2.length ≤ nsz st.1 + 2 * st.2.length + 2 * nsz l
  | [], st => by simp [nsz]
  | s :: l, st => by
    have h1 := nrun_nsz l (nstep st s)
    have h2 := nstep_nsz st s
    have h3 : nsz (s :: l) = (1 + s.2.length) + nsz l := by simp [nsz]
    rw [h3]
    simp only [List.foldl_cons] at h1 ⊢
    omega
theorem nsz_norm (l : List Sg) : nsz (normS l) ≤ 2 * nsz l := by
  have h1 := nrun_nsz l ([], [])
  have h2 := nsz_sgs 2 (nrun l).2
  have h3 : nsz ([] : List Sg) = 0 := rfl
  unfold normS
  rw [nsz_app]
  unfold nrun at *
  simp only [h3, List.length_nil] at h1
  omega
end Go.Proofs.YtbljhjfaimnieaaGreat.pth

namespace Go.Proofs.YtbljhjfaimnieaaGreat.asn
open Go.RowKit Go.Proofs.YtbljhjfaimnieaaGreat.kit Go.Proofs.YtbljhjfaimnieaaGreat.mem Go.Proofs.YtbljhjfaimnieaaGreat.foot Go.Proofs.YtbljhjfaimnieaaGreat.nums
set_option linter.unusedVariables false
set_option linter.unusedSimpArgs false
/-- a slice of numbers as it is read -/
structure Sn (w : World) (G : Foot) (A : Option Addr) (c : Nat) (l : List Nat) : Prop where
  nil : A = none → c = 0
  cap : l.length ≤ c
  max : c ≤ maxLen
  us : Us w G A l
theorem Sn.bel {w w' : World} {G : Foot} {A : Option Addr} {c : Nat} {l : List Nat} (h : Sn w G A c l) (hb : Below w.heap.size w w') : Sn w' G A c l := ⟨h.nil, h.cap, h.max, Rg.bel h.us hb⟩
theorem Sn.own {w : World} {A : Option Addr} {c : Nat} {l : List Nat} (h : foot.Own w 23 1 A l.length c (uv l)) : Sn w (sf A) A c l := ⟨h.nil, h.cap, h.max, h.rg⟩
theorem Sn.empty (w : World) (G : Foot) : Sn w G none 0 [] := ⟨fun _ => rfl, Nat.le_refl _, Nat.zero_le _, Rg.nil _ _ _ _⟩
theorem Sn.at_ {w : World} {G : Foot} {A : Option Addr} {c : Nat} {l : List Nat} (h : Sn w G A c l) {i : Nat} (hi : i < l.length) : ∃ b off, A = some ⟨b, off, none⟩ ∧ b < w.heap.size ∧ w.cell? ⟨b, off + i, none⟩ = some (.int .u32 (l[i] : Int)) := by
  obtain ⟨b, off, h1, _, h2, h3⟩ := h.us.at_ hi
  exact ⟨b, off, h1, h2, h3⟩
/-- the variable in block ob holds a slice of these -/
structure OutN (B ob : Nat) (w : World) (xs : List Nat) : Prop where
  ex : ∃ A c, Bk w ob 24 #[.slice A xs.length c] ∧ foot.Own w 23 1 A xs.length c (uv xs) ∧ ∀ x, sf A x → B ≤ x ∧ x ≠ ob
  lo : B ≤ ob
theorem OutN.start (w : World) (B : Nat) (hB : B ≤ w.heap.size) : OutN B w.heap.size (w.alloc (.cells #[.slice none 0 0] 24)) [] :=
  ⟨⟨none, 0, Bk.new w _ _, foot.Own.none_ _ _ _, fun x hx => absurd hx (sf_none x)⟩, hB⟩
theorem OutN.bel {B ob : Nat} {w w' : World} {xs : List Nat} (h : OutN B ob w xs) (hb : Below w.heap.size w w') : OutN B ob w' xs := by
  obtain ⟨⟨A, c, h1, h2, h3⟩, h4⟩ := h
  exact ⟨⟨A, c, h1.below hb h1.lt, h2.bel hb, h3⟩, h4⟩
theorem OutN.next {B ob : Nat} {w w0 w2 : World} {xs : List Nat} {n : Nat} {A A2 : Option Addr} {c c2 : Nat} (h1 : Bk w ob 24 #[.slice A xs.length c]) (h3 : ∀ x, sf A x → B ≤ x ∧ x ≠ ob) (h4 : B ≤ ob) (hB : B ≤ w.heap.size) (hb : Below w.heap.size w w0)
    (ho : foot.Own w2 23 1 A2 (xs.length + 1) c2 (uv xs ++ [.int .u32 (n : Int)])) (hc : Chg (sf A) w0 w2) (hf : Fresh w0 (sf A) (sf A2)) :
    Bk w2 ob 24 #[.slice A xs.length c] ∧ OutN B ob (w2.setCell ⟨ob, 0, none⟩ (.slice A2 (xs.length + 1) c2)) (xs ++ [n]) ∧ Below B w (w2.setCell ⟨ob, 0, none⟩ (.slice A2 (xs.length + 1) c2)) := by
  have hk2 : Bk w2 ob 24 #[.slice A xs.length c] := (h1.below hb h1.lt).chg hc fun e => (h3 ob e).2 rfl
  have hsz := hb.size
  have hA2 : ∀ x, sf A2 x → B ≤ x ∧ x ≠ ob := fun x hx => by
    rcases hf x hx with e | e
    · exact h3 x e
    · have := h1.lt; exact ⟨by omega, by omega⟩
  have hcc : Chg (fun x => x = ob) w2 (w2.setCell ⟨ob, 0, none⟩ (.slice A2 (xs.length + 1) c2)) := (Chg.refl (fun x => x = ob) w2).put (p := ⟨ob, 0, none⟩) (.inl rfl) _
  refine ⟨hk2, ⟨⟨A2, c2, ?_, ?_, hA2⟩, h4⟩, ?_⟩
  · rw [List.length_append]; exact hk2.put 0 (.slice A2 (xs.length + 1) c2)
  · rw [uv_app, List.length_append]; exact ho.chg hcc fun x _ hx e => (hA2 x hx).2 e
  · exact (((Chg.of_below hb (fun x => B ≤ x)).trans hc fun x _ hx => (h3 x hx).1).trans hcc fun x _ e => by rw [e]; exact h4).below (fun x hx => hx) hB
end Go.Proofs.YtbljhjfaimnieaaGreat.asn

namespace Go.Proofs.YtbljhjfaimnieaaGreat.pth
open Go.RowKit Go.Proofs.YtbljhjfaimnieaaGreat.kit Go.Proofs.YtbljhjfaimnieaaGreat.mem Go.Proofs.YtbljhjfaimnieaaGreat.foot Go.Proofs.YtbljhjfaimnieaaGreat.nums Go.Proofs.YtbljhjfaimnieaaGreat.asn
set_option linter.unusedVariables false
set_option linter.unusedSimpArgs false
theorem Norm_any (A : Option Addr) (c : Nat) (l : List Sg) (G : Foot) (w : World) (hl : nsz l ≤ 1000000) (hs : Els 2 rSeg w G A l) :
    Calls Tryz.prog 94 #[.slice A l.length c] w (RetP (normS l) w) := by
  have HA := Lib.hid (norm_any A c l G w hl hs)
  have HF : Hid (∀ e w', RetP (normS l) w e w' → ∃ A n c, e = .returned (.slice A n c)) := fun e w' => by
    rintro ⟨A, c, vs, rfl, _⟩
    exact ⟨A, _, c, rfl⟩
  obtain ⟨Q, hQ⟩ : ∃ Q, Q = RetP (normS l) w := ⟨_, rfl⟩
  rw [← hQ] at HA HF ⊢
  clear hQ hs hl
  go_enter Tryz.func94, Tryz.ntmps94
  go_wp2_with (go_at_call 125; refine HA.out.mono ?_; rintro e w' hp; go_must (obtain ⟨A', n, c', rfl⟩ := HF.out e w' hp); have HP := Lib.hid hp; clear hp)
  exact HP.out
set_option maxRecDepth 100000 in
/-- two pieces compared -/
theorem same1_any (k1 k2 : Int) (A B : Option Addr) (c d : Nat) (l r : List Nat) (G H : Foot) (w : World) (hl : l.length ≤ 1000000) (hr : r.length ≤ 1000000) (h1 : Us w G A l) (h2 : Us w H B r) :
    Calls Tryz.prog 146 #[.agg #[.int .i64 k1, .slice A l.length c], .agg #[.int .i64 k2, .slice B r.length d]] w fun e w' => e = .returned (.bool (decide ((k1, l) = (k2, r)))) ∧ Below w.heap.size w w' := by
  have HE : Hid (∀ w', Below w.heap.size w w' → Calls Tryz.prog 101 #[.slice A l.length c, .slice B r.length d] w' fun e w2 => e = .returned (.bool (decide (l = r))) ∧ Below w'.heap.size w' w2) := fun w' hb => by
    refine (Equal_any A B c d l r G H w' (by omega) (by omega) (Rg.bel h1 hb) (Rg.bel h2 hb)).mono ?_
    rintro e w2 ⟨rfl, q, rfl⟩
    exact ⟨rfl, ⟨rfl, rfl, rfl, Nat.le_refl _, fun _ _ => rfl⟩⟩
  have hb0 : Below w.heap.size w ((w.alloc (.cells #[.int .i64 k1, .slice A l.length c] 67)).alloc (.cells #[.int .i64 k2, .slice B r.length d] 67)) := ((Below.refl _ _).alloc (Nat.le_refl _) _).alloc (by simp) _
  have HB0 := Lib.hid hb0
  have HC := Lib.hid (HE.out _ hb0)
  have HD : Hid (∀ b, b = (decide (k1 = k2) && decide (l = r)) → decide ((k1, l) = (k2, r)) = b) := fun b hb => by rw [hb]; simp
  clear hl hr h1 h2 hb0 HE
  by_cases hk : k1 = k2
  · subst hk
    have d1 : (k1 == k1) = true := by simp
    go_enter Tryz.func146, Tryz.ntmps146
    go_wp2_with (go_at_call 101; refine HC.out.mono ?_; rintro e w2 ⟨rfl, hb⟩; have HB := Lib.hid hb; clear hb)
    go_ret
    exact ⟨by rw [HD.out _ rfl]; simp, HB0.out.trans (HB.out.mono HB0.out.size)⟩
  · have d1 : (k1 == k2) = false := by rw [beq_eq_false_iff_ne]; exact hk
    go_enter Tryz.func146, Tryz.ntmps146
    go_wp2_with fail
    go_ret
    exact ⟨by rw [HD.out _ rfl]; simp [hk], HB0.out⟩
set_option maxRecDepth 100000 in
set_option maxHeartbeats 2000000 in
theorem equalF_any (A B : Option Addr) (c d : Nat) (l r : List Sg) (G H : Foot) (w : World) (hl : nsz l ≤ 1000000) (hr : nsz r ≤ 1000000) (h1 : Els 2 rSeg w G A l) (h2 : Els 2 rSeg w H B r) :
    Calls Tryz.prog 145 #[.slice A l.length c, .slice B r.length d, .func (.func 146) #[] #[]] w fun e w' => e = .returned (.bool (decide (l = r))) ∧ Below w.heap.size w w' := by
  have H1 := Lib.hid h1
  have H2 := Lib.hid h2
  have hll := nsz_len l
  obtain ⟨z, hz⟩ : ∃ z, z = decide (l = r) := ⟨_, rfl⟩
  have HZ := Lib.hid hz
  rw [← hz]
  clear h1 h2 hz
  by_cases hlen : l.length = r.length
  · have HEq : Hid (∀ i, (∀ j, j < i → l[j]? = r[j]?) → i = l.length → z = true) := fun i h e => by
      rw [HZ.out, decide_eq_true_iff]
      subst e
      refine List.ext_getElem? fun j => ?_
      rcases Nat.lt_or_ge j l.length with hj | hj
      · exact h j hj
      · rw [List.getElem?_eq_none hj, List.getElem?_eq_none (by omega)]
    have HNe : Hid (∀ i (hi : i < l.length) (hi2 : i < r.length), l[i] ≠ r[i] → z = false) := fun i hi hi2 hne => by
      rw [HZ.out, decide_eq_false_iff_not]
      intro e; subst e; exact hne rfl
    clear HZ
    go_enter Tryz.func145, Tryz.ntmps145
    rw [← hlen]
    have HLen := Lib.hid hlen
    clear hlen
    go_wp2_with fail
    go_loopw [17] (fun v17 wr => ∃ i : Nat, i ≤ l.length ∧ v17 = .int .i64 i ∧ (∀ j, j < i → l[j]? = r[j]?) ∧ Below w.heap.size w wr) (fun v17 _ => l.length - (intOf v17).toNat)
    case atStart => exact ⟨0, by omega, rfl, fun j h => by omega, Below.refl _ _⟩
    case round =>
      obtain ⟨i, hi, rfl, hE, hb⟩ := hrel
      have HE := Lib.hid hE
      have HB := Lib.hid hb
      clear hE hb
      by_cases hlt : i < l.length
      · have hlt2 : i < r.length := by have := HLen.out; omega
        have hn1 := nsz_at hlt
        have hn2 := nsz_at hlt2
        obtain ⟨b, off, cs, rfl, _, hbl, hrr, hc⟩ := H1.out.at_ keeps_seg hlt
        obtain ⟨A1, c1, rfl, _, _, _, _, hu1, _⟩ := seg_at hrr
        obtain ⟨b2, off2, cs2, rfl, _, hbl2, hrr2, hc2⟩ := H2.out.at_ keeps_seg hlt2
        obtain ⟨A2, c2, rfl, _, _, _, _, hu2, _⟩ := seg_at hrr2
        have q0 := (HB.out.cell (p := ⟨b, off + i * 2 + 0, none⟩) hbl).trans (hc 0 _ rfl)
        have q1 := (HB.out.cell (p := ⟨b, off + i * 2 + 1, none⟩) hbl).trans (hc 1 _ rfl)
        have r0 := (HB.out.cell (p := ⟨b2, off2 + i * 2 + 0, none⟩) hbl2).trans (hc2 0 _ rfl)
        have r1 := (HB.out.cell (p := ⟨b2, off2 + i * 2 + 1, none⟩) hbl2).trans (hc2 1 _ rfl)
        have hbw := HB.out.alloc HB.out.size (.cells #[.int .i64 l[i].1, .slice A1 l[i].2.length c1] 67)
        have t0 := (hbw.cell (p := ⟨b2, off2 + i * 2 + 0, none⟩) hbl2).trans (hc2 0 _ rfl)
        have t1 := (hbw.cell (p := ⟨b2, off2 + i * 2 + 1, none⟩) hbl2).trans (hc2 1 _ rfl)
        rw [Nat.add_zero] at q0 r0 t0
        clear hbw
        have HSa : Hid (∀ w', Below w.heap.size w w' → Calls Tryz.prog 146 #[.agg #[.int .i64 l[i].1, .slice A1 l[i].2.length c1], .agg #[.int .i64 r[i].1, .slice A2 r[i].2.length c2]] w' fun e w2 => e = .returned (.bool (decide (l[i] = r[i]))) ∧ Below w'.heap.size w' w2) := fun w' hb => same1_any l[i].1 r[i].1 A1 A2 c1 c2 l[i].2 r[i].2 G H w' (by omega) (by omega) (Rg.bel hu1 hb) (Rg.bel hu2 hb)
        have hi1 : (i : Int) < (l.length : Int) := by omega
        have HBa : Hid (Below w.heap.size w ((wr.alloc (.cells #[.int .i64 l[i].1, .slice A1 l[i].2.length c1] 67)).alloc (.cells #[.int .i64 r[i].1, .slice A2 r[i].2.length c2] 67))) := (HB.out.alloc HB.out.size _).alloc (Nat.le_trans HB.out.size (by simp)) _
        have HCa := Lib.hid (HSa.out _ HBa.out)
        by_cases hs : l[i] = r[i]
        case' pos =>
          rw [decide_eq_true hs] at HCa
          have HE2 : Hid (∀ j, j < i + 1 → l[j]? = r[j]?) := fun j hj => by
            by_cases e : j = i
            · subst e; rw [List.getElem?_eq_getElem hlt, List.getElem?_eq_getElem hlt2, hs]
            · exact HE.out j (by omega)
        case' neg =>
          rw [decide_eq_false hs] at HCa
          have HZf := Lib.hid (HNe.out i hlt hlt2 hs)
        all_goals
          clear HSa hc hrr hc2 hrr2 hu1 hu2 hbl hbl2 hs
          generalize l[i].1 = k1 at *
          generalize r[i].1 = k2 at *
          generalize l[i].2.length = n1 at *
          generalize r[i].2.length = n2 at *
          go_wp2_with (go_at_call 146; refine HCa.out.mono ?_; rintro e w2 ⟨rfl, hb⟩; have HB2 := Lib.hid (HBa.out.trans (hb.mono HBa.out.size)); clear hb)
        · go_ret
          exact ⟨by rw [HZf.out]; rfl, HB2.out⟩
        · go_roundw
          case rel => exact ⟨i + 1, by omega, by go_num, HE2.out, HB2.out⟩
          case measure => simp [intOf]; omega
      · have HZt := Lib.hid (HEq.out i HE.out (by omega))
        obtain rfl : i = l.length := by omega
        go_wp2_with fail
        go_ret
        exact ⟨by rw [HZt.out]; rfl, HB.out⟩
  · have HZf : Hid (z = false) := by
      rw [Hid, HZ.out, decide_eq_false_iff_not]
      intro e; subst e; exact hlen rfl
    have d1 : ((l.length : Int) == (r.length : Int)) = false := by rw [beq_eq_false_iff_ne]; omega
    have d2 : ((l.length : Int) != (r.length : Int)) = true := by simp; omega
    clear HZ
    go_enter Tryz.func145, Tryz.ntmps145
    go_wp2_with fail
    go_ret
    exact ⟨by rw [HZf.out]; rfl, Below.refl _ _⟩
theorem same_any (A B : Option Addr) (c d : Nat) (l r : List Sg) (G H : Foot) (w : World) (hl : nsz l ≤ 1000000) (hr : nsz r ≤ 1000000) (h1 : Els 2 rSeg w G A l) (h2 : Els 2 rSeg w H B r) :
    Calls Tryz.prog 130 #[.slice A l.length c, .slice B r.length d] w fun e w' => e = .returned (.bool (decide (l = r))) ∧ Below w.heap.size w w' := by
  have HA := Lib.hid (equalF_any A B c d l r G H w hl hr h1 h2)
  clear hl hr h1 h2
  go_enter Tryz.func130, Tryz.ntmps130
  go_wp2_with fail
  refine HA.out.mono ?_; rintro e w' ⟨rfl, hb⟩
  have HB := Lib.hid hb
  clear hb
  go_wp2_with fail
  first | exact ⟨rfl, HB.out⟩ | (go_ret; exact ⟨rfl, HB.out⟩)
end Go.Proofs.YtbljhjfaimnieaaGreat.pth

namespace Go.Proofs.YtbljhjfaimnieaaGreat.pth
open Go.RowKit Go.Proofs.YtbljhjfaimnieaaGreat.kit Go.Proofs.YtbljhjfaimnieaaGreat.mem Go.Proofs.YtbljhjfaimnieaaGreat.foot Go.Proofs.YtbljhjfaimnieaaGreat.nums Go.Proofs.YtbljhjfaimnieaaGreat.asn
set_option linter.unusedVariables false
set_option linter.unusedSimpArgs false
/-- a path as it may be sent -/
def GoodS (l : List Sg) : Prop := (∀ s ∈ l, 1 ≤ s.2.length ∧ s.2.length ≤ 255) ∧ l.length ≤ 100 ∧ normS l = l
set_option maxRecDepth 100000 in
set_option maxHeartbeats 2000000 in
theorem good_any (A : Option Addr) (c : Nat) (l : List Sg) (G : Foot) (w : World) (z : Bool) (hz : z = true ↔ GoodS l) (hl : nsz l ≤ 100000) (hs : Els 2 rSeg w G A l) :
    Calls Tryz.prog 147 #[.slice A l.length c] w fun e w' => e = .returned (.bool z) ∧ Below w.heap.size w w' := by
  have HS := Lib.hid hs
  have HZ := Lib.hid hz
  have hll := nsz_len l
  have HN : Hid (∀ w', Below w.heap.size w w' → Calls Tryz.prog 125 #[.slice A l.length c] w' (RetP (normS l) w')) := fun w' hb => norm_any A c l G w' (by omega) (hs.bel keeps_seg hb)
  have HSm : Hid (∀ w1 w2 A1 c1 vs, Below w.heap.size w w1 → Lst 2 rSeg 67 (fun k => w1.heap.size ≤ k) w1 w2 A1 (normS l).length c1 vs (normS l) → Calls Tryz.prog 130 #[.slice A1 (normS l).length c1, .slice A l.length c] w2 fun e w' => e = .returned (.bool (decide (normS l = l))) ∧ Below w2.heap.size w2 w') := fun w1 w2 A1 c1 vs hb hL => by
    have := nsz_norm l
    exact same_any A1 A c1 c (normS l) l _ G w2 (by omega) (by omega) (hL.els keeps_seg) (hs.bel keeps_seg (hb.trans (hL.acc.bel.mono hb.size)))
  clear hs hz
  go_enter Tryz.func147, Tryz.ntmps147
  go_wp2_with fail
  go_loopw [7] (fun v7 wr => ∃ i : Nat, i ≤ l.length ∧ v7 = .int .i64 i ∧ (∀ s ∈ l.take i, 1 ≤ s.2.length ∧ s.2.length ≤ 255) ∧ Below w.heap.size w wr) (fun v7 _ => l.length - (intOf v7).toNat)
  case atStart => exact ⟨0, by omega, rfl, fun s h => by simp at h, Below.refl _ _⟩
  case round =>
    obtain ⟨i, hi, rfl, hE, hb⟩ := hrel
    have HE := Lib.hid hE
    have HB := Lib.hid hb
    clear hE hb
    by_cases hlt : i < l.length
    · obtain ⟨b, off, cs, rfl, _, hbl, hrr, hc⟩ := HS.out.at_ keeps_seg hlt
      obtain ⟨A1, c1, rfl, _, _, _, _, _, _⟩ := seg_at hrr
      have q0 := (HB.out.cell (p := ⟨b, off + i * 2 + 0, none⟩) hbl).trans (hc 0 _ rfl)
      have q1 := (HB.out.cell (p := ⟨b, off + i * 2 + 1, none⟩) hbl).trans (hc 1 _ rfl)
      rw [Nat.add_zero] at q0
      have hi1 : (i : Int) < (l.length : Int) := by omega
      have HBa : Hid (Below w.heap.size w (wr.alloc (.cells #[.int .i64 l[i].1, .slice A1 l[i].2.length c1] 67))) := HB.out.alloc HB.out.size _
      have hw : l[i].2.length < 1 ∨ (¬ l[i].2.length < 1 ∧ 255 < l[i].2.length) ∨ (¬ l[i].2.length < 1 ∧ ¬ 255 < l[i].2.length) := by omega
      have HBad : Hid (¬ (1 ≤ l[i].2.length ∧ l[i].2.length ≤ 255) → z = false) := fun h => by
        rw [← Bool.not_eq_true, HZ.out]
        intro hg
        exact h (hg.1 _ (List.getElem_mem hlt))
      have HGo : Hid (1 ≤ l[i].2.length ∧ l[i].2.length ≤ 255 → ∀ s ∈ l.take (i + 1), 1 ≤ s.2.length ∧ s.2.length ≤ 255) := fun h s hs => by
        rw [List.take_succ_eq_append_getElem hlt] at hs
        rcases List.mem_append.1 hs with hs | hs
        · exact HE.out s hs
        · simp only [List.mem_singleton] at hs; rw [hs]; exact h
      clear hc hrr hbl
      generalize l[i].1 = k1 at *
      generalize l[i].2.length = n1 at *
      rcases hw with h1 | ⟨h1, h2⟩ | ⟨h1, h2⟩
      · have d1 : decide ((n1 : Int) < 1) = true := by rw [decide_eq_true_iff]; omega
        have HZf := Lib.hid (HBad.out (by omega))
        go_wp2_with fail
        go_ret
        exact ⟨by rw [HZf.out]; rfl, HBa.out⟩
      · have d1 : decide ((n1 : Int) < 1) = false := by rw [decide_eq_false_iff_not]; omega
        have d2 : decide ((255 : Int) < (n1 : Int)) = true := by rw [decide_eq_true_iff]; omega
        have HZf := Lib.hid (HBad.out (by omega))
        go_wp2_with fail
        go_ret
        exact ⟨by rw [HZf.out]; rfl, HBa.out⟩
      · have d1 : decide ((n1 : Int) < 1) = false := by rw [decide_eq_false_iff_not]; omega
        have d2 : decide ((255 : Int) < (n1 : Int)) = false := by rw [decide_eq_false_iff_not]; omega
        have HGd := Lib.hid (HGo.out (by omega))
        go_wp2_with fail
        go_roundw
        case rel => exact ⟨i + 1, by omega, by go_num, HGd.out, HBa.out⟩
        case measure => simp [intOf]; omega
    · obtain rfl : i = l.length := by omega
      have HA : Hid (∀ s ∈ l, 1 ≤ s.2.length ∧ s.2.length ≤ 255) := fun s hs => HE.out s (by rw [List.take_length]; exact hs)
      have HNb := Lib.hid (HN.out _ HB.out)
      by_cases h100 : l.length ≤ 100
      · have d1 : decide ((l.length : Int) ≤ 100) = true := by rw [decide_eq_true_iff]; omega
        have HZt : Hid (z = decide (normS l = l)) := by
          rw [Hid, Bool.eq_iff_iff, HZ.out, decide_eq_true_iff]
          exact ⟨fun h => h.2.2, fun h => ⟨HA.out, h100, h⟩⟩
        go_wp2_with (first
          | (go_at_call 125; refine HNb.out.mono ?_; rintro e w2 ⟨A1, c1, vs, rfl, hL⟩; have HSx := Lib.hid (HSm.out _ _ _ _ _ HB.out hL); have HB2 := Lib.hid (HB.out.trans (hL.acc.bel.mono HB.out.size)); clear hL)
          | (go_at_call 130; refine HSx.out.mono ?_; rintro e w3 ⟨rfl, hb3⟩; have HB3 := Lib.hid (HB2.out.trans (hb3.mono HB2.out.size)); clear hb3))
        go_ret
        exact ⟨by rw [HZt.out]; simp, HB3.out⟩
      · have d1 : decide ((l.length : Int) ≤ 100) = false := by rw [decide_eq_false_iff_not]; omega
        have HZf : Hid (z = false) := by
          rw [Hid, ← Bool.not_eq_true, HZ.out]
          intro h
          exact h100 h.2.1
        go_wp2_with fail
        go_ret
        exact ⟨by rw [HZf.out]; simp, HB.out⟩
theorem Good_any (A : Option Addr) (c : Nat) (l : List Sg) (G : Foot) (w : World) (z : Bool) (hz : z = true ↔ GoodS l) (hl : nsz l ≤ 100000) (hs : Els 2 rSeg w G A l) :
    Calls Tryz.prog 131 #[.slice A l.length c] w fun e w' => e = .returned (.bool z) ∧ Below w.heap.size w w' := by
  have HA := Lib.hid (good_any A c l G w z hz hl hs)
  clear hz hl hs
  go_enter Tryz.func131, Tryz.ntmps131
  go_wp2_with fail
  refine HA.out.mono ?_; rintro e w' ⟨rfl, hb⟩
  have HB := Lib.hid hb
  clear hb
  go_wp2_with fail
  first | exact ⟨rfl, HB.out⟩ | (go_ret; exact ⟨rfl, HB.out⟩)
theorem Same_any (A B : Option Addr) (c d : Nat) (l r : List Sg) (G H : Foot) (w : World) (hl : nsz l ≤ 1000000) (hr : nsz r ≤ 1000000) (h1 : Els 2 rSeg w G A l) (h2 : Els 2 rSeg w H B r) :
    Calls Tryz.prog 100 #[.slice A l.length c, .slice B r.length d] w fun e w' => e = .returned (.bool (decide (l = r))) ∧ Below w.heap.size w w' := by
  have HA := Lib.hid (same_any A B c d l r G H w hl hr h1 h2)
  clear hl hr h1 h2
  go_enter Tryz.func100, Tryz.ntmps100
  go_wp2_with fail
  refine HA.out.mono ?_; rintro e w' ⟨rfl, hb⟩
  have HB := Lib.hid hb
  clear hb
  go_wp2_with fail
  first | exact ⟨rfl, HB.out⟩ | (go_ret; exact ⟨rfl, HB.out⟩)
end Go.Proofs.YtbljhjfaimnieaaGreat.pth

namespace Go.Proofs.YtbljhjfaimnieaaGreat.pth
open Go.RowKit Go.Proofs.YtbljhjfaimnieaaGreat.kit Go.Proofs.YtbljhjfaimnieaaGreat.mem Go.Proofs.YtbljhjfaimnieaaGreat.foot Go.Proofs.YtbljhjfaimnieaaGreat.nums Go.Proofs.YtbljhjfaimnieaaGreat.asn
set_option linter.unusedVariables false
set_option linter.unusedSimpArgs false
theorem allP_take {l : List Sg} {i : Nat} (h : i < l.length) : allP (l.take (i + 1)) = allP (l.take i) ++ l[i].2 := by
  unfold allP
  rw [List.take_succ_eq_append_getElem h, List.flatMap_append]
  simp
theorem allP_sz : ∀ l : List Sg, (allP l).length ≤ nsz l
  | [] => by simp [allP, nsz]
  | s :: l => by
    have ih := allP_sz l
    simp only [allP, nsz, List.flatMap_cons, List.map_cons, List.sum_cons, List.length_append] at ih ⊢
    omega
end Go.Proofs.YtbljhjfaimnieaaGreat.pth
