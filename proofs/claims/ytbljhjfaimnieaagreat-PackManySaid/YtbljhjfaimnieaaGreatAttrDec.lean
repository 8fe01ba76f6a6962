/- What attr.pieces and attr.Path return. Condition: at most 10^5 bytes. The plain law of one attribute's bytes; what (attr.one).long, .flagged and attr.notice return. What attr.next returns. Condition: at most 10^5 bytes. What (attr.one).lay does, all types but the communities. Conditions: a value as long as its type asks, of at most 10^5 bytes. What (attr.one).lay does with communities. Condition: whole numbers, at most 10^5 bytes; none were there. The plain law of laying an attribute; what attr.wrong does. The plain law of attr.Decode. What attr.Decode does: the memory of its loop. What confluenceref08.Path and numbers return. Condition: at most 10^5 bytes. -/
import Derived.Test.YtbljhjfaimnieaaGreatAttrCode
import Derived.Test.YtbljhjfaimnieaaGreatOctRef
import Derived.Deep.RegionHeld3
namespace Go.Proofs.YtbljhjfaimnieaaGreat.attr
open Go.RowKit Go.Proofs.YtbljhjfaimnieaaGreat.kit Go.Proofs.YtbljhjfaimnieaaGreat.mem Go.Proofs.YtbljhjfaimnieaaGreat.foot Go.Proofs.YtbljhjfaimnieaaGreat.nums Go.Proofs.YtbljhjfaimnieaaGreat.asn Go.Proofs.YtbljhjfaimnieaaGreat.pth Go.Proofs.YtbljhjfaimnieaaGreat.octet
set_option linter.unusedVariables false
set_option linter.unusedSimpArgs false
/-- numbers of four bytes each -/
def nums4 : List UInt8 → List Nat
  | a :: b :: c :: d :: t => num [a, b, c, d] :: nums4 t
  | _ => []
/-- the first piece of a path's bytes, and what is left -/
def segR : List UInt8 → Option (Sg × List UInt8)
  | k :: n :: t => if (k.toNat = 1 ∨ k.toNat = 2) ∧ n.toNat ≠ 0 ∧ 4 * n.toNat ≤ t.length then some (((k.toNat : Int), nums4 (t.take (4 * n.toNat))), t.drop (4 * n.toNat)) else none
  | _ => none
def pcsF : Nat → List UInt8 → Option (List Sg)
  | _, [] => some []
  | 0, _ :: _ => none
  | f + 1, b :: l => match segR (b :: l) with
    | some (s, r) => (pcsF f r).map (s :: ·)
    | none => none
/-- the pieces of a path's bytes -/
def pcs (l : List UInt8) : Option (List Sg) := pcsF l.length l
section
variable {w w1 w2 : World} {F : Foot} {e : TypeId} {size n m c : Nat} {A : Option Addr} {xs : List Value}
/-- a row while old memory apart from it turns -/
theorem Acc.turn (h : Acc w e size w1 A n c xs) (hc : Chg F w1 w2) (hF : ∀ k, F k → w.heap.size ≤ k) (hA : ∀ k, sf A k → ¬ F k) : Acc w e size w2 A n c xs := ⟨h.own.chg hc (fun k _ hk => hA k hk), h.bel.trans (hc.below hF h.bel.size), h.low⟩
theorem Lst.turn {α : Type} {R : Rel α} {B : Foot} {vs : List Value} {l : List α} (hR : Keeps size R) (h : Lst size R e B w w1 A m c vs l) (hc : Chg F w1 w2) (hF : ∀ k, F k → w.heap.size ≤ k) (hA : ∀ k, sf A k → ¬ F k) (hB : ∀ k, B k → ¬ F k) : Lst size R e B w w2 A m c vs l := ⟨Acc.turn h.acc hc hF hA, h.all.chg hR hc (fun k _ hk => hB k hk.1), h.len⟩
end
section
variable {w wr w3 w4 : World} {r sb x c' ca co : Nat} {kd : Int} {l l3 : List UInt8} {bad b3 : Bool} {xs : List Nat} {Aa Ao A' : Option Addr} {vs : List Value} {out : List Sg}
end
theorem rok1 {b : UInt8} {l : List UInt8} : rok (b :: l) false 1 = true ∧ rget (b :: l) false 1 = [b] ∧ rleft (b :: l) false 1 = l := by
  have h : rok (b :: l) false 1 = true := by rw [rok_iff]; refine ⟨rfl, by omega, by simp; omega⟩
  unfold rget rleft
  rw [if_pos h, if_pos h]
  exact ⟨h, rfl, rfl⟩
theorem rok1n : rok [] false 1 = false ∧ rget [] false 1 = [] ∧ rleft [] false 1 = [] := by
  have h : rok [] false 1 = false := by decide
  unfold rget rleft
  rw [h]
  exact ⟨rfl, rfl, rfl⟩
theorem num1 (b : UInt8) : num [b] = b.toNat := by simp [num]
end Go.Proofs.YtbljhjfaimnieaaGreat.attr

namespace Go.Proofs.YtbljhjfaimnieaaGreat.attr
open Go.RowKit Go.Proofs.YtbljhjfaimnieaaGreat.kit Go.Proofs.YtbljhjfaimnieaaGreat.mem Go.Proofs.YtbljhjfaimnieaaGreat.foot Go.Proofs.YtbljhjfaimnieaaGreat.nums Go.Proofs.YtbljhjfaimnieaaGreat.asn Go.Proofs.YtbljhjfaimnieaaGreat.pth Go.Proofs.YtbljhjfaimnieaaGreat.octet
set_option linter.unusedVariables false
set_option linter.unusedSimpArgs false
/-- an attribute as it stands: flags, type, value, all its bytes -/
structure At1 where
  f : Nat
  k : Nat
  v : List UInt8
  all : List UInt8
def ext (f : Nat) : Bool := decide (f / 16 % 2 = 1)
def lenN (f : Nat) : Nat := if ext f = true then 2 else 1
/-- the first attribute, and what is left behind it -/
def att1 : List UInt8 → Option (At1 × List UInt8)
  | f :: k :: t => if lenN f.toNat ≤ t.length ∧ num (t.take (lenN f.toNat)) ≤ (t.drop (lenN f.toNat)).length then some (⟨f.toNat, k.toNat, (t.drop (lenN f.toNat)).take (num (t.take (lenN f.toNat))), f :: k :: (t.take (lenN f.toNat) ++ (t.drop (lenN f.toNat)).take (num (t.take (lenN f.toNat))))⟩, (t.drop (lenN f.toNat)).drop (num (t.take (lenN f.toNat)))) else none
  | _ => none
def longB (k n : Nat) : Bool :=
  match k with
  | 1 => decide (n = 1)
  | 3 => decide (n = 4)
  | 4 => decide (n = 4)
  | 5 => decide (n = 4)
  | 6 => decide (n = 0)
  | 7 => decide (n = 8)
  | 8 => decide (n % 4 = 0) && decide (n ≤ 1020)
  | _ => true
def unExt (f : Nat) : Nat := if ext f = true then f - 16 else f
def unPart (f : Nat) : Nat := if f / 32 % 2 = 1 then f - 32 else f
def ownF (f k : Nat) : Nat := if k = 7 ∨ k = 8 then unPart (unExt f) else unExt f
def flaggedB (f k : Nat) : Bool := decide ((ownF f k : Int) = flg (k : Int))
section
variable (f k n vc m ac : Nat) (vA aA : Option Addr) (w : World)
end
theorem info_ntc : (Tryz.prog.info? 85).map (·.size) = some 3 := by kernel_rfl
set_option maxRecDepth 100000 in
set_option maxHeartbeats 2000000 in
theorem notice_any (s : Int) (A : Option Addr) (n c : Nat) (w : World) : Calls Tryz.prog 80 #[.int .i64 s, .slice A n c] w fun e w' => e = .returned (.agg (if s = 1 ∨ s = 11 then #[.int .i64 3, .int .i64 s, .slice none 0 0] else #[.int .i64 3, .int .i64 s, .slice A n c])) ∧ Below w.heap.size w w' := by
  by_cases h1 : s = 1
  · subst h1
    rw [if_pos (by simp)]
    go_enter Tryz.func80, Tryz.ntmps80
    go_wp2_with fail
    refine bodyPost_ret (results_cell_row rfl _ _ w.heap.size 85 _ (0, 0) _ rfl (Bk.new w _ _) Tryz.underlying85 rfl info_ntc) rfl ⟨rfl, (Below.refl _ _).alloc (Nat.le_refl _) _⟩
  · have d1 : (s == 1) = false := by rw [beq_eq_false_iff_ne]; exact h1
    by_cases h11 : s = 11
    · subst h11
      rw [if_pos (by simp)]
      go_enter Tryz.func80, Tryz.ntmps80
      go_wp2_with fail
      refine bodyPost_ret (results_cell_row rfl _ _ w.heap.size 85 _ (0, 0) _ rfl (Bk.new w _ _) Tryz.underlying85 rfl info_ntc) rfl ⟨rfl, (Below.refl _ _).alloc (Nat.le_refl _) _⟩
    · have d11 : (s == 11) = false := by rw [beq_eq_false_iff_ne]; exact h11
      rw [if_neg (by simp [h1, h11])]
      go_enter Tryz.func80, Tryz.ntmps80
      go_wp2_with fail
      refine bodyPost_ret (results_cell_row rfl _ _ w.heap.size 85 _ (0, 0) _ rfl (Bk.new w _ _) Tryz.underlying85 rfl info_ntc) rfl ⟨rfl, (Below.refl _ _).alloc (Nat.le_refl _) _⟩
end Go.Proofs.YtbljhjfaimnieaaGreat.attr

namespace Go.Proofs.YtbljhjfaimnieaaGreat.attr
open Go.RowKit Go.Proofs.YtbljhjfaimnieaaGreat.kit Go.Proofs.YtbljhjfaimnieaaGreat.mem Go.Proofs.YtbljhjfaimnieaaGreat.foot Go.Proofs.YtbljhjfaimnieaaGreat.nums Go.Proofs.YtbljhjfaimnieaaGreat.asn Go.Proofs.YtbljhjfaimnieaaGreat.pth Go.Proofs.YtbljhjfaimnieaaGreat.octet
set_option linter.unusedVariables false
set_option linter.unusedSimpArgs false
theorem rok_bad (l : List UInt8) (n : Int) : rok l true n = false ∧ rget l true n = [] ∧ rleft l true n = [] := by
  have h : rok l true n = false := by simp [rok]
  unfold rget rleft
  rw [h]
  exact ⟨rfl, rfl, rfl⟩
theorem rok_yes {l : List UInt8} {n : Nat} (h : n ≤ l.length) : rok l false (n : Int) = true ∧ rget l false (n : Int) = l.take n ∧ rleft l false (n : Int) = l.drop n := by
  have h1 : rok l false (n : Int) = true := by rw [rok_iff]; exact ⟨rfl, by omega, by omega⟩
  unfold rget rleft
  rw [if_pos h1, if_pos h1, Int.toNat_natCast]
  exact ⟨h1, rfl, rfl⟩
theorem rok_no {l : List UInt8} {n : Nat} (h : l.length < n) : rok l false (n : Int) = false ∧ rget l false (n : Int) = [] ∧ rleft l false (n : Int) = [] := by
  have h1 : rok l false (n : Int) = false := by
    rw [← Bool.not_eq_true, rok_iff]
    rintro ⟨_, _, h2⟩
    omega
  unfold rget rleft
  rw [h1]
  exact ⟨rfl, rfl, rfl⟩
/-- the bytes of a length -/
def lenB (f n : Nat) : List UInt8 := if ext f = true then [octet.byteOf ((n : Int) / 256), octet.byteOf (n : Int)] else [octet.byteOf (n : Int)]
theorem byte_id (b : UInt8) : octet.byteOf (b.toNat : Int) = b := by
  have h := byteOf_nat (b.toNat : Int)
  have h2 := b.toNat_lt
  apply UInt8.toNat_inj.1
  omega
theorem lenB_num {f : Nat} {t : List UInt8} (h : lenN f ≤ t.length) : lenB f (num (t.take (lenN f))) = t.take (lenN f) := by
  unfold lenB
  unfold lenN at h ⊢
  by_cases he : ext f = true
  · rw [if_pos he] at h ⊢
    rw [if_pos he]
    rcases t with _ | ⟨a, _ | ⟨b, t⟩⟩
    · simp at h
    · simp at h
    · have ha := a.toNat_lt
      have hb := b.toNat_lt
      have e : num ([a, b]) = a.toNat * 256 + b.toNat := by simp [num]
      show [octet.byteOf ((num [a, b] : Nat) / 256 : Int), octet.byteOf ((num [a, b] : Nat) : Int)] = [a, b]
      rw [e]
      have e1 : octet.byteOf (((a.toNat * 256 + b.toNat : Nat) : Int) / 256) = a := by
        have h := byteOf_nat (((a.toNat * 256 + b.toNat : Nat) : Int) / 256)
        apply UInt8.toNat_inj.1
        omega
      have e2 : octet.byteOf (((a.toNat * 256 + b.toNat : Nat) : Int)) = b := by
        have h := byteOf_nat (((a.toNat * 256 + b.toNat : Nat) : Int))
        apply UInt8.toNat_inj.1
        omega
      rw [e1, e2]
  · rw [if_neg he] at h ⊢
    rw [if_neg he]
    rcases t with _ | ⟨a, t⟩
    · simp at h
    · show [octet.byteOf ((num [a] : Nat) : Int)] = [a]
      rw [num1, byte_id]
/-- what the reads of one attribute give, whole or not -/
structure Nx (l : List UInt8) (f k n : Nat) (v : List UInt8) (l1 l2 l3 l4 : List UInt8) (b1 b2 b3 b4 : Bool) : Prop where
  f_ : num (rget l false 1) = f
  l1_ : rleft l false 1 = l1
  b1_ : (!rok l false 1) = b1
  k_ : num (rget l1 b1 1) = k
  l2_ : rleft l1 b1 1 = l2
  b2_ : (!rok l1 b1 1) = b2
  n_ : num (rget l2 b2 (lenN f : Int)) = n
  l3_ : rleft l2 b2 (lenN f : Int) = l3
  b3_ : (!rok l2 b2 (lenN f : Int)) = b3
  v_ : rget l3 b3 (n : Int) = v
  l4_ : rleft l3 b3 (n : Int) = l4
  b4_ : (!rok l3 b3 (n : Int)) = b4
  fl : f ≤ 255
  kl : k ≤ 255
  nl : n ≤ 65535
  vl : v.length ≤ l.length
  sum : (b4 = true ∧ att1 l = none) ∨ (b4 = false ∧ att1 l = some (⟨f, k, v, octet.byteOf (f : Int) :: octet.byteOf (k : Int) :: (lenB f n ++ v)⟩, l4))
theorem num_le {l : List UInt8} {b : Bool} {n : Nat} (h : n ≤ 2) : num (rget l b (n : Int)) ≤ 65535 ∧ (n ≤ 1 → num (rget l b (n : Int)) ≤ 255) := by
  have h1 := num_lt (rget l b (n : Int))
  have h2 := rget_le l b n
  refine ⟨?_, fun h3 => ?_⟩
  · have : 256 ^ (rget l b (n : Int)).length ≤ 256 ^ 2 := Nat.pow_le_pow_right (by omega) (by omega)
    omega
  · have : 256 ^ (rget l b (n : Int)).length ≤ 256 ^ 1 := Nat.pow_le_pow_right (by omega) (by omega)
    omega
theorem lenN_le (f : Nat) : lenN f ≤ 2 ∧ 1 ≤ lenN f := by unfold lenN; split <;> omega
theorem nx (l : List UInt8) : ∃ f k n v l1 l2 l3 l4 b1 b2 b3 b4, Nx l f k n v l1 l2 l3 l4 b1 b2 b3 b4 := by
  obtain ⟨f, hf⟩ : ∃ f, num (rget l false 1) = f := ⟨_, rfl⟩
  obtain ⟨l1, hl1⟩ : ∃ q, rleft l false 1 = q := ⟨_, rfl⟩
  obtain ⟨b1, hb1⟩ : ∃ q, (!rok l false 1) = q := ⟨_, rfl⟩
  obtain ⟨k, hk⟩ : ∃ q, num (rget l1 b1 1) = q := ⟨_, rfl⟩
  obtain ⟨l2, hl2⟩ : ∃ q, rleft l1 b1 1 = q := ⟨_, rfl⟩
  obtain ⟨b2, hb2⟩ : ∃ q, (!rok l1 b1 1) = q := ⟨_, rfl⟩
  obtain ⟨n, hn⟩ : ∃ q, num (rget l2 b2 (lenN f : Int)) = q := ⟨_, rfl⟩
  obtain ⟨l3, hl3⟩ : ∃ q, rleft l2 b2 (lenN f : Int) = q := ⟨_, rfl⟩
  obtain ⟨b3, hb3⟩ : ∃ q, (!rok l2 b2 (lenN f : Int)) = q := ⟨_, rfl⟩
  obtain ⟨v, hv⟩ : ∃ q, rget l3 b3 (n : Int) = q := ⟨_, rfl⟩
  obtain ⟨l4, hl4⟩ : ∃ q, rleft l3 b3 (n : Int) = q := ⟨_, rfl⟩
  obtain ⟨b4, hb4⟩ : ∃ q, (!rok l3 b3 (n : Int)) = q := ⟨_, rfl⟩
  refine ⟨f, k, n, v, l1, l2, l3, l4, b1, b2, b3, b4, hf, hl1, hb1, hk, hl2, hb2, hn, hl3, hb3, hv, hl4, hb4, ?_, ?_, ?_, ?_, ?_⟩
  · rw [← hf]; exact (num_le (n := 1) (by omega)).2 (by omega)
  · rw [← hk]; exact (num_le (n := 1) (by omega)).2 (by omega)
  · rw [← hn]; exact (num_le (lenN_le f).1).1
  · have h1 := rleft_len l false 1
    have h2 := rleft_len l1 b1 1
    have h3 := rleft_len l2 b2 (lenN f)
    have h4 := rget_len l3 b3 n
    rw [hl1] at h1
    rw [hl2] at h2
    rw [hl3] at h3
    rw [hv] at h4
    omega
  · have bad4 : b3 = true → b4 = true := fun h => by rw [← hb4, h, (rok_bad _ _).1]; rfl
    have bad3 : b2 = true → b4 = true := fun h => bad4 (by rw [← hb3, h, (rok_bad _ _).1]; rfl)
    have bad2 : b1 = true → b4 = true := fun h => bad3 (by rw [← hb2, h, (rok_bad _ _).1]; rfl)
    rcases l with _ | ⟨fb, _ | ⟨kb, t⟩⟩
    · exact .inl ⟨bad2 (by rw [← hb1, rok1n.1]; rfl), rfl⟩
    · have h1 := @rok1 fb []
      rw [h1.2.2] at hl1
      rw [h1.1] at hb1
      subst hl1 hb1
      refine .inl ⟨bad3 ?_, rfl⟩
      rw [← hb2]
      show (!rok [] false 1) = true
      rw [rok1n.1]
      rfl
    · have h1 := @rok1 fb (kb :: t)
      rw [h1.2.2] at hl1
      rw [h1.1] at hb1
      rw [h1.2.1, num1] at hf
      subst hl1 hb1
      have h2 := @rok1 kb t
      have hk' : num (rget (kb :: t) false 1) = k := hk
      have hl2' : rleft (kb :: t) false 1 = l2 := hl2
      have hb2' : (!rok (kb :: t) false 1) = b2 := hb2
      rw [h2.2.1, num1] at hk'
      rw [h2.2.2] at hl2'
      rw [h2.1] at hb2'
      subst hl2' hb2' hk' hf
      have hn' : num (rget t false (lenN fb.toNat : Int)) = n := hn
      have hl3' : rleft t false (lenN fb.toNat : Int) = l3 := hl3
      have hb3' : (!rok t false (lenN fb.toNat : Int)) = b3 := hb3
      by_cases hm : lenN fb.toNat ≤ t.length
      · have h3 := rok_yes hm
        rw [h3.2.1] at hn'
        rw [h3.2.2] at hl3'
        rw [h3.1] at hb3'
        subst hn' hl3' hb3'
        have hv' : rget (t.drop (lenN fb.toNat)) false (num (t.take (lenN fb.toNat)) : Int) = v := hv
        have hl4' : rleft (t.drop (lenN fb.toNat)) false (num (t.take (lenN fb.toNat)) : Int) = l4 := hl4
        have hb4' : (!rok (t.drop (lenN fb.toNat)) false (num (t.take (lenN fb.toNat)) : Int)) = b4 := hb4
        by_cases hc : num (t.take (lenN fb.toNat)) ≤ (t.drop (lenN fb.toNat)).length
        · have h4 := rok_yes hc
          rw [h4.2.1] at hv'
          rw [h4.2.2] at hl4'
          rw [h4.1] at hb4'
          subst hv' hl4' hb4'
          refine .inr ⟨rfl, ?_⟩
          dsimp only [att1]
          rw [if_pos ⟨hm, hc⟩, byte_id, byte_id, lenB_num hm]
        · have h4 := rok_no (Nat.lt_of_not_le hc)
          rw [h4.1] at hb4'
          refine .inl ⟨hb4'.symm, ?_⟩
          dsimp only [att1]
          rw [if_neg fun h => hc h.2]
      · have h3 := rok_no (Nat.lt_of_not_le hm)
        rw [h3.1] at hb3'
        refine .inl ⟨bad4 hb3'.symm, ?_⟩
        dsimp only [att1]
        rw [if_neg fun h => hm h.1]
/-- bytes read through a slice -/
structure Bn (w : World) (G : Foot) (A : Option Addr) (c : Nat) (l : List UInt8) : Prop where
  nil : A = none → c = 0
  cap : l.length ≤ c
  max : c ≤ maxLen
  rg : Rg w G 1 A l.length (bv l)
section
variable {w w' w2 : World} {F G H : Foot} {A : Option Addr} {c B b x : Nat} {l L : List UInt8}
theorem Bn.chg (h : Bn w G A c l) (hc : Chg F w w') (hd : ∀ k, k < w.heap.size → G k → ¬ F k) : Bn w' G A c l := ⟨h.nil, h.cap, h.max, h.rg.chg hc hd⟩
theorem Bn.mono (h : Bn w G A c l) (hG : ∀ k, k < w.heap.size → G k → H k) : Bn w H A c l := ⟨h.nil, h.cap, h.max, h.rg.mono hG⟩
theorem Bn.bel (h : Bn w G A c l) (hb : Below w.heap.size w w') : Bn w' G A c l := ⟨h.nil, h.cap, h.max, h.rg.bel hb⟩
theorem Bn.bs (h : Bn w G A c l) : Bs w w.heap.size A l := h.rg.rd
theorem Bn.of_own (h : foot.Own w 5 1 A l.length c (bv l)) : Bn w (sf A) A c l := ⟨h.nil, h.cap, h.max, h.rg⟩
end
section
variable {w wr w' : World} {r xb : Nat} {l l' L L' : List UInt8} {bad bad' : Bool} {cs : Array Value}
end
section
variable {w wr w' : World} {r xb b : Nat} {l l' L L' v : List UInt8} {bad bad' : Bool} {cs : Array Value} {A : Option Addr} {c : Nat}
end
end Go.Proofs.YtbljhjfaimnieaaGreat.attr

namespace Go.Proofs.YtbljhjfaimnieaaGreat.attr
open Go.RowKit Go.Proofs.YtbljhjfaimnieaaGreat.kit Go.Proofs.YtbljhjfaimnieaaGreat.mem Go.Proofs.YtbljhjfaimnieaaGreat.foot Go.Proofs.YtbljhjfaimnieaaGreat.nums Go.Proofs.YtbljhjfaimnieaaGreat.asn Go.Proofs.YtbljhjfaimnieaaGreat.pth Go.Proofs.YtbljhjfaimnieaaGreat.octet
set_option linter.unusedVariables false
set_option linter.unusedSimpArgs false
section
variable {w wr w' : World} {g r cp cc : Nat} {a a' : Atr} {Ap Ac : Option Addr} {G : Foot} {l l' : List UInt8} {bad bad' : Bool}
end
open Classical in
/-- what is wrong of a path's bytes -/
noncomputable def sub2 (v : List UInt8) : Nat := if ∃ ps, pcs v = some ps ∧ WaysS (normS ps) then 0 else 11
section
variable (f vc al ac g : Nat) (vA aA : Option Addr) (a : Atr) (Ap Ac : Option Addr) (cp cc : Nat) (G : Foot) (w : World)
end
end Go.Proofs.YtbljhjfaimnieaaGreat.attr

namespace Go.Proofs.YtbljhjfaimnieaaGreat.attr
open Go.RowKit Go.Proofs.YtbljhjfaimnieaaGreat.kit Go.Proofs.YtbljhjfaimnieaaGreat.mem Go.Proofs.YtbljhjfaimnieaaGreat.foot Go.Proofs.YtbljhjfaimnieaaGreat.nums Go.Proofs.YtbljhjfaimnieaaGreat.asn Go.Proofs.YtbljhjfaimnieaaGreat.pth Go.Proofs.YtbljhjfaimnieaaGreat.octet
set_option linter.unusedVariables false
set_option linter.unusedSimpArgs false
section
variable {w wr w3 w4 : World} {g r x c' cp ca : Nat} {a : Atr} {Ap Aa A' : Option Addr} {G : Foot} {l l3 : List UInt8} {bad b3 : Bool} {xs : List Nat}
end
end Go.Proofs.YtbljhjfaimnieaaGreat.attr

namespace Go.Proofs.YtbljhjfaimnieaaGreat.attr
open Go.RowKit Go.Proofs.YtbljhjfaimnieaaGreat.kit Go.Proofs.YtbljhjfaimnieaaGreat.mem Go.Proofs.YtbljhjfaimnieaaGreat.foot Go.Proofs.YtbljhjfaimnieaaGreat.nums Go.Proofs.YtbljhjfaimnieaaGreat.asn Go.Proofs.YtbljhjfaimnieaaGreat.pth Go.Proofs.YtbljhjfaimnieaaGreat.octet
set_option linter.unusedVariables false
set_option linter.unusedSimpArgs false
/-- a value laid among the others, and what is wrong of it -/
noncomputable def layS (a : Atr) (k : Nat) (v : List UInt8) : Atr × Nat :=
  match k with
  | 1 => ({ a with orig := (num v : Int) }, if num v ≤ 2 then 0 else 6)
  | 2 => ({ a with path := normS ((pcs v).getD []) }, sub2 v)
  | 3 => ({ a with hop := (num v : Int) }, if hopB (num v : Int) = true then 0 else 8)
  | 4 => ({ a with med := (num v : Int) }, 0)
  | 5 => ({ a with pref := (num v : Int) }, 0)
  | 7 => ({ a with aas := (num (v.take 4) : Int), aid := (num (v.drop 4) : Int) }, 0)
  | 8 => ({ a with comms := nums4 v }, 0)
  | _ => (a, 0)
/-- what is wrong of an attribute behind others; the others with it, where nothing is -/
noncomputable def wrongS (a : Atr) (f k : Nat) (v : List UInt8) : Atr × Nat :=
  if 1 ≤ k ∧ k ≤ 8 then
    if flaggedB f k = false then (a, 4)
    else if longB k v.length = false then (a, 5)
    else if (layS a k v).2 ≠ 0 then (a, (layS a k v).2)
    else ({ (layS a k v).1 with has := a.has + 2 ^ k }, 0)
  else if f < 128 then (a, 2) else (a, 0)
end Go.Proofs.YtbljhjfaimnieaaGreat.attr

namespace Go.Proofs.YtbljhjfaimnieaaGreat.attr
open Go.RowKit Go.Proofs.YtbljhjfaimnieaaGreat.kit Go.Proofs.YtbljhjfaimnieaaGreat.mem Go.Proofs.YtbljhjfaimnieaaGreat.foot Go.Proofs.YtbljhjfaimnieaaGreat.nums Go.Proofs.YtbljhjfaimnieaaGreat.asn Go.Proofs.YtbljhjfaimnieaaGreat.pth Go.Proofs.YtbljhjfaimnieaaGreat.octet
set_option linter.unusedVariables false
end Go.Proofs.YtbljhjfaimnieaaGreat.attr

namespace Go.Proofs.YtbljhjfaimnieaaGreat.attr
open Go.RowKit Go.Proofs.YtbljhjfaimnieaaGreat.kit Go.Proofs.YtbljhjfaimnieaaGreat.mem Go.Proofs.YtbljhjfaimnieaaGreat.foot Go.Proofs.YtbljhjfaimnieaaGreat.nums Go.Proofs.YtbljhjfaimnieaaGreat.asn Go.Proofs.YtbljhjfaimnieaaGreat.pth Go.Proofs.YtbljhjfaimnieaaGreat.octet
set_option linter.unusedVariables false
set_option linter.unusedSimpArgs false
theorem wrongS_has (a : Atr) (f k : Nat) (v : List UInt8) (hs : (wrongS a f k v).2 = 0) : (wrongS a f k v).1.has = a.has ∨ ((wrongS a f k v).1.has = a.has + 2 ^ k ∧ 1 ≤ k ∧ k ≤ 8) := by
  unfold wrongS at hs ⊢
  by_cases hk : 1 ≤ k ∧ k ≤ 8
  · rw [if_pos hk] at hs ⊢
    split at hs
    · cases hs
    · split at hs
      · cases hs
      · split at hs
        · exact absurd hs (by assumption)
        · rename_i h1 h2 h3
          rw [if_neg h1, if_neg h2, if_neg h3]
          exact .inr ⟨rfl, hk⟩
  · rw [if_neg hk] at hs ⊢
    split
    · exact .inl rfl
    · exact .inl rfl
/-- bits of types not yet seen are not set -/
def BitsOk (seen : List Nat) (a : Atr) : Prop := (0 ≤ a.has ∧ a.has < 512) ∧ ∀ k, k ∉ seen → bitI a.has k = false
theorem bit_add (h : Int) (k j : Nat) (h0 : 0 ≤ h) (h1 : h < 512) (hk : k ≤ 8) (hb : bitI h k = false) : (0 ≤ h + 2 ^ k ∧ h + 2 ^ k < 512) ∧ (j ≠ k → bitI h j = false → bitI (h + 2 ^ k) j = false) := by
  have h2 : ∀ (a : Fin 512) (k : Fin 9), bitI (a.val : Int) k.val = false → (0 ≤ (a.val : Int) + 2 ^ k.val ∧ (a.val : Int) + 2 ^ k.val < 512) ∧ ∀ j : Fin 9, j ≠ k → bitI (a.val : Int) j.val = false → bitI ((a.val : Int) + 2 ^ k.val) j.val = false := by decide +kernel
  have h3 := h2 ⟨h.toNat, by omega⟩ ⟨k, by omega⟩
  simp only [Int.toNat_of_nonneg h0] at h3
  have h4 := h3 hb
  refine ⟨h4.1, fun hj hbj => ?_⟩
  by_cases h8 : j ≤ 8
  · exact h4.2 ⟨j, by omega⟩ (fun e => hj (congrArg Fin.val e)) hbj
  · have e : (h + 2 ^ k) / 2 ^ j = 0 := by
      apply Int.ediv_eq_zero_of_lt h4.1.1
      have : (2 : Int) ^ 9 ≤ 2 ^ j := by
        have : (2 : Nat) ^ 9 ≤ 2 ^ j := Nat.pow_le_pow_right (by omega) (by omega)
        exact_mod_cast this
      have h5 := h4.1.2
      omega
    unfold bitI
    rw [e]
    rfl
theorem BitsOk.zero : BitsOk [] zeroA := ⟨by decide, fun k _ => by
  unfold bitI zeroA
  simp⟩
theorem BitsOk.next {seen : List Nat} {a : Atr} {f k : Nat} {v : List UInt8} (h : BitsOk seen a) (hk : k ∉ seen) (hs : (wrongS a f k v).2 = 0) : BitsOk (k :: seen) (wrongS a f k v).1 := by
  have hb := h.2 k hk
  rcases wrongS_has a f k v hs with e | ⟨e, h1, h8⟩
  · exact ⟨by rw [e]; exact h.1, fun j hj => by rw [e]; exact h.2 j fun hm => hj (List.mem_cons_of_mem _ hm)⟩
  · refine ⟨by rw [e]; exact (bit_add a.has k k h.1.1 h.1.2 h8 hb).1, fun j hj => ?_⟩
    rw [e]
    exact (bit_add a.has k j h.1.1 h.1.2 h8 hb).2 (fun e => hj (e ▸ List.mem_cons_self ..)) (h.2 j fun hm => hj (List.mem_cons_of_mem _ hm))
section
variable {w wr w' : World} {r sb : Nat} {q q' : List UInt8} {seen ms : List Nat} {a : Atr} {bad : Bool}
end
end Go.Proofs.YtbljhjfaimnieaaGreat.attr

namespace Go.Proofs.YtbljhjfaimnieaaGreat.attr
open Go.RowKit Go.Proofs.YtbljhjfaimnieaaGreat.kit Go.Proofs.YtbljhjfaimnieaaGreat.mem Go.Proofs.YtbljhjfaimnieaaGreat.foot Go.Proofs.YtbljhjfaimnieaaGreat.nums Go.Proofs.YtbljhjfaimnieaaGreat.asn Go.Proofs.YtbljhjfaimnieaaGreat.pth Go.Proofs.YtbljhjfaimnieaaGreat.octet
set_option linter.unusedVariables false
set_option linter.unusedSimpArgs false
/-- within a piece: so many numbers are read -/
structure PR (w : World) (sb : Nat) (kd : Int) (xs : List Nat) (Aa : Option Addr) (ca : Nat) (Ao : Option Addr) (co : Nat) (vs : List Value) (out : List Sg) (wr : World) : Prop where
  bx : Bk wr sb 67 #[.int .i64 kd, .slice Aa xs.length ca]
  as_ : Acc w 23 1 wr Aa xs.length ca (uv xs)
  lo : ∀ k, sf Aa k → sb < k
  ls : Lst 2 rSeg 67 (fun k => w.heap.size ≤ k ∧ k < sb) w wr Ao out.length co vs out
  hi : ∀ k, sf Ao k → k < sb
  ws : w.heap.size ≤ sb
section
variable {w wr w3 w4 : World} {sb x c' ca co : Nat} {kd : Int} {xs : List Nat} {Aa Ao A' : Option Addr} {vs : List Value} {out : List Sg}
theorem PR.start (h : Lst 2 rSeg 67 (fun k => w.heap.size ≤ k) w wr Ao out.length co vs out) (kd : Int) : PR w wr.heap.size kd [] none 0 Ao co vs out (wr.alloc (.cells #[.int .i64 kd, .slice none 0 0] 67)) := by
  have hb : Below wr.heap.size wr (wr.alloc (.cells #[.int .i64 kd, .slice none 0 0] 67)) := (Below.refl _ _).alloc (Nat.le_refl _) _
  exact ⟨Bk.new wr _ _, ⟨foot.Own.none_ _ _ _, h.acc.bel.trans (hb.mono h.acc.bel.size), fun k e => absurd e (sf_none k)⟩, fun k e => absurd e (sf_none k), (h.wide keeps_seg fun k hk hB => ⟨hB, hk⟩).go keeps_seg hb, fun k hk => h.acc.own.lt k hk, h.acc.bel.size⟩
theorem PR.go (h : PR w sb kd xs Aa ca Ao co vs out wr) (hb : Below wr.heap.size wr w3) : PR w sb kd xs Aa ca Ao co vs out w3 :=
  ⟨h.bx.below hb h.bx.lt, h.as_.go hb, h.lo, h.ls.go keeps_seg hb, h.hi, h.ws⟩
theorem PR.put (h : PR w sb kd xs Aa ca Ao co vs out wr) (ho : foot.Own w4 23 1 A' (xs.length + 1) c' (uv xs ++ [.int .u32 (x : Int)])) (hc : Chg (sf Aa) (wr.alloc (.cells #[.int .u32 (x : Int)] 23)) w4) (hf : Fresh (wr.alloc (.cells #[.int .u32 (x : Int)] 23)) (sf Aa) (sf A')) :
    Bk w4 sb 67 #[.int .i64 kd, .slice Aa xs.length ca] ∧ PR w sb kd (xs ++ [x]) A' c' Ao co vs out (w4.setCell ⟨sb, 1, none⟩ (.slice A' (xs.length + 1) c')) := by
  have hb : Below wr.heap.size wr (wr.alloc (.cells #[.int .u32 (x : Int)] 23)) := (Below.refl _ _).alloc (Nat.le_refl _) _
  have hsb := h.bx.lt
  have hws := h.ws
  have hAsb : ¬ sf Aa sb := fun e => by have := h.lo _ e; omega
  have hbx4 : Bk w4 sb 67 #[.int .i64 kd, .slice Aa xs.length ca] := (h.bx.below hb hsb).chg hc hAsb
  have hlo' : ∀ k, sf A' k → sb < k := fun k hk => by
    rcases hf k hk with e | e
    · exact h.lo k e
    · have := hb.size; omega
  have hst : Chg (fun k => k = sb) w4 (w4.setCell ⟨sb, 1, none⟩ (.slice A' (xs.length + 1) c')) := (Chg.refl (fun k => k = sb) w4).put (p := ⟨sb, 1, none⟩) (.inl rfl) _
  have hac : Acc w 23 1 w4 A' (xs.length + 1) c' (uv xs ++ [.int .u32 (x : Int)]) := (h.as_.go hb).app ho hc hf
  have hlow : ∀ k, sf Aa k → w.heap.size ≤ k := h.as_.low
  have hls4 : Lst 2 rSeg 67 (fun k => w.heap.size ≤ k ∧ k < sb) w w4 Ao out.length co vs out := Lst.turn keeps_seg (h.ls.go keeps_seg hb) hc hlow (fun k hk e => by have := h.hi k hk; have := h.lo k e; omega) (fun k hk e => by have := hk.2; have := h.lo k e; omega)
  refine ⟨hbx4, ?_, ?_, hlo', ?_, h.hi, hws⟩
  · rw [List.length_append]
    have := hbx4.put 1 (.slice A' (xs.length + 1) c')
    simpa using this
  · rw [List.length_append, uv_app]
    exact Acc.turn hac hst (fun k e => by omega) (fun k hk e => by have := hlo' k hk; omega)
  · exact Lst.turn keeps_seg hls4 hst (fun k e => by omega) (fun k hk e => by have := h.hi k hk; omega) (fun k hk e => by have := hk.2; omega)
end
end Go.Proofs.YtbljhjfaimnieaaGreat.attr
