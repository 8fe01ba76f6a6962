/- What attr.pieces and attr.Path return. Condition: at most 10^5 bytes. The plain law of one attribute's bytes; what (attr.one).long, .flagged and attr.notice return. -/
import Derived.Test.YtaeeeinpelfppaaGreatAttrCode
import Derived.Test.YtaeeeinpelfppaaGreatOctRef
namespace Go.Proofs.YtaeeeinpelfppaaGreat.attr
open Go.RowKit Go.Proofs.YtaeeeinpelfppaaGreat.kit Go.Proofs.YtaeeeinpelfppaaGreat.mem Go.Proofs.YtaeeeinpelfppaaGreat.foot Go.Proofs.YtaeeeinpelfppaaGreat.nums Go.Proofs.YtaeeeinpelfppaaGreat.asn Go.Proofs.YtaeeeinpelfppaaGreat.pth Go.Proofs.YtaeeeinpelfppaaGreat.octet
set_option linter.unusedVariables false
set_option linter.unusedSimpArgs false
/-- numbers of four bytes each -/
def nums4 : List UInt8 → List Nat
  | a :: b :: c :: d :: t => num [a, b, c, d] :: nums4 t
  | _ => []
theorem nums4_len : ∀ (n : Nat) (l : List UInt8), l.length = 4 * n → (nums4 l).length = n
  | 0, l, h => by
    obtain rfl := List.length_eq_zero_iff.1 (by omega : l.length = 0)
    rfl
  | n + 1, a :: b :: c :: d :: t, h => by
    have := nums4_len n t (by simp at h; omega)
    simp [nums4, this]
  | n + 1, [], h => by simp at h
  | n + 1, [_], h => by simp at h; omega
  | n + 1, [_, _], h => by simp at h; omega
  | n + 1, [_, _, _], h => by simp at h; omega
theorem nums4_app : ∀ (n : Nat) (x y : List UInt8), x.length = 4 * n → nums4 (x ++ y) = nums4 x ++ nums4 y
  | 0, x, y, h => by
    obtain rfl := List.length_eq_zero_iff.1 (by omega : x.length = 0)
    rfl
  | n + 1, a :: b :: c :: d :: t, y, h => by
    have := nums4_app n t y (by simp at h; omega)
    simp [nums4, this]
  | n + 1, [], y, h => by simp at h
  | n + 1, [_], y, h => by simp at h; omega
  | n + 1, [_, _], y, h => by simp at h; omega
  | n + 1, [_, _, _], y, h => by simp at h; omega
theorem nums4_one {l : List UInt8} (h : l.length = 4) : nums4 l = [num l] := by
  match l, h with
  | [a, b, c, d], _ => rfl
theorem nums4_next {t : List UInt8} {i : Nat} (h : 4 * (i + 1) ≤ t.length) : nums4 (t.take (4 * (i + 1))) = nums4 (t.take (4 * i)) ++ [num ((t.drop (4 * i)).take 4)] := by
  have e : t.take (4 * (i + 1)) = t.take (4 * i) ++ (t.drop (4 * i)).take 4 := by
    rw [show 4 * (i + 1) = 4 * i + 4 by omega, List.take_add]
  rw [e, nums4_app i _ _ (by rw [List.length_take]; omega), nums4_one (l := (t.drop (4 * i)).take 4) (by rw [List.length_take, List.length_drop]; omega)]
theorem nums4_w32 : ∀ (n : Nat) (l : List UInt8), l.length ≤ n → W32 (nums4 l)
  | _, [], _ => by intro n hn; simp [nums4] at hn
  | _, [_], _ => by intro n hn; simp [nums4] at hn
  | _, [_, _], _ => by intro n hn; simp [nums4] at hn
  | _, [_, _, _], _ => by intro n hn; simp [nums4] at hn
  | 0, a :: b :: c :: d :: t, h => by simp at h
  | n + 1, a :: b :: c :: d :: t, h => by
    intro m hm
    rcases List.mem_cons.1 (show m ∈ num [a, b, c, d] :: nums4 t from hm) with rfl | hm
    · have := num_lt [a, b, c, d]
      simpa using this
    · exact nums4_w32 n t (by simp at h; omega) m hm
/-- the first piece of a path's bytes, and what is left -/
def segR : List UInt8 → Option (Sg × List UInt8)
  | k :: n :: t => if (k.toNat = 1 ∨ k.toNat = 2) ∧ n.toNat ≠ 0 ∧ 4 * n.toNat ≤ t.length then some (((k.toNat : Int), nums4 (t.take (4 * n.toNat))), t.drop (4 * n.toNat)) else none
  | _ => none
def pcsF : Nat → List UInt8 → Option (List Sg)
  | _, [] => some []
  | 0, _ :: _ => none
  | f + 1, b :: l => match segR (b :: l) with
    | some (s, r) => (pcsF f r).map (s :: ·)
    | none => none
/-- the pieces of a path's bytes -/
def pcs (l : List UInt8) : Option (List Sg) := pcsF l.length l
theorem segR_lt {l r : List UInt8} {s : Sg} (h : segR l = some (s, r)) : r.length < l.length ∧ 2 + s.2.length * 4 + r.length = l.length := by
  rcases l with _ | ⟨k, _ | ⟨n, t⟩⟩
  · simp [segR] at h
  · simp [segR] at h
  · simp only [segR] at h
    by_cases hc : (k.toNat = 1 ∨ k.toNat = 2) ∧ n.toNat ≠ 0 ∧ 4 * n.toNat ≤ t.length
    · rw [if_pos hc] at h
      have e := Option.some.inj h
      have e1 : s = ((k.toNat : Int), nums4 (t.take (4 * n.toNat))) := (congrArg Prod.fst e).symm
      have e2 : r = t.drop (4 * n.toNat) := (congrArg Prod.snd e).symm
      subst e1 e2
      have h1 := nums4_len n.toNat (t.take (4 * n.toNat)) (by rw [List.length_take]; omega)
      simp only [List.length_drop, List.length_cons, h1]
      omega
    · rw [if_neg hc] at h
      cases h
theorem pcsF_more : ∀ (f g : Nat) (l : List UInt8), l.length ≤ f → l.length ≤ g → pcsF f l = pcsF g l
  | 0, 0, l, _, _ => rfl
  | 0, g + 1, l, h, _ => by
    obtain rfl := List.length_eq_zero_iff.1 (by omega : l.length = 0)
    rfl
  | f + 1, 0, l, _, h => by
    obtain rfl := List.length_eq_zero_iff.1 (by omega : l.length = 0)
    rfl
  | f + 1, g + 1, [], _, _ => rfl
  | f + 1, g + 1, b :: l, h1, h2 => by
    unfold pcsF
    rcases hs : segR (b :: l) with _ | ⟨s, r⟩
    · rfl
    · have := (segR_lt hs).1
      dsimp only
      rw [pcsF_more f g r (by omega) (by omega)]
theorem pcs_nil : pcs [] = some [] := rfl
theorem pcs_none {l : List UInt8} (h : l ≠ []) (hs : segR l = none) : pcs l = none := by
  rcases l with _ | ⟨b, l⟩
  · exact absurd rfl h
  · show (match segR (b :: l) with | some (s, r) => (pcsF l.length r).map (s :: ·) | none => none) = none
    rw [hs]
theorem pcs_some {l r : List UInt8} {s : Sg} (hs : segR l = some (s, r)) : pcs l = (pcs r).map (s :: ·) := by
  have hlt := (segR_lt hs).1
  rcases l with _ | ⟨b, l⟩
  · simp at hlt
  · show (match segR (b :: l) with | some (s, r) => (pcsF l.length r).map (s :: ·) | none => none) = _
    rw [hs]
    dsimp only
    rw [pcsF_more l.length r.length r (by simp at hlt; omega) (Nat.le_refl _)]
    rfl
section
variable {w w1 w2 : World} {F : Foot} {e : TypeId} {size n m c : Nat} {A : Option Addr} {xs : List Value}
/-- a row while old memory apart from it turns -/
theorem Acc.turn (h : Acc w e size w1 A n c xs) (hc : Chg F w1 w2) (hF : ∀ k, F k → w.heap.size ≤ k) (hA : ∀ k, sf A k → ¬ F k) : Acc w e size w2 A n c xs := ⟨h.own.chg hc (fun k _ hk => hA k hk), h.bel.trans (hc.below hF h.bel.size), h.low⟩
theorem Lst.turn {α : Type} {R : Rel α} {B : Foot} {vs : List Value} {l : List α} (hR : Keeps size R) (h : Lst size R e B w w1 A m c vs l) (hc : Chg F w1 w2) (hF : ∀ k, F k → w.heap.size ≤ k) (hA : ∀ k, sf A k → ¬ F k) (hB : ∀ k, B k → ¬ F k) : Lst size R e B w w2 A m c vs l := ⟨Acc.turn h.acc hc hF hA, h.all.chg hR hc (fun k _ hk => hB k hk.1), h.len⟩
theorem chg_of_grown {r : Nat} (h : w.grownBy w1 (some r)) : Chg (fun k => k = r) w w1 := ⟨h.os, h.tape, h.output, h.size, fun k hk hn => h.block k hk (fun e => hn (by cases e; rfl))⟩
end
/-- within a piece: so many numbers are read -/
structure PQ (w : World) (r sb : Nat) (kd : Int) (l : List UInt8) (bad : Bool) (xs : List Nat) (Aa : Option Addr) (ca : Nat) (Ao : Option Addr) (co : Nat) (vs : List Value) (out : List Sg) (wr : World) : Prop where
  rd : Rdr wr r l bad
  bx : Bk wr sb 128 #[.int .i64 kd, .slice Aa xs.length ca]
  as_ : Acc w 26 1 wr Aa xs.length ca (uv xs)
  lo : ∀ k, sf Aa k → sb < k
  ls : Lst 2 rSeg 128 (fun k => w.heap.size ≤ k ∧ k ≠ r ∧ k < sb) w wr Ao out.length co vs out
  hi : ∀ k, sf Ao k → k < sb ∧ r < k
  rl : w.heap.size ≤ r
  rs : r < sb
section
variable {w wr w3 w4 : World} {r sb x c' ca co : Nat} {kd : Int} {l l3 : List UInt8} {bad b3 : Bool} {xs : List Nat} {Aa Ao A' : Option Addr} {vs : List Value} {out : List Sg}
theorem PQ.drewN (h : PQ w r sb kd l bad xs Aa ca Ao co vs out wr) (n : Nat) : PQ w r sb kd l bad xs Aa ca Ao co vs out (wr.drewN n) :=
  ⟨h.rd, h.bx, h.as_.go (below_drewN (Below.refl _ _) n), h.lo, h.ls.go keeps_seg (below_drewN (Below.refl _ _) n), h.hi, h.rl, h.rs⟩
/-- the reader gone on -/
theorem PQ.read (h : PQ w r sb kd l bad xs Aa ca Ao co vs out wr) (hr : Rdr w3 r l3 b3) (hg : wr.grownBy w3 (some r)) : PQ w r sb kd l3 b3 xs Aa ca Ao co vs out w3 := by
  have hc := chg_of_grown hg
  have hrs := h.rs
  exact ⟨hr, h.bx.chg hc (by omega), Acc.turn h.as_ hc (fun k e => by have := h.rl; omega) (fun k hk e => by have := h.lo k hk; omega), h.lo, Lst.turn keeps_seg h.ls hc (fun k e => by have := h.rl; omega) (fun k hk e => by have := (h.hi k hk).2; omega) (fun k hk e => hk.2.1 e), h.hi, h.rl, h.rs⟩
/-- a number more -/
theorem PQ.put (h : PQ w r sb kd l bad xs Aa ca Ao co vs out wr) (ho : foot.Own w4 26 1 A' (xs.length + 1) c' (uv xs ++ [.int .u32 (x : Int)])) (hc : Chg (sf Aa) (wr.alloc (.cells #[.int .u32 (x : Int)] 26)) w4) (hf : Fresh (wr.alloc (.cells #[.int .u32 (x : Int)] 26)) (sf Aa) (sf A')) :
    Bk w4 sb 128 #[.int .i64 kd, .slice Aa xs.length ca] ∧ PQ w r sb kd l bad (xs ++ [x]) A' c' Ao co vs out (w4.setCell ⟨sb, 1, none⟩ (.slice A' (xs.length + 1) c')) := by
  have hb : Below wr.heap.size wr (wr.alloc (.cells #[.int .u32 (x : Int)] 26)) := (Below.refl _ _).alloc (Nat.le_refl _) _
  have hsb := h.bx.lt
  have hrs := h.rs
  have hrl := h.rl
  have hAsb : ¬ sf Aa sb := fun e => by have := h.lo _ e; omega
  have hAr : ¬ sf Aa r := fun e => by have := h.lo _ e; omega
  have hbx4 : Bk w4 sb 128 #[.int .i64 kd, .slice Aa xs.length ca] := (h.bx.below hb hsb).chg hc hAsb
  have hlo' : ∀ k, sf A' k → sb < k := fun k hk => by
    rcases hf k hk with e | e
    · exact h.lo k e
    · have := hb.size; omega
  have hst : Chg (fun k => k = sb) w4 (w4.setCell ⟨sb, 1, none⟩ (.slice A' (xs.length + 1) c')) := (Chg.refl (fun k => k = sb) w4).put (p := ⟨sb, 1, none⟩) (.inl rfl) _
  have hac : Acc w 26 1 w4 A' (xs.length + 1) c' (uv xs ++ [.int .u32 (x : Int)]) := (h.as_.go hb).app ho hc hf
  have hlow : ∀ k, sf Aa k → w.heap.size ≤ k := h.as_.low
  have hls4 : Lst 2 rSeg 128 (fun k => w.heap.size ≤ k ∧ k ≠ r ∧ k < sb) w w4 Ao out.length co vs out := Lst.turn keeps_seg (h.ls.go keeps_seg hb) hc hlow (fun k hk e => by have := (h.hi k hk).1; have := h.lo k e; omega) (fun k hk e => by have := hk.2.2; have := h.lo k e; omega)
  have hrd4 : Rdr w4 r l bad := by
    obtain ⟨A0, c0, k1, k2, k3, k4, k5⟩ := h.rd
    refine ⟨A0, c0, (k1.below hb k1.lt).chg hc hAr, k2, k3, k4, k5.keep fun b o hbr => ?_⟩
    have : wr.cell? ⟨b, o, none⟩ = wr.cell? ⟨b, o, none⟩ := rfl
    rw [World.cell?_of_block (w := wr.alloc (.cells #[.int .u32 (x : Int)] 26)) (hc.block b (by have := hb.size; have := k1.lt; omega) (fun e => by have := h.lo b e; omega))]
    exact hb.cell (p := ⟨b, o, none⟩) (by have := k1.lt; show b < _; omega)
  refine ⟨hbx4, ?_, ?_, ?_, hlo', ?_, h.hi, hrl, hrs⟩
  · obtain ⟨A0, c0, k1, k2, k3, k4, k5⟩ := hrd4
    exact ⟨A0, c0, k1.chg hst (by omega), k2, k3, k4, k5.keep fun b o hbr => World.cell?_of_block (w := w4) (hst.block b (by have := k1.lt; omega) (by omega))⟩
  · rw [List.length_append]
    have := hbx4.put 1 (.slice A' (xs.length + 1) c')
    simpa using this
  · rw [List.length_append, uv_app]
    exact Acc.turn hac hst (fun k e => by omega) (fun k hk e => by have := hlo' k hk; omega)
  · exact Lst.turn keeps_seg hls4 hst (fun k e => by omega) (fun k hk e => by have := (h.hi k hk).1; omega) (fun k hk e => by have := hk.2.2; omega)
end
def lenAt (w : World) (r : Nat) : Nat := match w.cell? ⟨r, 0, none⟩ with | some (.slice _ n _) => n | _ => 0
theorem rdr_len {w : World} {r : Nat} {l : List UInt8} {b : Bool} (h : Rdr w r l b) : lenAt w r = l.length := by
  obtain ⟨A, c, hk, _⟩ := h
  have := hk.cell 0
  unfold lenAt
  simp at this
  rw [this]
/-- what attr.pieces hands back -/
def RetPcs (o : Option (List Sg)) (w : World) (e : Ending) (w' : World) : Prop :=
  ((∃ ps A c, o = some ps ∧ e = .returned (.tuple #[.slice A ps.length c, .bool true]) ∧ Sp w' (fun k => w.heap.size ≤ k) A c ps) ∨ (o = none ∧ e = .returned (.tuple #[.slice none 0 0, .bool false]))) ∧ Below w.heap.size w w'
theorem rok1 {b : UInt8} {l : List UInt8} : rok (b :: l) false 1 = true ∧ rget (b :: l) false 1 = [b] ∧ rleft (b :: l) false 1 = l := by
  have h : rok (b :: l) false 1 = true := by rw [rok_iff]; refine ⟨rfl, by omega, by simp; omega⟩
  unfold rget rleft
  rw [if_pos h, if_pos h]
  exact ⟨h, rfl, rfl⟩
theorem rok1n : rok [] false 1 = false ∧ rget [] false 1 = [] ∧ rleft [] false 1 = [] := by
  have h : rok [] false 1 = false := by decide
  unfold rget rleft
  rw [h]
  exact ⟨rfl, rfl, rfl⟩
theorem rok4 {l : List UInt8} (h : 4 ≤ l.length) : rok l false 4 = true ∧ rget l false 4 = l.take 4 ∧ rleft l false 4 = l.drop 4 := by
  have h1 : rok l false 4 = true := by rw [rok_iff]; exact ⟨rfl, by omega, by omega⟩
  unfold rget rleft
  rw [if_pos h1, if_pos h1]
  exact ⟨h1, rfl, rfl⟩
theorem rok4n {l : List UInt8} (h : l.length < 4) : rok l false 4 = false := by
  rw [← Bool.not_eq_true, rok_iff]
  rintro ⟨_, _, h2⟩
  omega
theorem num1 (b : UInt8) : num [b] = b.toNat := by simp [num]
/-- the second byte: how many, and what stands behind -/
theorem second (k : UInt8) (l1 : List UInt8) : ∃ (n : Nat) (t : List UInt8) (bd : Bool), num (rget l1 false 1) = n ∧ rleft l1 false 1 = t ∧ (!rok l1 false 1) = bd ∧ n ≤ 255 ∧ t.length ≤ l1.length ∧ (bd = true → n = 0) ∧
    segR (k :: l1) = (if ((k.toNat : Int) = 1 ∨ (k.toNat : Int) = 2) ∧ n ≠ 0 ∧ 4 * n ≤ t.length then some (((k.toNat : Int), nums4 (t.take (4 * n))), t.drop (4 * n)) else none) := by
  rcases l1 with _ | ⟨n, t⟩
  · refine ⟨0, [], true, ?_, rok1n.2.2, by rw [rok1n.1]; rfl, by omega, by simp, fun _ => rfl, ?_⟩
    · rw [rok1n.2.1]; rfl
    · simp [segR]
  · have h := @rok1 n t
    refine ⟨n.toNat, t, false, ?_, h.2.2, by rw [h.1]; rfl, by have := n.toNat_lt; omega, by simp, (fun e => by cases e), ?_⟩
    · rw [h.2.1, num1]
    · have e : ((k.toNat : Int) = 1 ∨ (k.toNat : Int) = 2) ↔ (k.toNat = 1 ∨ k.toNat = 2) := by omega
      simp only [e]
      rfl
set_option maxRecDepth 100000 in
set_option maxHeartbeats 8000000 in
theorem pieces_any (A : Option Addr) (c B : Nat) (l : List UInt8) (w : World) (hl : l.length ≤ 100000) (hA : A = none → c = 0) (hB : B ≤ w.heap.size) (hs : Bs w B A l) :
    Calls Tryz.prog 116 #[.slice A l.length c] w (RetPcs (pcs l) w) := by
  have HNw := Lib.hid (New_any A c B l w (by omega) hA hB hs)
  obtain ⟨i0, hi, hz0, hz1, hz2⟩ := info_parts info_seg
  obtain ⟨j0, hj, hy0, hy1, hy2⟩ := info_parts info_u32
  have Hi := Lib.hid hi
  have Hz0 := Lib.hid hz0
  have Hz1 := Lib.hid hz1
  have Hz2 := Lib.hid hz2
  have Hj := Lib.hid hj
  have Hy0 := Lib.hid hy0
  have Hy1 := Lib.hid hy1
  have Hy2 := Lib.hid hy2
  have HLf := Lib.hid (fun (w : World) (r : Nat) (l : List UInt8) (b : Bool) (h : Rdr w r l b) => Left_any r l b w h)
  have HU8 := Lib.hid (fun (w : World) (r : Nat) (l : List UInt8) (b : Bool) (h : Rdr w r l b) => u8_any r l b w h)
  have HU32 := Lib.hid (fun (w : World) (r : Nat) (l : List UInt8) (b : Bool) (h : Rdr w r l b) => u32_any r l b w h)
  have HBd := Lib.hid (fun (w : World) (r : Nat) (l : List UInt8) (b : Bool) (h : Rdr w r l b) => Bad_any r l b w h)
  obtain ⟨Q, hQ⟩ : ∃ Q, Q = RetPcs (pcs l) w := ⟨_, rfl⟩
  have HQ1 : Hid (∀ (ps : List Sg) (A' : Option Addr) (c' : Nat) (w' : World), pcs l = some ps → Sp w' (fun k => w.heap.size ≤ k) A' c' ps → Below w.heap.size w w' → Q (.returned (.tuple #[.slice A' ps.length c', .bool true])) w') := fun ps A' c' w' h1 h2 h3 => by
    rw [hQ]
    exact ⟨.inl ⟨ps, A', c', h1, rfl, h2⟩, h3⟩
  have HQ0 : Hid (∀ (w' : World), pcs l = none → Below w.heap.size w w' → Q (.returned (.tuple #[.slice none 0 0, .bool false])) w') := fun w' h1 h3 => by
    rw [hQ]
    exact ⟨.inr ⟨h1, rfl⟩, h3⟩
  rw [← hQ]
  clear hQ hi hz0 hz1 hz2 hj hy0 hy1 hy2 hA hB hs
  go_enter Tryz.func116, Tryz.ntmps116
  go_wp2_with (go_at_call 18; refine HNw.out.mono ?_; rintro e w1 ⟨⟨r, rfl, hr0, hr⟩, hb1⟩; have HR1 := Lib.hid (And.intro hr0 (And.intro hr hb1)); clear hr0 hr hb1)
  go_loopw [4] (fun v4 wr => ∃ (out : List Sg) (l' : List UInt8) (Ao : Option Addr) (co : Nat) (vs : List Value), v4 = .slice Ao out.length co ∧ pcs l = (pcs l').map (out ++ ·) ∧ out.length + l'.length ≤ l.length ∧ Rdr wr r l' false ∧ Lst 2 rSeg 128 (fun k => w.heap.size ≤ k ∧ k ≠ r) w wr Ao out.length co vs out ∧ (∀ k, sf Ao k → r < k)) (fun _ wr => lenAt wr r)
  case atStart => exact ⟨[], l, none, 0, [], rfl, by simp, by simp, HR1.out.2.1, (Lst.nil w).go keeps_seg HR1.out.2.2, fun k h => absurd h (sf_none k)⟩
  case round =>
    obtain ⟨out, l', Ao, co, vs, rfl, hpc, hlen, hrd, hls, hno⟩ := hrel
    have HRd := Lib.hid hrd
    have HLs := Lib.hid hls
    have HNo := Lib.hid hno
    have HPc := Lib.hid hpc
    have HLfx := Lib.hid (HLf.out wr r l' false hrd)
    have HBw := Lib.hid hls.acc.bel
    clear hrd hls hno hpc
    rcases l' with _ | ⟨kb, l1⟩
    · have HP1 : Hid (pcs l = some out) := by rw [Hid, HPc.out, pcs_nil]; simp
      have HSp : Hid (Sp wr (fun k => w.heap.size ≤ k) Ao co out) := (Sp.of_lst HLs.out).mono fun k _ hk => hk.elim id fun h => h.1
      have HLfx : Hid (Calls Tryz.prog 25 #[.pointer (some ⟨r, 0, none⟩)] wr fun e w' => e = .returned (.int .i64 0) ∧ wr = w') := HLfx.out
      go_wp2_with (go_at_call 25; refine HLfx.out.mono ?_; rintro e w' ⟨rfl, rfl⟩)
      exact HQ1.out _ _ _ _ HP1.out HSp.out HBw.out
    · obtain ⟨n, t, bd, hn, ht, hbd, hn255, htl, hbn, hseg⟩ := second kb l1
      have dl : 0 < (kb :: l1).length := by simp
      have HSeg := Lib.hid hseg
      have HU1 := Lib.hid (HU8.out wr r (kb :: l1) false HRd.out)
      have hk1 := @rok1 kb l1
      rw [hk1.1, hk1.2.1, hk1.2.2, num1] at HU1
      have HU2 : Hid (∀ w', Rdr w' r l1 false → Calls Tryz.prog 90 #[.pointer (some ⟨r, 0, none⟩)] w' fun e w2 => e = .returned (.int .i64 (n : Int)) ∧ Rdr w2 r t bd ∧ w'.grownBy w2 (some r)) := fun w' h => by
        have := HU8.out w' r l1 false h
        rw [hn, ht, hbd] at this
        exact this
      have HKn : Hid (segR (kb :: l1) = none → pcs l = none) := fun h => by rw [HPc.out, pcs_none (by simp) h]; rfl
      have HKs : Hid (∀ s q, segR (kb :: l1) = some (s, q) → pcs l = (pcs q).map ((out ++ [s]) ++ ·) ∧ (out ++ [s]).length + q.length ≤ l.length ∧ q.length < (kb :: l1).length) := fun s q h => by
        have h1 := (segR_lt h).1
        refine ⟨?_, by simp at h1 hlen ⊢; omega, h1⟩
        rw [HPc.out, pcs_some h, Option.map_map]
        congr 1
        funext x
        simp
      have hlt : t.length ≤ l.length := by simp at hlen; omega
      have hol : out.length ≤ 100000 := by omega
      have HLn := Lib.hid (rdr_len HRd.out)
      clear hseg hk1 hn ht hbd htl
      have hnt : n ≤ 255 := hn255
      generalize hL' : (kb :: l1).length = L' at *
      clear hL'
      generalize hkd : ((kb.toNat : Nat) : Int) = kd at *
      clear hkd
      go_upto_region 5 with (first
        | (go_at_call 25; refine HLfx.out.mono ?_; rintro e w' ⟨rfl, rfl⟩)
        | (go_at_call 90; refine HU1.out.mono ?_; rintro e w2 ⟨rfl, h1, h2⟩; have HR2 := Lib.hid (And.intro h1 h2); clear h1 h2))
      have HB2 : Hid (Below w.heap.size w w2) := HBw.out.trans ((chg_of_grown HR2.out.2).below (fun k e => by have := HR1.out.1; omega) HBw.out.size)
      have hbk2 := Bk.new w2 128 #[.int .i64 kd, .slice none 0 0]
      obtain ⟨sb, hsb⟩ : ∃ sb, sb = w2.heap.size := ⟨_, rfl⟩
      have hr2 : r < sb := by rw [hsb]; exact HR2.out.1.lt
      have HPQ0 : Hid (PQ w r sb kd l1 false [] none 0 Ao co vs out (w2.alloc (.cells #[.int .i64 kd, .slice none 0 0] 128))) := by
        have hba : Below w2.heap.size w2 (w2.alloc (.cells #[.int .i64 kd, .slice none 0 0] 128)) := (Below.refl _ _).alloc (Nat.le_refl _) _
        have h2 : Lst 2 rSeg 128 (fun k => w.heap.size ≤ k ∧ k ≠ r) w w2 Ao out.length co vs out := Lst.turn keeps_seg HLs.out (chg_of_grown HR2.out.2) (fun k e => by have := HR1.out.1; omega) (fun k hk e => by have := HNo.out k hk; omega) (fun k hk e => hk.2 e)
        rw [hsb]
        exact ⟨HR2.out.1.below hba HR2.out.1.lt, hbk2, ⟨foot.Own.none_ _ _ _, HB2.out.alloc HB2.out.size _, fun k h => absurd h (sf_none k)⟩, fun k h => absurd h (sf_none k), (h2.wide keeps_seg fun k hk hB => ⟨hB.1, hB.2, hk⟩).go keeps_seg hba, fun k hk => ⟨h2.acc.own.lt k hk, HNo.out k hk⟩, HR1.out.1, HR2.out.1.lt⟩
      clear hbk2
      rw [← hsb]
      obtain ⟨w3, hw3⟩ : ∃ w3, w3 = w2.alloc (.cells #[.int .i64 kd, .slice none 0 0] 128) := ⟨_, rfl⟩
      rw [← hw3] at HPQ0 ⊢
      clear hw3 hsb
      have HU2x := Lib.hid (HU2.out w3 HPQ0.out.rd)
      go_wp2_with (go_at_call 90; refine HU2x.out.mono ?_; rintro e w4 ⟨rfl, h1, h2⟩; have HPQ1 := Lib.hid (HPQ0.out.read h1 h2); clear h1 h2)
      go_loopw [17] (fun v17 wq => ∃ (i : Nat) (xs : List Nat) (Aa : Option Addr) (ca : Nat), v17 = .int .i64 i ∧ i ≤ n ∧ 4 * i ≤ t.length ∧ xs.length = i ∧ xs = nums4 (t.take (4 * i)) ∧ PQ w r sb kd (t.drop (4 * i)) bd xs Aa ca Ao co vs out wq) (fun v17 _ => n - (intOf v17).toNat)
      case atStart => exact ⟨0, [], none, 0, rfl, by omega, by omega, rfl, rfl, HPQ1.out⟩
      case round =>
        obtain ⟨i, xs, Aa, ca, rfl, hin, hit, hxi, hxs, hpq⟩ := hrel
        have HP := Lib.hid hpq
        have HXs := Lib.hid hxs
        have HXi := Lib.hid hxi
        clear hpq hxs hxi
        by_cases hlt : i < n
        · obtain rfl : bd = false := by
            rcases bd with _ | _
            · rfl
            · have := hbn rfl; omega
          have HUx : Hid (∀ wz, Rdr wz r (t.drop (4 * i)) false → Calls Tryz.prog 91 #[.pointer (some ⟨r, 0, none⟩)] wz fun e w' => e = .returned (.int .u32 (num (rget (t.drop (4 * i)) false 4) : Int)) ∧ Rdr w' r (rleft (t.drop (4 * i)) false 4) (!rok (t.drop (4 * i)) false 4) ∧ wz.grownBy w' (some r)) := fun wz h => HU32.out wz r _ false h
          have HOk : Hid ((!rok (t.drop (4 * i)) false 4) = false → 4 * (i + 1) ≤ t.length ∧ num (rget (t.drop (4 * i)) false 4) = num ((t.drop (4 * i)).take 4) ∧ rleft (t.drop (4 * i)) false 4 = t.drop (4 * (i + 1))) := fun h => by
            have h4 : 4 ≤ (t.drop (4 * i)).length := by
              rcases Nat.lt_or_ge (t.drop (4 * i)).length 4 with h5 | h5
              · rw [rok4n h5] at h; cases h
              · exact h5
            obtain ⟨_, h2, h3⟩ := rok4 h4
            rw [h2, h3, List.drop_drop]
            rw [List.length_drop] at h4
            exact ⟨by omega, rfl, by congr 1⟩
          have HBad : Hid ((!rok (t.drop (4 * i)) false 4) = true → pcs l = none) := fun h => by
            refine HKn.out ?_
            rw [HSeg.out]
            refine if_neg (fun hc => ?_)
            have h4 : 4 ≤ (t.drop (4 * i)).length := by rw [List.length_drop]; omega
            rw [(rok4 h4).1] at h
            cases h
          have HNx : Hid (4 * (i + 1) ≤ t.length → nums4 (t.take (4 * (i + 1))) = xs ++ [num ((t.drop (4 * i)).take 4)]) := fun h => by rw [nums4_next h, HXs.out]
          generalize num (rget (t.drop (4 * i)) false 4) = x at *
          generalize rleft (t.drop (4 * i)) false 4 = tl at *
          generalize (!rok (t.drop (4 * i)) false 4) = b4 at *
          have hxl : xs.length ≤ 255 := by have := HXi.out; omega
          go_upto_region 7 with fail
          go_cut [] (fun wx => ∃ A' c', PQ w r sb kd tl b4 (xs ++ [x]) A' c' Ao co vs out wx)
          case first =>
            have HCs : Hid (∀ wz, PQ w r sb kd (t.drop (4 * i)) false xs Aa ca Ao co vs out wz → wz.cell? ⟨sb, 1, none⟩ = some (.slice Aa xs.length ca)) := fun wz h => (h.bx.cell 1).trans rfl
            have HPd : Hid (PQ w r sb kd (t.drop (4 * i)) false xs Aa ca Ao co vs out wr.drew) := HP.out.drewN 1
            have HUd := Lib.hid (HUx.out _ HPd.out.rd)
            have k1 := HCs.out _ HPd.out
            have kf := HPd.out.bx.free 1
            have kl := HPd.out.bx.lt
            have HPut : Hid (∀ (wz w4 : World) (A' : Option Addr) (c' : Nat), PQ w r sb kd tl b4 xs Aa ca Ao co vs out wz → foot.Own w4 26 1 A' (xs.length + 1) c' (uv xs ++ [.int .u32 (x : Int)]) → Chg (sf Aa) (wz.alloc (.cells #[.int .u32 (x : Int)] 26)) w4 → Fresh (wz.alloc (.cells #[.int .u32 (x : Int)] 26)) (sf Aa) (sf A') → Bk w4 sb 128 #[.int .i64 kd, .slice Aa xs.length ca] ∧ PQ w r sb kd tl b4 (xs ++ [x]) A' c' Ao co vs out (w4.setCell ⟨sb, 1, none⟩ (.slice A' (xs.length + 1) c'))) := fun wz w4 A' c' h1 h2 h3 h4 => h1.put h2 h3 h4
            go_region_law (first
              | (refine step_app _ rfl (.tmp 20) (.tmp 23) _ rfl 26 j0 _ 1 4 Tryz.underlying27 Hj.out Hy0.out Hy1.out Hy2.out rfl (by omega) Aa xs.length ca (uv xs) rfl (by exact HOa.out) _ (some ⟨w5.heap.size, 0, none⟩) 1 1 (by intro h; cases h) [.int .u32 (x : Int)] rfl (by exact HRa.out) (by intro u hu; simp at hu; rw [hu]; rfl) (by unfold maxLen; omega) (by omega) ?_; intro A7 c7 w7 ho7 hc7 hf7; clear k1 kf kl; go_must (have HE7 := Lib.hid (HPut.out w5 w7 A7 c7 HP5.out ho7 hc7 hf7)); go_must (have k1 := (HE7.out.1.cell 1).trans (show _ = some _ from rfl)); go_must (have kf := HE7.out.1.free 1); go_must (have kl := HE7.out.1.lt); clear ho7 hc7 hf7)
              | (go_simp; go_at_call 91; refine HUd.out.mono ?_; rintro e w5 ⟨rfl, h1, h2⟩; clear k1 kf kl; go_must (have HP5 := Lib.hid (HPd.out.read h1 h2)); go_must (have k1 := (HP5.out.bx.cell 1).trans (show _ = some _ from rfl)); go_must (have kf := HP5.out.bx.free 1); go_must (have kl := HP5.out.bx.lt); go_must (have HOa : Hid (foot.Own (w5.alloc (.cells #[.int .u32 (x : Int)] 26)) 26 1 Aa xs.length ca (uv xs)) := HP5.out.as_.own.bel ((Below.refl _ _).alloc (Nat.le_refl _) _)); go_must (have HRa := Lib.hid (Rg.new w5 26 1 1 #[.int .u32 (x : Int)] rfl)); clear h1 h2))
            all_goals
              go_wp2_with fail
              go_meet
              exact ⟨_, _, HE7.out.2⟩
          case rest =>
          obtain ⟨A', c', hpx⟩ := hcut
          have HPx := Lib.hid hpx
          have HBdx := Lib.hid (HBd.out _ r _ _ hpx.rd)
          clear hpx
          have HBe := Lib.hid HPx.out.as_.bel
          rcases b4 with _ | _
          · obtain ⟨g1, g2, g3⟩ := HOk.out rfl
            have G1 := Lib.hid g1
            have G2 := Lib.hid (HNx.out g1)
            have G3 := Lib.hid (And.intro g2 g3)
            clear g1 g2 g3
            go_wp2_with (go_at_call 22; refine HBdx.out.mono ?_; rintro e w' ⟨rfl, rfl⟩)
            go_roundw
            case rel => exact ⟨i + 1, xs ++ [x], A', c', by go_num, by omega, G1.out, by rw [List.length_append, HXi.out]; rfl, by rw [G2.out, G3.out.1], by rw [← G3.out.2]; exact HPx.out⟩
            case measure => simp [intOf]; omega
          · have HN := Lib.hid (HBad.out rfl)
            go_wp2_with (go_at_call 22; refine HBdx.out.mono ?_; rintro e w' ⟨rfl, rfl⟩)
            exact HQ0.out _ HN.out HBe.out
        · obtain rfl : i = n := by omega
          have HBe := Lib.hid HP.out.as_.bel
          have k0 := (HP.out.bx.cell 0).trans (show _ = some _ from rfl)
          have k1 := (HP.out.bx.cell 1).trans (show _ = some _ from rfl)
          have kl := HP.out.bx.lt
          have hxl : xs.length ≤ 255 := by have := HXi.out; omega
          by_cases hg : (kd = 1 ∨ kd = 2) ∧ i ≠ 0
          · obtain rfl : bd = false := by
              rcases bd with _ | _
              · rfl
              · have h1 := hbn rfl
                exact absurd h1 hg.2
            have hsg : segR (kb :: l1) = some ((kd, nums4 (t.take (4 * i))), t.drop (4 * i)) := by rw [HSeg.out, if_pos ⟨hg.1, hg.2, hit⟩]
            obtain ⟨g1, g2, g3⟩ := HKs.out _ _ hsg
            rw [← HXs.out] at g1 g2
            have G1 := Lib.hid g1
            have G2 := Lib.hid g2
            have G3 := Lib.hid g3
            clear hsg g1 g2 g3
            have hx0 : ((xs.length : Int) == 0) = false := by rw [beq_eq_false_iff_ne]; have := HXi.out; omega
            have HWf : Hid ((Lit.int .i64 kd).wf = true) := by rcases hg.1 with rfl | rfl <;> rfl
            have HW3 : Hid (W32 xs) := by rw [Hid, HXs.out]; exact nums4_w32 _ _ (Nat.le_refl _)
            have HFin : Hid (∀ (w8 : World) (A8 : Option Addr) (c8 : Nat), foot.Own w8 128 2 A8 (out.length + 1) c8 (vs ++ [.int .i64 kd, .slice Aa xs.length ca]) → Chg (sf Ao) (wr.alloc (.cells #[.int .i64 kd, .slice Aa xs.length ca] 128)) w8 → Fresh (wr.alloc (.cells #[.int .i64 kd, .slice Aa xs.length ca] 128)) (sf Ao) (sf A8) →
                Rdr w8 r (t.drop (4 * i)) false ∧ Lst 2 rSeg 128 (fun k => w.heap.size ≤ k ∧ k ≠ r) w w8 A8 (out.length + 1) c8 (vs ++ [.int .i64 kd, .slice Aa xs.length ca]) (out ++ [(kd, xs)]) ∧ ∀ k, sf A8 k → r < k) := fun w8 A8 c8 ho hc hf => by
              have hb : Below wr.heap.size wr (wr.alloc (.cells #[.int .i64 kd, .slice Aa xs.length ca] 128)) := (Below.refl _ _).alloc (Nat.le_refl _) _
              have hq := HP.out
              have hrl := hq.rd.lt
              have hL0 := (hq.ls.wide keeps_seg (C := fun k => w.heap.size ≤ k ∧ k ≠ r) fun k _ hB => ⟨hB.1, hB.2.1⟩).go keeps_seg hb
              have hseg := seg_of (G := fun k => (w.heap.size ≤ k ∧ k ≠ r) ∧ ¬ sf Ao k) HWf.out (Rel_own (hq.as_.own.bel hb) HW3.out fun k hk => ⟨⟨hq.as_.low k hk, by have := hq.lo k hk; have := hq.rs; omega⟩, fun e => by have := hq.lo k hk; have := (hq.hi k e).1; omega⟩)
              have hnr : ∀ k, sf Ao k → r < k := fun k e => (hq.hi k e).2
              refine ⟨?_, hL0.app keeps_seg (rAll.single hseg) rfl ho hc hf, fun k e => ?_⟩
              · obtain ⟨A0, c0, k1, k2, k3, k4, k5⟩ := hq.rd
                refine ⟨A0, c0, (k1.below hb hrl).chg hc (fun e => by have := hnr r e; omega), k2, k3, k4, k5.keep fun b o hbr => ?_⟩
                rw [World.cell?_of_block (w := wr.alloc (.cells #[.int .i64 kd, .slice Aa xs.length ca] 128)) (hc.block b (by have := hb.size; omega) (fun e => by have := hnr b e; omega))]
                exact hb.cell (p := ⟨b, o, none⟩) (show b < _ by omega)
              · rcases hf k e with h | h
                · exact hnr k h
                · have := hb.size; omega
            have HOw : Hid (foot.Own (wr.alloc (.cells #[.int .i64 kd, .slice Aa xs.length ca] 128)) 128 2 Ao out.length co vs) := HP.out.ls.acc.own.bel ((Below.refl _ _).alloc (Nat.le_refl _) _)
            have HRz : Hid (Rg (wr.alloc (.cells #[.int .i64 kd, .slice Aa xs.length ca] 128)) (fun k => k = wr.heap.size) 2 (some ⟨wr.heap.size, 0, none⟩) 1 [.int .i64 kd, .slice Aa xs.length ca]) := rg_two (Bk.new wr _ _)
            have hw := hg.1
            clear hg
            rcases hw with rfl | rfl
            case' inl =>
              have d1 : ((1 : Int) != 1) = false := by decide
            case' inr =>
              have d1 : ((2 : Int) != 1) = true := by decide
              have d2 : ((2 : Int) != 2) = false := by decide
            all_goals
              go_wp2_with (at_builtin; refine wpList_app _ rfl (.tmp 43) (.tmp 45) _ rfl 128 i0 _ 2 32 Tryz.underlying25 Hi.out Hz0.out Hz1.out Hz2.out rfl (by omega) Ao out.length co vs rfl HOw.out _ (some ⟨wr.heap.size, 0, none⟩) 1 1 (by intro h; cases h) _ rfl HRz.out (by intro u hu; simp at hu; rcases hu with rfl | rfl <;> rfl) (by unfold maxLen; omega) (by omega) ?_; intro A8 c8 w8 ho8 hc8 hf8; have H8 := Lib.hid (HFin.out w8 A8 c8 ho8 hc8 hf8); clear ho8 hc8 hf8)
              have hln := HLn.out
              have hl8 := rdr_len H8.out.1
              have hg3 := G3.out
              go_roundw
              case rel => exact ⟨_, _, _, _, _, by rw [List.length_append]; rfl, G1.out, G2.out, H8.out.1, by rw [List.length_append]; exact H8.out.2.1, H8.out.2.2⟩
              case measure => omega
          · have HN : Hid (pcs l = none) := HKn.out (by rw [HSeg.out]; exact if_neg (fun hc => hg ⟨hc.1, hc.2.1⟩))
            have hw : (xs.length = 0) ∨ (xs.length ≠ 0 ∧ kd ≠ 1 ∧ kd ≠ 2) := by
              have h1 := HXi.out
              by_cases h0 : i = 0
              · exact .inl (by omega)
              · refine .inr ⟨by omega, fun e => hg ⟨.inl e, h0⟩, fun e => hg ⟨.inr e, h0⟩⟩
            clear hg
            rcases hw with h | ⟨h, h1, h2⟩
            · have hx0 : ((xs.length : Int) == 0) = true := by rw [beq_iff_eq]; omega
              go_wp2_with fail
              exact HQ0.out _ HN.out HBe.out
            · have hx0 : ((xs.length : Int) == 0) = false := by rw [beq_eq_false_iff_ne]; omega
              have d1 : (kd == 1) = false := by rw [beq_eq_false_iff_ne]; exact h1
              have e1 : (kd != 1) = true := by simp [h1]
              have e2 : (kd != 2) = true := by simp [h2]
              have d2 : (kd == 2) = false := by rw [beq_eq_false_iff_ne]; exact h2
              go_wp2_with fail
              exact HQ0.out _ HN.out HBe.out
end Go.Proofs.YtaeeeinpelfppaaGreat.attr

namespace Go.Proofs.YtaeeeinpelfppaaGreat.attr
open Go.RowKit Go.Proofs.YtaeeeinpelfppaaGreat.kit Go.Proofs.YtaeeeinpelfppaaGreat.mem Go.Proofs.YtaeeeinpelfppaaGreat.foot Go.Proofs.YtaeeeinpelfppaaGreat.nums Go.Proofs.YtaeeeinpelfppaaGreat.asn Go.Proofs.YtaeeeinpelfppaaGreat.pth Go.Proofs.YtaeeeinpelfppaaGreat.octet
set_option linter.unusedVariables false
set_option linter.unusedSimpArgs false
/-- an attribute as it stands: flags, type, value, all its bytes -/
structure At1 where
  f : Nat
  k : Nat
  v : List UInt8
  all : List UInt8
def ext (f : Nat) : Bool := decide (f / 16 % 2 = 1)
def lenN (f : Nat) : Nat := if ext f = true then 2 else 1
/-- the first attribute, and what is left behind it -/
def att1 : List UInt8 → Option (At1 × List UInt8)
  | f :: k :: t => if lenN f.toNat ≤ t.length ∧ num (t.take (lenN f.toNat)) ≤ (t.drop (lenN f.toNat)).length then some (⟨f.toNat, k.toNat, (t.drop (lenN f.toNat)).take (num (t.take (lenN f.toNat))), f :: k :: (t.take (lenN f.toNat) ++ (t.drop (lenN f.toNat)).take (num (t.take (lenN f.toNat))))⟩, (t.drop (lenN f.toNat)).drop (num (t.take (lenN f.toNat)))) else none
  | _ => none
def longB (k n : Nat) : Bool :=
  match k with
  | 1 => decide (n = 1)
  | 3 => decide (n = 4)
  | 4 => decide (n = 4)
  | 5 => decide (n = 4)
  | 6 => decide (n = 0)
  | 7 => decide (n = 8)
  | 8 => decide (n % 4 = 0) && decide (n ≤ 1020)
  | _ => true
def unExt (f : Nat) : Nat := if ext f = true then f - 16 else f
def unPart (f : Nat) : Nat := if f / 32 % 2 = 1 then f - 32 else f
def ownF (f k : Nat) : Nat := if k = 7 ∨ k = 8 then unPart (unExt f) else unExt f
def flaggedB (f k : Nat) : Bool := decide ((ownF f k : Int) = flg (k : Int))
theorem andNot16 (f : Nat) (h : f ≤ 255) : bits .andNot .i64 (f : Int) 16 = (unExt f : Int) := by
  have : ∀ f : Fin 256, bits .andNot .i64 (f.val : Int) 16 = (unExt f.val : Int) := by decide +kernel
  exact this ⟨f, by omega⟩
theorem andNot32 (f : Nat) (h : f ≤ 255) : bits .andNot .i64 (f : Int) 32 = (unPart f : Int) := by
  have : ∀ f : Fin 256, bits .andNot .i64 (f.val : Int) 32 = (unPart f.val : Int) := by decide +kernel
  exact this ⟨f, by omega⟩
theorem unExt_le (f : Nat) : unExt f ≤ f := by unfold unExt; split <;> omega
theorem and16 (f : Nat) (h : f ≤ 255) : bits .and .i64 (f : Int) 16 = if ext f = true then 16 else 0 := by
  have : ∀ f : Fin 256, bits .and .i64 (f.val : Int) 16 = if ext f.val = true then 16 else 0 := by decide +kernel
  exact this ⟨f, by omega⟩
theorem and128 (f : Nat) (h : f ≤ 255) : bits .and .i64 (f : Int) 128 = if 128 ≤ f then 128 else 0 := by
  have : ∀ f : Fin 256, bits .and .i64 (f.val : Int) 128 = if 128 ≤ f.val then 128 else 0 := by decide +kernel
  exact this ⟨f, by omega⟩
/-- the four cells of one attribute -/
def oneV (f k : Nat) (vA : Option Addr) (n vc : Nat) (aA : Option Addr) (m ac : Nat) : Array Value := #[.int .i64 (f : Int), .int .i64 (k : Int), .slice vA n vc, .slice aA m ac]
theorem beqn (n m : Nat) : ((n : Int) == (m : Int)) = decide (n = m) := by
  rw [Bool.eq_iff_iff, beq_iff_eq, decide_eq_true_iff]
  omega
section
variable (f k n vc m ac : Nat) (vA aA : Option Addr) (w : World)
set_option maxRecDepth 100000 in
set_option maxHeartbeats 2000000 in
theorem long_any (h1 : 1 ≤ k) (h8 : k ≤ 8) : Calls Tryz.prog 95 #[.agg (oneV f k vA n vc aA m ac)] w fun e w' => e = .returned (.bool (longB k n)) ∧ Below w.heap.size w w' := by
  have HB : Hid (Below w.heap.size w (w.alloc (.cells #[.int .i64 (f : Int), .int .i64 (k : Int), .slice vA n vc, .slice aA m ac] 90))) := (Below.refl _ _).alloc (Nat.le_refl _) _
  unfold oneV
  obtain ⟨b, hb⟩ : ∃ b, b = longB k n := ⟨_, rfl⟩
  rw [← hb]
  have h : k = 1 ∨ k = 2 ∨ k = 3 ∨ k = 4 ∨ k = 5 ∨ k = 6 ∨ k = 7 ∨ k = 8 := by omega
  rcases h with rfl | rfl | rfl | rfl | rfl | rfl | rfl | rfl
  · replace hb : b = decide (n = 1) := hb
    go_enter Tryz.func95, Tryz.ntmps95
    go_wp2_with fail
    go_ret
    exact ⟨by rw [hb]; exact ret_bool (beqn n 1), HB.out⟩
  · replace hb : b = true := hb
    subst hb
    go_enter Tryz.func95, Tryz.ntmps95
    go_wp2_with fail
    go_ret
    exact ⟨rfl, HB.out⟩
  · replace hb : b = decide (n = 4) := hb
    go_enter Tryz.func95, Tryz.ntmps95
    go_wp2_with fail
    go_ret
    exact ⟨by rw [hb]; exact ret_bool (beqn n 4), HB.out⟩
  · replace hb : b = decide (n = 4) := hb
    go_enter Tryz.func95, Tryz.ntmps95
    go_wp2_with fail
    go_ret
    exact ⟨by rw [hb]; exact ret_bool (beqn n 4), HB.out⟩
  · replace hb : b = decide (n = 4) := hb
    go_enter Tryz.func95, Tryz.ntmps95
    go_wp2_with fail
    go_ret
    exact ⟨by rw [hb]; exact ret_bool (beqn n 4), HB.out⟩
  · replace hb : b = decide (n = 0) := hb
    go_enter Tryz.func95, Tryz.ntmps95
    go_wp2_with fail
    go_ret
    exact ⟨by rw [hb]; exact ret_bool (beqn n 0), HB.out⟩
  · replace hb : b = decide (n = 8) := hb
    go_enter Tryz.func95, Tryz.ntmps95
    go_wp2_with fail
    go_ret
    exact ⟨by rw [hb]; exact ret_bool (beqn n 8), HB.out⟩
  · replace hb : b = (decide (n % 4 = 0) && decide (n ≤ 1020)) := hb
    have e4 : ((n : Int) % 4 == 0) = decide (n % 4 = 0) := by
      rw [Bool.eq_iff_iff, beq_iff_eq, decide_eq_true_iff]
      omega
    by_cases h4 : n % 4 = 0
    · rw [decide_eq_true h4] at e4 hb
      rw [Bool.true_and] at hb
      have HE : Hid (decide ((n : Int) ≤ 1020) = b) := by
        rw [Hid, hb]
        congr 1
        exact propext (by omega)
      clear hb
      go_enter Tryz.func95, Tryz.ntmps95
      go_wp2_with fail
      go_ret
      exact ⟨ret_bool HE.out, HB.out⟩
    · rw [decide_eq_false h4] at e4 hb
      rw [Bool.false_and] at hb
      subst hb
      go_enter Tryz.func95, Tryz.ntmps95
      go_wp2_with fail
      go_ret
      exact ⟨rfl, HB.out⟩
set_option maxRecDepth 100000 in
set_option maxHeartbeats 2000000 in
theorem flagged_any (hf : f ≤ 255) (h1 : 1 ≤ k) (h8 : k ≤ 8) : Calls Tryz.prog 94 #[.agg (oneV f k vA n vc aA m ac)] w fun e w' => e = .returned (.bool (flaggedB f k)) ∧ Below w.heap.size w w' := by
  have HB : Hid (Below w.heap.size w (w.alloc (.cells #[.int .i64 (f : Int), .int .i64 (k : Int), .slice vA n vc, .slice aA m ac] 90))) := (Below.refl _ _).alloc (Nat.le_refl _) _
  have HFl : Hid (∀ w', Calls Tryz.prog 93 #[.int .i64 (k : Int)] w' fun e w2 => e = .returned (.int .i64 (flg (k : Int))) ∧ w' = w2) := fun w' => flags_any k w'
  unfold oneV
  have a16 := andNot16 f hf
  have a32 := andNot32 (unExt f) (by have := unExt_le f; omega)
  by_cases h78 : k = 7 ∨ k = 8
  · have HE : Hid (((unPart (unExt f) : Int) == flg (k : Int)) = flaggedB f k) := by
      unfold flaggedB ownF
      rw [if_pos h78, Hid, Bool.eq_iff_iff, beq_iff_eq, decide_eq_true_iff]
    have hle := Nat.le_trans (unExt_le f) hf
    generalize unPart (unExt f) = y at *
    generalize unExt f = x at *
    generalize flaggedB f k = b at *
    rcases h78 with rfl | rfl
    · go_enter Tryz.func94, Tryz.ntmps94
      go_wp2_with (go_at_call 93; refine (HFl.out _).mono ?_; rintro e w2 ⟨rfl, rfl⟩)
      go_ret
      exact ⟨ret_bool HE.out, HB.out⟩
    · go_enter Tryz.func94, Tryz.ntmps94
      go_wp2_with (go_at_call 93; refine (HFl.out _).mono ?_; rintro e w2 ⟨rfl, rfl⟩)
      go_ret
      exact ⟨ret_bool HE.out, HB.out⟩
  · have HE : Hid (((unExt f : Int) == flg (k : Int)) = flaggedB f k) := by
      unfold flaggedB ownF
      rw [if_neg h78, Hid, Bool.eq_iff_iff, beq_iff_eq, decide_eq_true_iff]
    clear a32
    have d7 : ((k : Int) == 7) = false := by rw [beq_eq_false_iff_ne]; omega
    have d8 : ((k : Int) == 8) = false := by rw [beq_eq_false_iff_ne]; omega
    generalize unExt f = x at *
    generalize flaggedB f k = b at *
    go_enter Tryz.func94, Tryz.ntmps94
    go_wp2_with (go_at_call 93; refine (HFl.out _).mono ?_; rintro e w2 ⟨rfl, rfl⟩)
    go_ret
    exact ⟨ret_bool HE.out, HB.out⟩
end
theorem info_ntc : (Tryz.prog.info? 33).map (·.size) = some 3 := by kernel_rfl
set_option maxRecDepth 100000 in
set_option maxHeartbeats 2000000 in
theorem notice_any (s : Int) (A : Option Addr) (n c : Nat) (w : World) : Calls Tryz.prog 56 #[.int .i64 s, .slice A n c] w fun e w' => e = .returned (.agg (if s = 1 ∨ s = 11 then #[.int .i64 3, .int .i64 s, .slice none 0 0] else #[.int .i64 3, .int .i64 s, .slice A n c])) ∧ Below w.heap.size w w' := by
  by_cases h1 : s = 1
  · subst h1
    rw [if_pos (by simp)]
    go_enter Tryz.func56, Tryz.ntmps56
    go_wp2_with fail
    refine bodyPost_ret (results_cell_row rfl _ _ w.heap.size 33 _ (0, 0) _ rfl (Bk.new w _ _) Tryz.underlying33 rfl info_ntc) rfl ⟨rfl, (Below.refl _ _).alloc (Nat.le_refl _) _⟩
  · have d1 : (s == 1) = false := by rw [beq_eq_false_iff_ne]; exact h1
    by_cases h11 : s = 11
    · subst h11
      rw [if_pos (by simp)]
      go_enter Tryz.func56, Tryz.ntmps56
      go_wp2_with fail
      refine bodyPost_ret (results_cell_row rfl _ _ w.heap.size 33 _ (0, 0) _ rfl (Bk.new w _ _) Tryz.underlying33 rfl info_ntc) rfl ⟨rfl, (Below.refl _ _).alloc (Nat.le_refl _) _⟩
    · have d11 : (s == 11) = false := by rw [beq_eq_false_iff_ne]; exact h11
      rw [if_neg (by simp [h1, h11])]
      go_enter Tryz.func56, Tryz.ntmps56
      go_wp2_with fail
      refine bodyPost_ret (results_cell_row rfl _ _ w.heap.size 33 _ (0, 0) _ rfl (Bk.new w _ _) Tryz.underlying33 rfl info_ntc) rfl ⟨rfl, (Below.refl _ _).alloc (Nat.le_refl _) _⟩
end Go.Proofs.YtaeeeinpelfppaaGreat.attr
