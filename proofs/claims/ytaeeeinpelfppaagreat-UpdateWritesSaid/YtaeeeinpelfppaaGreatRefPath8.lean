/- What attr.next returns. Condition: at most 10^5 bytes. What confluenceref08.Path and numbers return. Condition: at most 10^5 bytes. -/
import Derived.Test.YtaeeeinpelfppaaGreatAttrOne
import Derived.Test.YtaeeeinpelfppaaGreatOctRef
import Derived.Deep.RegionHeld3
namespace Go.Proofs.YtaeeeinpelfppaaGreat.attr
open Go.RowKit Go.Proofs.YtaeeeinpelfppaaGreat.kit Go.Proofs.YtaeeeinpelfppaaGreat.mem Go.Proofs.YtaeeeinpelfppaaGreat.foot Go.Proofs.YtaeeeinpelfppaaGreat.nums Go.Proofs.YtaeeeinpelfppaaGreat.asn Go.Proofs.YtaeeeinpelfppaaGreat.pth Go.Proofs.YtaeeeinpelfppaaGreat.octet
set_option linter.unusedVariables false
set_option linter.unusedSimpArgs false
theorem rok_bad (l : List UInt8) (n : Int) : rok l true n = false ∧ rget l true n = [] ∧ rleft l true n = [] := by
  have h : rok l true n = false := by simp [rok]
  unfold rget rleft
  rw [h]
  exact ⟨rfl, rfl, rfl⟩
theorem rok_yes {l : List UInt8} {n : Nat} (h : n ≤ l.length) : rok l false (n : Int) = true ∧ rget l false (n : Int) = l.take n ∧ rleft l false (n : Int) = l.drop n := by
  have h1 : rok l false (n : Int) = true := by rw [rok_iff]; exact ⟨rfl, by omega, by omega⟩
  unfold rget rleft
  rw [if_pos h1, if_pos h1, Int.toNat_natCast]
  exact ⟨h1, rfl, rfl⟩
theorem rok_no {l : List UInt8} {n : Nat} (h : l.length < n) : rok l false (n : Int) = false ∧ rget l false (n : Int) = [] ∧ rleft l false (n : Int) = [] := by
  have h1 : rok l false (n : Int) = false := by
    rw [← Bool.not_eq_true, rok_iff]
    rintro ⟨_, _, h2⟩
    omega
  unfold rget rleft
  rw [h1]
  exact ⟨rfl, rfl, rfl⟩
/-- the bytes of a length -/
def lenB (f n : Nat) : List UInt8 := if ext f = true then [octet.byteOf ((n : Int) / 256), octet.byteOf (n : Int)] else [octet.byteOf (n : Int)]
theorem byte_id (b : UInt8) : octet.byteOf (b.toNat : Int) = b := by
  have h := byteOf_nat (b.toNat : Int)
  have h2 := b.toNat_lt
  apply UInt8.toNat_inj.1
  omega
theorem lenB_num {f : Nat} {t : List UInt8} (h : lenN f ≤ t.length) : lenB f (num (t.take (lenN f))) = t.take (lenN f) := by
  unfold lenB
  unfold lenN at h ⊢
  by_cases he : ext f = true
  · rw [if_pos he] at h ⊢
    rw [if_pos he]
    rcases t with _ | ⟨a, _ | ⟨b, t⟩⟩
    · simp at h
    · simp at h
    · have ha := a.toNat_lt
      have hb := b.toNat_lt
      have e : num ([a, b]) = a.toNat * 256 + b.toNat := by simp [num]
      show [octet.byteOf ((num [a, b] : Nat) / 256 : Int), octet.byteOf ((num [a, b] : Nat) : Int)] = [a, b]
      rw [e]
      have e1 : octet.byteOf (((a.toNat * 256 + b.toNat : Nat) : Int) / 256) = a := by
        have h := byteOf_nat (((a.toNat * 256 + b.toNat : Nat) : Int) / 256)
        apply UInt8.toNat_inj.1
        omega
      have e2 : octet.byteOf (((a.toNat * 256 + b.toNat : Nat) : Int)) = b := by
        have h := byteOf_nat (((a.toNat * 256 + b.toNat : Nat) : Int))
        apply UInt8.toNat_inj.1
        omega
      rw [e1, e2]
  · rw [if_neg he] at h ⊢
    rw [if_neg he]
    rcases t with _ | ⟨a, t⟩
    · simp at h
    · show [octet.byteOf ((num [a] : Nat) : Int)] = [a]
      rw [num1, byte_id]
/-- what the reads of one attribute give, whole or not -/
structure Nx (l : List UInt8) (f k n : Nat) (v : List UInt8) (l1 l2 l3 l4 : List UInt8) (b1 b2 b3 b4 : Bool) : Prop where
  f_ : num (rget l false 1) = f
  l1_ : rleft l false 1 = l1
  b1_ : (!rok l false 1) = b1
  k_ : num (rget l1 b1 1) = k
  l2_ : rleft l1 b1 1 = l2
  b2_ : (!rok l1 b1 1) = b2
  n_ : num (rget l2 b2 (lenN f : Int)) = n
  l3_ : rleft l2 b2 (lenN f : Int) = l3
  b3_ : (!rok l2 b2 (lenN f : Int)) = b3
  v_ : rget l3 b3 (n : Int) = v
  l4_ : rleft l3 b3 (n : Int) = l4
  b4_ : (!rok l3 b3 (n : Int)) = b4
  fl : f ≤ 255
  kl : k ≤ 255
  nl : n ≤ 65535
  vl : v.length ≤ l.length
  sum : (b4 = true ∧ att1 l = none) ∨ (b4 = false ∧ att1 l = some (⟨f, k, v, octet.byteOf (f : Int) :: octet.byteOf (k : Int) :: (lenB f n ++ v)⟩, l4))
theorem num_le {l : List UInt8} {b : Bool} {n : Nat} (h : n ≤ 2) : num (rget l b (n : Int)) ≤ 65535 ∧ (n ≤ 1 → num (rget l b (n : Int)) ≤ 255) := by
  have h1 := num_lt (rget l b (n : Int))
  have h2 := rget_le l b n
  refine ⟨?_, fun h3 => ?_⟩
  · have : 256 ^ (rget l b (n : Int)).length ≤ 256 ^ 2 := Nat.pow_le_pow_right (by omega) (by omega)
    omega
  · have : 256 ^ (rget l b (n : Int)).length ≤ 256 ^ 1 := Nat.pow_le_pow_right (by omega) (by omega)
    omega
theorem lenN_le (f : Nat) : lenN f ≤ 2 ∧ 1 ≤ lenN f := by unfold lenN; split <;> omega
theorem nx (l : List UInt8) : ∃ f k n v l1 l2 l3 l4 b1 b2 b3 b4, Nx l f k n v l1 l2 l3 l4 b1 b2 b3 b4 := by
  obtain ⟨f, hf⟩ : ∃ f, num (rget l false 1) = f := ⟨_, rfl⟩
  obtain ⟨l1, hl1⟩ : ∃ q, rleft l false 1 = q := ⟨_, rfl⟩
  obtain ⟨b1, hb1⟩ : ∃ q, (!rok l false 1) = q := ⟨_, rfl⟩
  obtain ⟨k, hk⟩ : ∃ q, num (rget l1 b1 1) = q := ⟨_, rfl⟩
  obtain ⟨l2, hl2⟩ : ∃ q, rleft l1 b1 1 = q := ⟨_, rfl⟩
  obtain ⟨b2, hb2⟩ : ∃ q, (!rok l1 b1 1) = q := ⟨_, rfl⟩
  obtain ⟨n, hn⟩ : ∃ q, num (rget l2 b2 (lenN f : Int)) = q := ⟨_, rfl⟩
  obtain ⟨l3, hl3⟩ : ∃ q, rleft l2 b2 (lenN f : Int) = q := ⟨_, rfl⟩
  obtain ⟨b3, hb3⟩ : ∃ q, (!rok l2 b2 (lenN f : Int)) = q := ⟨_, rfl⟩
  obtain ⟨v, hv⟩ : ∃ q, rget l3 b3 (n : Int) = q := ⟨_, rfl⟩
  obtain ⟨l4, hl4⟩ : ∃ q, rleft l3 b3 (n : Int) = q := ⟨_, rfl⟩
  obtain ⟨b4, hb4⟩ : ∃ q, (!rok l3 b3 (n : Int)) = q := ⟨_, rfl⟩
  refine ⟨f, k, n, v, l1, l2, l3, l4, b1, b2, b3, b4, hf, hl1, hb1, hk, hl2, hb2, hn, hl3, hb3, hv, hl4, hb4, ?_, ?_, ?_, ?_, ?_⟩
  · rw [← hf]; exact (num_le (n := 1) (by omega)).2 (by omega)
  · rw [← hk]; exact (num_le (n := 1) (by omega)).2 (by omega)
  · rw [← hn]; exact (num_le (lenN_le f).1).1
  · have h1 := rleft_len l false 1
    have h2 := rleft_len l1 b1 1
    have h3 := rleft_len l2 b2 (lenN f)
    have h4 := rget_len l3 b3 n
    rw [hl1] at h1
    rw [hl2] at h2
    rw [hl3] at h3
    rw [hv] at h4
    omega
  · have bad4 : b3 = true → b4 = true := fun h => by rw [← hb4, h, (rok_bad _ _).1]; rfl
    have bad3 : b2 = true → b4 = true := fun h => bad4 (by rw [← hb3, h, (rok_bad _ _).1]; rfl)
    have bad2 : b1 = true → b4 = true := fun h => bad3 (by rw [← hb2, h, (rok_bad _ _).1]; rfl)
    rcases l with _ | ⟨fb, _ | ⟨kb, t⟩⟩
    · exact .inl ⟨bad2 (by rw [← hb1, rok1n.1]; rfl), rfl⟩
    · have h1 := @rok1 fb []
      rw [h1.2.2] at hl1
      rw [h1.1] at hb1
      subst hl1 hb1
      refine .inl ⟨bad3 ?_, rfl⟩
      rw [← hb2]
      show (!rok [] false 1) = true
      rw [rok1n.1]
      rfl
    · have h1 := @rok1 fb (kb :: t)
      rw [h1.2.2] at hl1
      rw [h1.1] at hb1
      rw [h1.2.1, num1] at hf
      subst hl1 hb1
      have h2 := @rok1 kb t
      have hk' : num (rget (kb :: t) false 1) = k := hk
      have hl2' : rleft (kb :: t) false 1 = l2 := hl2
      have hb2' : (!rok (kb :: t) false 1) = b2 := hb2
      rw [h2.2.1, num1] at hk'
      rw [h2.2.2] at hl2'
      rw [h2.1] at hb2'
      subst hl2' hb2' hk' hf
      have hn' : num (rget t false (lenN fb.toNat : Int)) = n := hn
      have hl3' : rleft t false (lenN fb.toNat : Int) = l3 := hl3
      have hb3' : (!rok t false (lenN fb.toNat : Int)) = b3 := hb3
      by_cases hm : lenN fb.toNat ≤ t.length
      · have h3 := rok_yes hm
        rw [h3.2.1] at hn'
        rw [h3.2.2] at hl3'
        rw [h3.1] at hb3'
        subst hn' hl3' hb3'
        have hv' : rget (t.drop (lenN fb.toNat)) false (num (t.take (lenN fb.toNat)) : Int) = v := hv
        have hl4' : rleft (t.drop (lenN fb.toNat)) false (num (t.take (lenN fb.toNat)) : Int) = l4 := hl4
        have hb4' : (!rok (t.drop (lenN fb.toNat)) false (num (t.take (lenN fb.toNat)) : Int)) = b4 := hb4
        by_cases hc : num (t.take (lenN fb.toNat)) ≤ (t.drop (lenN fb.toNat)).length
        · have h4 := rok_yes hc
          rw [h4.2.1] at hv'
          rw [h4.2.2] at hl4'
          rw [h4.1] at hb4'
          subst hv' hl4' hb4'
          refine .inr ⟨rfl, ?_⟩
          dsimp only [att1]
          rw [if_pos ⟨hm, hc⟩, byte_id, byte_id, lenB_num hm]
        · have h4 := rok_no (Nat.lt_of_not_le hc)
          rw [h4.1] at hb4'
          refine .inl ⟨hb4'.symm, ?_⟩
          dsimp only [att1]
          rw [if_neg fun h => hc h.2]
      · have h3 := rok_no (Nat.lt_of_not_le hm)
        rw [h3.1] at hb3'
        refine .inl ⟨bad4 hb3'.symm, ?_⟩
        dsimp only [att1]
        rw [if_neg fun h => hm h.1]
/-- bytes read through a slice -/
structure Bn (w : World) (G : Foot) (A : Option Addr) (c : Nat) (l : List UInt8) : Prop where
  nil : A = none → c = 0
  cap : l.length ≤ c
  max : c ≤ maxLen
  rg : Rg w G 1 A l.length (bv l)
section
variable {w w' w2 : World} {F G H : Foot} {A : Option Addr} {c B b x : Nat} {l L : List UInt8}
theorem Bn.chg (h : Bn w G A c l) (hc : Chg F w w') (hd : ∀ k, k < w.heap.size → G k → ¬ F k) : Bn w' G A c l := ⟨h.nil, h.cap, h.max, h.rg.chg hc hd⟩
theorem Bn.mono (h : Bn w G A c l) (hG : ∀ k, k < w.heap.size → G k → H k) : Bn w H A c l := ⟨h.nil, h.cap, h.max, h.rg.mono hG⟩
theorem Bn.bel (h : Bn w G A c l) (hb : Below w.heap.size w w') : Bn w' G A c l := ⟨h.nil, h.cap, h.max, h.rg.bel hb⟩
theorem Bn.bs (h : Bn w G A c l) : Bs w w.heap.size A l := h.rg.rd
theorem Bn.of_own (h : foot.Own w 5 1 A l.length c (bv l)) : Bn w (sf A) A c l := ⟨h.nil, h.cap, h.max, h.rg⟩
theorem chg_only (h : Only w w' b) : Chg (fun k => ¬ Sep w b k) w w' := ⟨h.os, h.tape, h.output, h.size, fun k hk hn => (h.block k hk (Classical.not_not.1 hn)).1⟩
/-- a writer while another block turns -/
theorem wtr_grown (h : Wtr w B b L) (hg : w.grownBy w' (some x)) (hs : Sep w b x) : Wtr w' B b L ∧ rowOf w' b = rowOf w b := by
  have hlt := h.lt
  obtain ⟨h1, A, c, hk, ho⟩ := h
  have hk' := hk.grown hg (fun e => hs.1 (Option.some.inj e).symm)
  refine ⟨⟨h1, A, c, hk', ho.kept hg (.inr ?_)⟩, ?_⟩
  · intro e
    apply hs.2
    rw [Bk.row (cs := []) hk, e]
  · rw [Bk.row (cs := []) hk, Bk.row (cs := []) hk']
theorem wtr_low (h : Wtr w B b L) (hx : x < B) : Sep w b x := by
  obtain ⟨h1, A, c, hk, ho⟩ := h
  refine ⟨by omega, ?_⟩
  rw [Bk.row (cs := []) hk]
  intro e
  have := (ho.lt x e.symm).1
  omega
theorem sep_row (h : Sep w b x) (hr : rowOf w' b = rowOf w b) : Sep w' b x := ⟨h.1, by rw [hr]; exact h.2⟩
theorem sep_new (h : Wtr w B b L) (hr : rowOf w' b = rowOf w b) (hx : w.heap.size ≤ x) : Sep w' b x := by
  have hlt := h.lt
  obtain ⟨h1, A, c, hk, ho⟩ := h
  refine ⟨by omega, ?_⟩
  rw [hr, Bk.row (cs := []) hk]
  intro e
  have := (ho.lt x e.symm).2
  omega
end
/-- octet's Take: the bytes lie in a row of their own -/
theorem takeN_any (r : Nat) (l : List UInt8) (bad : Bool) (n : Int) (w : World) (hl : l.length ≤ 1099511627776) (hr : Rdr w r l bad) :
    Calls Tryz.prog 20 #[.pointer (some ⟨r, 0, none⟩), .int .i64 n] w fun e w' => ∃ A c, e = .returned (.slice A (rget l bad n).length c) ∧ Bn w' (fun k => w.heap.size ≤ k) A c (rget l bad n) ∧ Rdr w' r (rleft l bad n) (!rok l bad n) ∧ w.grownBy w' (some r) := by
  have HT := Lib.hid (take_any r l bad n w hr)
  have hg := rget_len l bad n
  clear hr
  go_enter Tryz.func20, Tryz.ntmps20
  go_wp2_with fail
  refine HT.out.mono ?_
  rintro e w1 ⟨⟨A, rfl, hA, hs⟩, hR, hG⟩
  have HC := Lib.hid (clone_any A (rget l bad n).length r (rget l bad n) w1 (by omega) hA (Nat.le_of_lt hR.lt) hs)
  have HR := Lib.hid hR
  have HG := Lib.hid hG
  clear hR hG hs hA
  go_wp2_with fail
  refine HC.out.mono ?_
  rintro e w2 ⟨A', c', rfl, h2, h3, h4, h5, h6, h7⟩
  have HF : Hid (Bn w2 (fun k => w.heap.size ≤ k) A' c' (rget l bad n)) := ⟨h2, h3, h4, Rg.of_rd h5 (Nat.le_refl _) fun ad e => Nat.le_trans HG.out.size (h7 ad e)⟩
  have HR2 := Lib.hid (HR.out.below h6 HR.out.lt)
  have HG2 := Lib.hid (grown_trans HG.out (grown_below h6 _))
  clear h2 h3 h4 h5 h6 h7
  go_wp2_with fail
  go_ret
  exact ⟨A', c', rfl, HF.out, HR2.out, HG2.out⟩
/-- the memory within attr.next -/
structure NQ (w : World) (r xb : Nat) (l : List UInt8) (bad : Bool) (L : List UInt8) (cs : Array Value) (wr : World) : Prop where
  rd : Rdr wr r l bad
  wt : Wtr wr (w.heap.size + 1) (w.heap.size + 1) L
  bx : Bk wr xb 90 cs
  sp : Sep wr (w.heap.size + 1) xb
  rs : Bk wr w.heap.size 90 #[.int .i64 0, .int .i64 0, .slice none 0 0, .slice none 0 0]
  gr : w.grownBy wr (some r)
  rl : r < w.heap.size
  xl : w.heap.size + 1 < xb
section
variable {w wr w' : World} {r xb : Nat} {l l' L L' : List UInt8} {bad bad' : Bool} {cs : Array Value}
theorem NQ.drewN (h : NQ w r xb l bad L cs wr) (n : Nat) : NQ w r xb l bad L cs (wr.drewN n) := ⟨h.rd, h.wt.below (below_drewN (Below.refl _ _) n), h.bx, h.sp, h.rs, grown_drewN h.gr n, h.rl, h.xl⟩
theorem NQ.write (h : NQ w r xb l bad L cs wr) (hw : Wtr w' (w.heap.size + 1) (w.heap.size + 1) L') (ho : Only wr w' (w.heap.size + 1)) : NQ w r xb l bad L' cs w' := by
  have hb := h.wt.only ho
  have hx := ho.block xb h.bx.lt h.sp
  have hr := h.rl
  exact ⟨h.rd.below hb (by omega), hw, hx.1.trans h.bx, hx.2, h.rs.below hb (by omega), ⟨hb.os.trans h.gr.os, hb.tape.trans h.gr.tape, hb.output.trans h.gr.output, Nat.le_trans h.gr.size hb.size, fun k hk hn => (hb.block k (by omega)).trans (h.gr.block k hk hn)⟩, h.rl, h.xl⟩
theorem NQ.read (h : NQ w r xb l bad L cs wr) (hr : Rdr w' r l' bad') (hg : wr.grownBy w' (some r)) : NQ w r xb l' bad' L cs w' := by
  have hrl := h.rl
  have hxl := h.xl
  have hw := wtr_grown h.wt hg (wtr_low h.wt (by omega))
  exact ⟨hr, hw.1, h.bx.grown hg (fun e => by have := Option.some.inj e; omega), sep_row h.sp hw.2, h.rs.grown hg (fun e => by have := Option.some.inj e; omega), grown_trans h.gr hg, hrl, hxl⟩
theorem NQ.put (h : NQ w r xb l bad L cs wr) (i : Nat) (v : Value) : NQ w r xb l bad L (cs.setIfInBounds i v) (wr.setCell ⟨xb, i, none⟩ v) := by
  have hrl := h.rl
  have hxl := h.xl
  have hg : wr.grownBy (wr.setCell ⟨xb, i, none⟩ v) (some xb) := grown_setCell (World.grownBy.refl wr _) (.inl rfl) v
  have hw := wtr_grown h.wt hg h.sp
  have hb : Below xb wr (wr.setCell ⟨xb, i, none⟩ v) := (Chg.grown (F := fun k => k = xb) hg (fun g e => (Option.some.inj e).symm)).below (fun k e => Nat.le_of_eq e.symm) (Nat.le_of_lt h.bx.lt)
  exact ⟨h.rd.below hb (by omega), hw.1, h.bx.put i v, sep_row h.sp hw.2, h.rs.below hb (by omega), ⟨hb.os.trans h.gr.os, hb.tape.trans h.gr.tape, hb.output.trans h.gr.output, Nat.le_trans h.gr.size hb.size, fun k hk hn => (hb.block k (by omega)).trans (h.gr.block k hk hn)⟩, hrl, hxl⟩
end
/-- .. ahead of the attribute's own block -/
structure N0 (w : World) (r : Nat) (l : List UInt8) (bad : Bool) (wr : World) : Prop where
  rd : Rdr wr r l bad
  wt : Wtr wr (w.heap.size + 1) (w.heap.size + 1) []
  rs : Bk wr w.heap.size 90 #[.int .i64 0, .int .i64 0, .slice none 0 0, .slice none 0 0]
  gr : w.grownBy wr (some r)
  rl : r < w.heap.size
section
variable {w wr w' : World} {r xb b : Nat} {l l' L L' v : List UInt8} {bad bad' : Bool} {cs : Array Value} {A : Option Addr} {c : Nat}
theorem N0.new (h : Rdr w r l bad) : N0 w r l bad ((w.alloc (.cells #[.int .i64 0, .int .i64 0, .slice none 0 0, .slice none 0 0] 90)).alloc (.cells #[.slice none 0 0] 71)) := by
  have hb : Below w.heap.size w ((w.alloc (.cells #[.int .i64 0, .int .i64 0, .slice none 0 0, .slice none 0 0] 90)).alloc (.cells #[.slice none 0 0] 71)) := ((Below.refl _ _).alloc (Nat.le_refl _) _).alloc (by simp) _
  refine ⟨h.below hb h.lt, ?_, (Bk.new w _ _).alloc _, grown_below hb _, h.lt⟩
  have := wtr_new (w.alloc (.cells #[.int .i64 0, .int .i64 0, .slice none 0 0, .slice none 0 0] 90))
  rwa [World.size_alloc] at this
theorem N0.read (h : N0 w r l bad wr) (hr : Rdr w' r l' bad') (hg : wr.grownBy w' (some r)) : N0 w r l' bad' w' := by
  have hrl := h.rl
  have hw := wtr_grown h.wt hg (wtr_low h.wt (by omega))
  exact ⟨hr, hw.1, h.rs.grown hg (fun e => by have := Option.some.inj e; omega), grown_trans h.gr hg, hrl⟩
theorem NQ.start (h : N0 w r l bad wr) (cs : Array Value) : NQ w r wr.heap.size l bad [] cs (wr.alloc (.cells cs 90)) := by
  have hb : Below wr.heap.size wr (wr.alloc (.cells cs 90)) := (Below.refl _ _).alloc (Nat.le_refl _) _
  refine ⟨h.rd.below hb h.rd.lt, h.wt.below hb, Bk.new wr _ _, ?_, h.rs.below hb h.rs.lt, grown_alloc h.gr _, h.rl, h.wt.lt⟩
  refine sep_new h.wt ?_ (Nat.le_refl _)
  unfold rowOf
  rw [hb.cell (p := ⟨w.heap.size + 1, 0, none⟩) h.wt.lt]
/-- the value's row, apart from the writer and the attribute's block -/
def VV (w : World) (xb : Nat) (A : Option Addr) (c : Nat) (v : List UInt8) (wr : World) : Prop := Bn wr (fun k => k < wr.heap.size ∧ Sep wr (w.heap.size + 1) k ∧ k ≠ xb ∧ w.heap.size < k) A c v
theorem VV.take (h : NQ w r xb l bad L cs wr) (hr : Rdr w' r l' bad') (hg : wr.grownBy w' (some r)) (hb : Bn w' (fun k => wr.heap.size ≤ k) A c v) : VV w xb A c v w' := by
  have hrl := h.rl
  have hw := wtr_grown h.wt hg (wtr_low h.wt (by omega))
  refine hb.mono fun k hk hx => ⟨hk, sep_new h.wt hw.2 hx, ?_, Nat.lt_of_lt_of_le h.rs.lt hx⟩
  have := h.bx.lt
  omega
theorem VV.put (h : VV w xb A c v wr) (hq : NQ w r xb l bad L cs wr) (i : Nat) (u : Value) : VV w xb A c v (wr.setCell ⟨xb, i, none⟩ u) := by
  have hg : wr.grownBy (wr.setCell ⟨xb, i, none⟩ u) (some xb) := grown_setCell (World.grownBy.refl wr _) (.inl rfl) u
  have hw := wtr_grown hq.wt hg hq.sp
  refine (Bn.chg (F := fun k => k = xb) h (Chg.grown hg fun g e => (Option.some.inj e).symm) fun k _ hk => hk.2.2.1).mono fun k hk hx => ⟨hk, sep_row hx.2.1 hw.2, hx.2.2⟩
theorem VV.write (h : VV w xb A c v wr) (ho : Only wr w' (w.heap.size + 1)) : VV w xb A c v w' :=
  (Bn.chg h (chg_only ho) fun k _ hk hn => hn hk.2.1).mono fun k hk hx => ⟨hk, (ho.block k hx.1 hx.2.1).2, hx.2.2⟩
theorem VV.bn (h : VV w xb A c v wr) : Bn wr (fun k => w.heap.size < k) A c v := Bn.mono h fun k _ hk => hk.2.2.2
end
/-- what attr.next hands back -/
def RetNx (l : List UInt8) (r : Nat) (w : World) (e : Ending) (w' : World) : Prop :=
  ∃ (f k : Nat) (vA : Option Addr) (v : List UInt8) (vc : Nat) (aA : Option Addr) (al : List UInt8) (ac : Nat) (q : List UInt8) (bad : Bool),
    e = .returned (.tuple #[.agg (oneV f k vA v.length vc aA al.length ac), .bool (!bad)]) ∧ Rdr w' r q bad ∧ w.grownBy w' (some r) ∧ Bn w' (fun k => w.heap.size ≤ k) vA vc v ∧ Bn w' (fun k => w.heap.size ≤ k) aA ac al ∧ f ≤ 255 ∧ k ≤ 255 ∧ v.length ≤ l.length ∧ q.length ≤ l.length ∧ ((bad = true ∧ att1 l = none) ∨ (bad = false ∧ att1 l = some (⟨f, k, v, al⟩, q)))
/-- a struct and a value handed back -/
theorem res_sv {P : Program} {fn : Func} {p m : Tmp} {ty : TypeId} (h : fn.results = #[.cell p ty, .tmp m]) (tmps : Array Value) (w : World) (g : Nat) (t : TypeId) (v : Value) (cs : Array Value) (fr : Nat × Nat) (d : TypeDesc)
    (hm : tmps.getD m undef = v) (hp : tmps.getD p undef = .pointer (some ⟨g, 0, none⟩)) (hg : w.heap[g]? = some (.cells cs t fr))
    (hu : P.underlying ty = some d) (hd : (match d with | .struct _ | .array _ _ => true | _ => false) = true) (hi : (P.info? ty).map (·.size) = some cs.size) :
    (results fn tmps).run P w = .ok (.tuple #[.agg cs, v]) w := by
  have hp' : tmps[p]?.getD undef = .pointer (some ⟨g, 0, none⟩) := by simpa using hp
  have hm' : tmps[m]?.getD undef = v := by simpa using hm
  simp [results, h, hp', hm', asAddr, run_loadVar_row w g t ty cs fr d hg hu hd hi]
theorem info_one : (Tryz.prog.info? 90).map (·.size) = some 4 := by kernel_rfl
set_option maxRecDepth 100000 in
set_option maxHeartbeats 8000000 in
theorem next_any (r : Nat) (l : List UInt8) (w : World) (hl : l.length ≤ 100000) (hr : Rdr w r l false) :
    Calls Tryz.prog 55 #[.pointer (some ⟨r, 0, none⟩)] w (RetNx l r w) := by
  obtain ⟨f, k, n, v, l1, l2, l3, l4, b1, b2, b3, b4, hx⟩ := nx l
  have HX := Lib.hid hx
  have HN0 := Lib.hid (N0.new hr)
  have hf := hx.fl
  have hk := hx.kl
  have hn := hx.nl
  have HL : Hid (l1.length ≤ l.length ∧ l2.length ≤ l.length ∧ l3.length ≤ l.length ∧ l4.length ≤ l.length) := by
    have h1 := rleft_len l false 1
    have h2 := rleft_len l1 b1 1
    have h3 := rleft_len l2 b2 (lenN f)
    have h4 := rleft_len l3 b3 n
    rw [hx.l1_] at h1
    rw [hx.l2_] at h2
    rw [hx.l3_] at h3
    rw [hx.l4_] at h4
    exact ⟨h1, by omega, by omega, by omega⟩
  have HU1 : Hid (∀ w', Rdr w' r l false → Calls Tryz.prog 90 #[.pointer (some ⟨r, 0, none⟩)] w' fun e w2 => e = .returned (.int .i64 (f : Int)) ∧ Rdr w2 r l1 b1 ∧ w'.grownBy w2 (some r)) := fun w' h => by
    have := u8_any r l false w' h
    rw [hx.f_, hx.l1_, hx.b1_] at this
    exact this
  have HU2 : Hid (∀ w', Rdr w' r l1 b1 → Calls Tryz.prog 90 #[.pointer (some ⟨r, 0, none⟩)] w' fun e w2 => e = .returned (.int .i64 (k : Int)) ∧ Rdr w2 r l2 b2 ∧ w'.grownBy w2 (some r)) := fun w' h => by
    have := u8_any r l1 b1 w' h
    rw [hx.k_, hx.l2_, hx.b2_] at this
    exact this
  have HTk : Hid (∀ w', Rdr w' r l3 b3 → Calls Tryz.prog 20 #[.pointer (some ⟨r, 0, none⟩), .int .i64 (n : Int)] w' fun e w2 => ∃ A c, e = .returned (.slice A v.length c) ∧ Bn w2 (fun k => w'.heap.size ≤ k) A c v ∧ Rdr w2 r l4 b4 ∧ w'.grownBy w2 (some r)) := fun w' h => by
    have := takeN_any r l3 b3 (n : Int) w' (by have := HL.out; omega) h
    rw [hx.v_, hx.l4_, hx.b4_] at this
    exact this
  have HBd := Lib.hid (fun (w' : World) (h : Rdr w' r l4 b4) => Bad_any r l4 b4 w' h)
  have HW8 : Hid (∀ (L : List UInt8) (m : Int) (w' : World), Wtr w' (w.heap.size + 1) (w.heap.size + 1) L → L.length ≤ 1000000 → Calls Tryz.prog 79 #[.pointer (some ⟨w.heap.size + 1, 0, none⟩), .int .i64 m] w' fun e w2 => e = .returned (.pointer (some ⟨w.heap.size + 1, 0, none⟩)) ∧ Wtr w2 (w.heap.size + 1) (w.heap.size + 1) (L ++ [octet.byteOf m]) ∧ Only w' w2 (w.heap.size + 1)) := fun L m w' h1 h2 => U8_any _ _ L m w' h1 (by omega)
  clear hr hx
  obtain ⟨w1, hw1⟩ : ∃ w1, w1 = (w.alloc (.cells #[.int .i64 0, .int .i64 0, .slice none 0 0, .slice none 0 0] 90)).alloc (.cells #[.slice none 0 0] 71) := ⟨_, rfl⟩
  rw [← hw1] at HN0
  go_enter Tryz.func55, Tryz.ntmps55
  go_upto_region 2 with fail
  rw [← hw1]
  clear hw1
  have HU1x := Lib.hid (HU1.out w1 HN0.out.rd)
  go_upto_region 3 with (first
    | (go_at_call 90; refine HU1x.out.mono ?_; rintro e w2 ⟨rfl, h1, h2⟩; have HN2 := Lib.hid (HN0.out.read h1 h2); have HU2x := Lib.hid (HU2.out w2 h1); clear h1 h2)
    | (go_at_call 90; refine HU2x.out.mono ?_; rintro e w3 ⟨rfl, h1, h2⟩; have HN3 := Lib.hid (HN2.out.read h1 h2); clear h1 h2))
  have HQ3 := Lib.hid (NQ.start HN3.out #[.int .i64 (f : Int), .int .i64 (k : Int), .slice none 0 0, .slice none 0 0])
  obtain ⟨xb, hxb⟩ : ∃ xb, xb = w3.heap.size := ⟨_, rfl⟩
  obtain ⟨w4, hw4⟩ : ∃ w4, w4 = w3.alloc (.cells #[.int .i64 (f : Int), .int .i64 (k : Int), .slice none 0 0, .slice none 0 0] 90) := ⟨_, rfl⟩
  rw [← hw4, ← hxb] at HQ3
  have HC : Hid (∀ w' l' b' L', NQ w r xb l' b' L' #[.int .i64 (f : Int), .int .i64 (k : Int), .slice none 0 0, .slice none 0 0] w' → w'.cell? ⟨xb, 0, none⟩ = some (.int .i64 (f : Int)) ∧ w'.cell? ⟨xb, 1, none⟩ = some (.int .i64 (k : Int))) := fun w' l' b' L' h => ⟨(h.bx.cell 0).trans rfl, (h.bx.cell 1).trans rfl⟩
  have HQd := Lib.hid (HQ3.out.drewN 1)
  have HS0 := Lib.hid (HC.out _ _ _ _ HQ3.out)
  have HSd : Hid (w4.drew.cell? ⟨xb, 0, none⟩ = some (.int .i64 (f : Int)) ∧ w4.drew.cell? ⟨xb, 1, none⟩ = some (.int .i64 (k : Int))) := HS0.out
  have HQd : Hid (NQ w r xb l2 b2 [] #[.int .i64 (f : Int), .int .i64 (k : Int), .slice none 0 0, .slice none 0 0] w4.drew) := HQd.out
  have HV1 := Lib.hid (HW8.out [] (f : Int) w4.drew HQd.out.wt (by simp))
  have HV2 := Lib.hid (fun w' h => HW8.out [octet.byteOf (f : Int)] (k : Int) w' h (by simp))
  rw [List.nil_append] at HV1
  rw [← hw4, ← hxb]
  clear hw4 hxb
  go_region_held3 (fun w' => w'.cell? ⟨xb, 0, none⟩ = some (.int .i64 (f : Int)) ∧ w'.cell? ⟨xb, 1, none⟩ = some (.int .i64 (k : Int))) (first | exact HS6.out | exact HS5.out | exact HSd.out | exact HS0.out) (first
    | (go_at_call 79; (with_reducible refine HV1.out.mono ?_); rintro e w5 ⟨rfl, h1, h2⟩; go_must (have HQ5 := Lib.hid (HQd.out.write h1 h2)); go_must (have HS5 := Lib.hid (HC.out _ _ _ _ HQ5.out)); go_must (have HV2x := Lib.hid (HV2.out w5 h1)); clear h1 h2)
    | (go_at_call 79; (with_reducible refine HV2x.out.mono ?_); rintro e w6 ⟨rfl, h1, h2⟩; go_must (have HQ6 := Lib.hid (HQ5.out.write h1 h2)); go_must (have HS6 := Lib.hid (HC.out _ _ _ _ HQ6.out)); clear h1 h2))
  obtain ⟨z0, z1⟩ := HS6.out
  have HB1 := Lib.hid (fun (L : List UInt8) (w' : World) (h : Wtr w' (w.heap.size + 1) (w.heap.size + 1) L) (hL : L.length ≤ 1000000) => BytesB_any (w.heap.size + 1) (w.heap.size + 1) L w' h (by omega))
  have HPt : Hid (∀ (L : List UInt8) (vA : Option Addr) (vc : Nat) (w' : World), Wtr w' (w.heap.size + 1) (w.heap.size + 1) L → L.length ≤ 1000 → VV w xb vA vc v w' → Calls Tryz.prog 42 #[.pointer (some ⟨w.heap.size + 1, 0, none⟩), .slice vA v.length vc] w' fun e w2 => e = .returned (.pointer (some ⟨w.heap.size + 1, 0, none⟩)) ∧ Wtr w2 (w.heap.size + 1) (w.heap.size + 1) (L ++ v) ∧ Only w' w2 (w.heap.size + 1)) := fun L vA vc w' h1 h2 h3 => Put_any _ _ L v vA vc _ w' h1 (by have := HX.out.vl; omega) h3.nil (Nat.le_refl _) h3.bn.bs
  have hvl : v.length ≤ 100000 := Nat.le_trans HX.out.vl hl
  obtain ⟨al, hal⟩ : ∃ al, al = octet.byteOf (f : Int) :: octet.byteOf (k : Int) :: (lenB f n ++ v) := ⟨_, rfl⟩
  have HAl := Lib.hid hal
  have hall : al.length ≤ 100004 := by
    rw [hal]
    have : (lenB f n).length ≤ 2 := by unfold lenB; split <;> simp
    simp
    omega
  have hal2 : al.length < 1000000 := by omega
  clear hal
  have HF : Hid (∀ vA vc aA ac (w' : World), NQ w r xb l4 b4 al (oneV f k vA v.length vc aA al.length ac) w' → VV w xb vA vc v w' → Bn w' (fun k => w.heap.size < k) aA ac al → RetNx l r w (.returned (.tuple #[.agg (oneV f k vA v.length vc aA al.length ac), .bool (!b4)])) (stores w' w.heap.size 0 (oneV f k vA v.length vc aA al.length ac).toList).drew) := fun vA vc aA ac w' hq hv ha => by
    have hc : Chg (fun k => k = w.heap.size) w' (stores w' w.heap.size 0 (oneV f k vA v.length vc aA al.length ac).toList).drew := (stores_chg _ 0 w').drew
    have hb : Below w.heap.size w' (stores w' w.heap.size 0 (oneV f k vA v.length vc aA al.length ac).toList).drew := hc.below (fun k e => Nat.le_of_eq e.symm) (Nat.le_of_lt hq.rs.lt)
    refine ⟨f, k, vA, v, vc, aA, al, ac, l4, b4, rfl, hq.rd.below hb hq.rl, ?_, (hv.bn.chg hc fun k _ h1 h2 => by omega).mono (fun k _ h => Nat.le_of_lt h), (ha.chg hc fun k _ h1 h2 => by omega).mono (fun k _ h => Nat.le_of_lt h), hf, hk, HX.out.vl, HL.out.2.2.2, ?_⟩
    · exact ⟨hb.os.trans hq.gr.os, hb.tape.trans hq.gr.tape, hb.output.trans hq.gr.output, Nat.le_trans hq.gr.size hb.size, fun k hk hn => (hb.block k hk).trans (hq.gr.block k hk hn)⟩
    · rw [HAl.out]
      exact HX.out.sum
  have HRs : Hid (∀ (V : List Value) (cs : Array Value) (w' : World), NQ w r xb l4 b4 al cs w' → V.length = 4 → Bk (stores w' w.heap.size 0 V) w.heap.size 90 V.toArray) := fun V cs w' hq hV => stores_all V hq.rs hV
  cases hext : ext f
  · have a16 : bits .and .i64 (f : Int) 16 = 0 := by rw [and16 f hf, hext]; rfl
    have hlen : lenN f = 1 := by unfold lenN; rw [hext]; rfl
    have HAe : Hid (al = [octet.byteOf (f : Int)] ++ [octet.byteOf (k : Int)] ++ [octet.byteOf (n : Int)] ++ v) := by
      rw [Hid, HAl.out]
      unfold lenB
      rw [hext]
      simp
    have HU3 : Hid (∀ w', Rdr w' r l2 b2 → Calls Tryz.prog 90 #[.pointer (some ⟨r, 0, none⟩)] w' fun e w2 => e = .returned (.int .i64 (n : Int)) ∧ Rdr w2 r l3 b3 ∧ w'.grownBy w2 (some r)) := fun w' h => by
      have := u8_any r l2 b2 w' h
      have h1 := HX.out.n_
      have h2 := HX.out.l3_
      have h3 := HX.out.b3_
      rw [hlen] at h1 h2 h3
      rw [show ((1 : Nat) : Int) = 1 from rfl] at h1 h2 h3
      rw [h1, h2, h3] at this
      exact this
    have HV3 : Hid (∀ w', Wtr w' (w.heap.size + 1) (w.heap.size + 1) ([octet.byteOf (f : Int)] ++ [octet.byteOf (k : Int)]) → Calls Tryz.prog 79 #[.pointer (some ⟨w.heap.size + 1, 0, none⟩), .int .i64 (n : Int)] w' fun e w2 => e = .returned (.pointer (some ⟨w.heap.size + 1, 0, none⟩)) ∧ Wtr w2 (w.heap.size + 1) (w.heap.size + 1) ([octet.byteOf (f : Int)] ++ [octet.byteOf (k : Int)] ++ [octet.byteOf (n : Int)]) ∧ Only w' w2 (w.heap.size + 1)) := fun w' h => U8_any _ _ _ (n : Int) w' h (by simp)
    clear hext hlen
    have HU3x := Lib.hid (HU3.out w6 HQ6.out.rd)
    go_upto_region 10 with (first
      | (go_at_call 90; refine HU3x.out.mono ?_; rintro e w7 ⟨rfl, h1, h2⟩; have HQ7 := Lib.hid (HQ6.out.read h1 h2); have HV3x := Lib.hid (HV3.out w7 HQ7.out.wt); clear h1 h2)
      | (go_at_call 79; refine HV3x.out.mono ?_; rintro e w8 ⟨rfl, h1, h2⟩; have HQ8 := Lib.hid (HQ7.out.write h1 h2); have HTx := Lib.hid (HTk.out w8 HQ8.out.rd); clear h1 h2))
    go_upto_region 11 with (go_at_call 20; refine HTx.out.mono ?_; rintro e w9 ⟨vA, vc, rfl, h1, h2, h3⟩; have HQ9 := Lib.hid (HQ8.out.read h2 h3); have HV9 := Lib.hid (VV.take HQ8.out h2 h3 h1); have q2 := HQ9.out.bx.cell 2; simp at q2; have qf := fun i => HQ9.out.bx.free i; clear h1 h2 h3)
    have HQa := Lib.hid (HQ9.out.put 2 (.slice vA v.length vc))
    have HVa := Lib.hid (VV.put HV9.out HQ9.out 2 (.slice vA v.length vc))
    obtain ⟨wa, hwa⟩ : ∃ wa, wa = w9.setCell ⟨xb, 2, none⟩ (.slice vA v.length vc) := ⟨_, rfl⟩
    rw [← hwa] at HQa HVa ⊢
    clear hwa q2 qf
    have HPx := Lib.hid (HPt.out _ vA vc wa HQa.out.wt (by simp) HVa.out)
    rw [← HAe.out] at HPx
    have q2 := HQa.out.bx.cell 2
    simp at q2
    go_upto_region 12 with (first
      | (go_at_call 42; refine HPx.out.mono ?_; rintro e wb ⟨rfl, h1, h2⟩; have HQb := Lib.hid (HQa.out.write h1 h2); have HVb := Lib.hid (VV.write HVa.out h2); have HBx := Lib.hid (HB1.out al wb HQb.out.wt (Nat.le_of_lt hal2)); clear h1 h2)
      | (go_at_call 43; refine HBx.out.mono ?_; rintro e wc ⟨aA, ac, rfl, h1, h2, h3⟩; have HQc := Lib.hid (HQb.out.write (HQb.out.wt.below h3) (only_below h3 HQb.out.wt.lt)); have HVc := Lib.hid (VV.write HVb.out (only_below h3 HQb.out.wt.lt)); have HOc := Lib.hid (And.intro h1 h2); have HBc := Lib.hid h3; have q3 := HQc.out.bx.cell 3; simp at q3; have qf := fun i => HQc.out.bx.free i; clear h1 h2 h3))
    have HQd := Lib.hid (HQc.out.put 3 (.slice aA al.length ac))
    have HVd := Lib.hid (VV.put HVc.out HQc.out 3 (.slice aA al.length ac))
    have HAd : Hid (Bn (wc.setCell ⟨xb, 3, none⟩ (.slice aA al.length ac)) (fun k => w.heap.size < k) aA ac al) := by
      have hg : wc.grownBy (wc.setCell ⟨xb, 3, none⟩ (.slice aA al.length ac)) (some xb) := grown_setCell (World.grownBy.refl wc _) (.inl rfl) _
      have h1 := Bn.of_own (HOc.out.1.chg (F := fun k => k = xb) (Chg.grown hg fun g e => (Option.some.inj e).symm) fun k _ hk e => by
        have := HOc.out.2 k hk
        have := HQb.out.bx.lt
        omega)
      exact h1.mono fun k _ hk => by
        have := HOc.out.2 k hk
        have := HQb.out.rs.lt
        omega
    obtain ⟨wd, hwd⟩ : ∃ wd, wd = wc.setCell ⟨xb, 3, none⟩ (.slice aA al.length ac) := ⟨_, rfl⟩
    rw [← hwd] at HQd HVd HAd ⊢
    clear hwd q3 qf q2
    have hcs : oneV f k vA v.length vc aA al.length ac = (((#[Value.int .i64 (f : Int), .int .i64 (k : Int), .slice none 0 0, .slice none 0 0] : Array Value).setIfInBounds 2 (.slice vA v.length vc)).setIfInBounds 3 (.slice aA al.length ac)) := rfl
    rw [← hcs] at HQd
    clear hcs
    have HBd0 := Lib.hid (HBd.out wd HQd.out.rd)
    have HBd1 : Hid (Calls Tryz.prog 22 #[.pointer (some ⟨r, 0, none⟩)] wd.drew fun e w' => e = .returned (.bool b4) ∧ wd.drew = w') := HBd.out wd.drew HQd.out.rd
    have r0 := HQd.out.bx.cell 0
    have r1 := HQd.out.bx.cell 1
    have r2 := HQd.out.bx.cell 2
    have r3 := HQd.out.bx.cell 3
    have s0 := HQd.out.rs.cell 0
    have s1 := HQd.out.rs.cell 1
    have s2 := HQd.out.rs.cell 2
    have s3 := HQd.out.rs.cell 3
    simp [oneV] at r0 r1 r2 r3 s0 s1 s2 s3
    have sf := fun i => HQd.out.rs.free i
    have HFx := Lib.hid (HF.out vA vc aA ac wd HQd.out HVd.out HAd.out)
    go_region_with (go_at_call 22; (first | refine HBd0.out.mono ?_ | refine HBd1.out.mono ?_); rintro e w' ⟨rfl, rfl⟩)
    all_goals (go_wp2_with fail; exact bodyPost_ret (res_sv rfl _ _ w.heap.size 90 (.bool (!b4)) (oneV f k vA v.length vc aA al.length ac) (0, 0) _ rfl rfl (HRs.out (oneV f k vA v.length vc aA al.length ac).toList _ wd HQd.out rfl) Tryz.underlying90 rfl info_one) rfl HFx.out)
  · have a16 : bits .and .i64 (f : Int) 16 = 16 := by rw [and16 f hf, hext]; rfl
    have hlen : lenN f = 2 := by unfold lenN; rw [hext]; rfl
    have HAe : Hid (al = [octet.byteOf (f : Int)] ++ [octet.byteOf (k : Int)] ++ [octet.byteOf ((n : Int) / 256), octet.byteOf (n : Int)] ++ v) := by
      rw [Hid, HAl.out]
      unfold lenB
      rw [hext]
      simp
    have HU3 : Hid (∀ w', Rdr w' r l2 b2 → Calls Tryz.prog 21 #[.pointer (some ⟨r, 0, none⟩)] w' fun e w2 => e = .returned (.int .i64 (n : Int)) ∧ Rdr w2 r l3 b3 ∧ w'.grownBy w2 (some r)) := fun w' h => by
      have := u16_any r l2 b2 w' h
      have h1 := HX.out.n_
      have h2 := HX.out.l3_
      have h3 := HX.out.b3_
      rw [hlen] at h1 h2 h3
      rw [show ((2 : Nat) : Int) = 2 from rfl] at h1 h2 h3
      rw [h1, h2, h3] at this
      exact this
    have HV3 : Hid (∀ w', Wtr w' (w.heap.size + 1) (w.heap.size + 1) ([octet.byteOf (f : Int)] ++ [octet.byteOf (k : Int)]) → Calls Tryz.prog 83 #[.pointer (some ⟨w.heap.size + 1, 0, none⟩), .int .i64 (n : Int)] w' fun e w2 => e = .returned (.pointer (some ⟨w.heap.size + 1, 0, none⟩)) ∧ Wtr w2 (w.heap.size + 1) (w.heap.size + 1) ([octet.byteOf (f : Int)] ++ [octet.byteOf (k : Int)] ++ [octet.byteOf ((n : Int) / 256), octet.byteOf (n : Int)]) ∧ Only w' w2 (w.heap.size + 1)) := fun w' h => U16_any _ _ _ (n : Int) w' h (by simp)
    clear hext hlen
    have HU3x := Lib.hid (HU3.out w6 HQ6.out.rd)
    go_upto_region 10 with (first
      | (go_at_call 21; refine HU3x.out.mono ?_; rintro e w7 ⟨rfl, h1, h2⟩; have HQ7 := Lib.hid (HQ6.out.read h1 h2); have HV3x := Lib.hid (HV3.out w7 HQ7.out.wt); clear h1 h2)
      | (go_at_call 83; refine HV3x.out.mono ?_; rintro e w8 ⟨rfl, h1, h2⟩; have HQ8 := Lib.hid (HQ7.out.write h1 h2); have HTx := Lib.hid (HTk.out w8 HQ8.out.rd); clear h1 h2))
    go_upto_region 11 with (go_at_call 20; refine HTx.out.mono ?_; rintro e w9 ⟨vA, vc, rfl, h1, h2, h3⟩; have HQ9 := Lib.hid (HQ8.out.read h2 h3); have HV9 := Lib.hid (VV.take HQ8.out h2 h3 h1); have q2 := HQ9.out.bx.cell 2; simp at q2; have qf := fun i => HQ9.out.bx.free i; clear h1 h2 h3)
    have HQa := Lib.hid (HQ9.out.put 2 (.slice vA v.length vc))
    have HVa := Lib.hid (VV.put HV9.out HQ9.out 2 (.slice vA v.length vc))
    obtain ⟨wa, hwa⟩ : ∃ wa, wa = w9.setCell ⟨xb, 2, none⟩ (.slice vA v.length vc) := ⟨_, rfl⟩
    rw [← hwa] at HQa HVa ⊢
    clear hwa q2 qf
    have HPx := Lib.hid (HPt.out _ vA vc wa HQa.out.wt (by simp) HVa.out)
    rw [← HAe.out] at HPx
    have q2 := HQa.out.bx.cell 2
    simp at q2
    go_upto_region 12 with (first
      | (go_at_call 42; refine HPx.out.mono ?_; rintro e wb ⟨rfl, h1, h2⟩; have HQb := Lib.hid (HQa.out.write h1 h2); have HVb := Lib.hid (VV.write HVa.out h2); have HBx := Lib.hid (HB1.out al wb HQb.out.wt (Nat.le_of_lt hal2)); clear h1 h2)
      | (go_at_call 43; refine HBx.out.mono ?_; rintro e wc ⟨aA, ac, rfl, h1, h2, h3⟩; have HQc := Lib.hid (HQb.out.write (HQb.out.wt.below h3) (only_below h3 HQb.out.wt.lt)); have HVc := Lib.hid (VV.write HVb.out (only_below h3 HQb.out.wt.lt)); have HOc := Lib.hid (And.intro h1 h2); have HBc := Lib.hid h3; have q3 := HQc.out.bx.cell 3; simp at q3; have qf := fun i => HQc.out.bx.free i; clear h1 h2 h3))
    have HQd := Lib.hid (HQc.out.put 3 (.slice aA al.length ac))
    have HVd := Lib.hid (VV.put HVc.out HQc.out 3 (.slice aA al.length ac))
    have HAd : Hid (Bn (wc.setCell ⟨xb, 3, none⟩ (.slice aA al.length ac)) (fun k => w.heap.size < k) aA ac al) := by
      have hg : wc.grownBy (wc.setCell ⟨xb, 3, none⟩ (.slice aA al.length ac)) (some xb) := grown_setCell (World.grownBy.refl wc _) (.inl rfl) _
      have h1 := Bn.of_own (HOc.out.1.chg (F := fun k => k = xb) (Chg.grown hg fun g e => (Option.some.inj e).symm) fun k _ hk e => by
        have := HOc.out.2 k hk
        have := HQb.out.bx.lt
        omega)
      exact h1.mono fun k _ hk => by
        have := HOc.out.2 k hk
        have := HQb.out.rs.lt
        omega
    obtain ⟨wd, hwd⟩ : ∃ wd, wd = wc.setCell ⟨xb, 3, none⟩ (.slice aA al.length ac) := ⟨_, rfl⟩
    rw [← hwd] at HQd HVd HAd ⊢
    clear hwd q3 qf q2
    have hcs : oneV f k vA v.length vc aA al.length ac = (((#[Value.int .i64 (f : Int), .int .i64 (k : Int), .slice none 0 0, .slice none 0 0] : Array Value).setIfInBounds 2 (.slice vA v.length vc)).setIfInBounds 3 (.slice aA al.length ac)) := rfl
    rw [← hcs] at HQd
    clear hcs
    have HBd0 := Lib.hid (HBd.out wd HQd.out.rd)
    have HBd1 : Hid (Calls Tryz.prog 22 #[.pointer (some ⟨r, 0, none⟩)] wd.drew fun e w' => e = .returned (.bool b4) ∧ wd.drew = w') := HBd.out wd.drew HQd.out.rd
    have r0 := HQd.out.bx.cell 0
    have r1 := HQd.out.bx.cell 1
    have r2 := HQd.out.bx.cell 2
    have r3 := HQd.out.bx.cell 3
    have s0 := HQd.out.rs.cell 0
    have s1 := HQd.out.rs.cell 1
    have s2 := HQd.out.rs.cell 2
    have s3 := HQd.out.rs.cell 3
    simp [oneV] at r0 r1 r2 r3 s0 s1 s2 s3
    have sf := fun i => HQd.out.rs.free i
    have HFx := Lib.hid (HF.out vA vc aA ac wd HQd.out HVd.out HAd.out)
    go_region_with (go_at_call 22; (first | refine HBd0.out.mono ?_ | refine HBd1.out.mono ?_); rintro e w' ⟨rfl, rfl⟩)
    all_goals (go_wp2_with fail; exact bodyPost_ret (res_sv rfl _ _ w.heap.size 90 (.bool (!b4)) (oneV f k vA v.length vc aA al.length ac) (0, 0) _ rfl rfl (HRs.out (oneV f k vA v.length vc aA al.length ac).toList _ wd HQd.out rfl) Tryz.underlying90 rfl info_one) rfl HFx.out)
end Go.Proofs.YtaeeeinpelfppaaGreat.attr

namespace Go.Proofs.YtaeeeinpelfppaaGreat.attr
open Go.RowKit Go.Proofs.YtaeeeinpelfppaaGreat.kit Go.Proofs.YtaeeeinpelfppaaGreat.mem Go.Proofs.YtaeeeinpelfppaaGreat.foot Go.Proofs.YtaeeeinpelfppaaGreat.nums Go.Proofs.YtaeeeinpelfppaaGreat.asn Go.Proofs.YtaeeeinpelfppaaGreat.pth Go.Proofs.YtaeeeinpelfppaaGreat.octet
set_option linter.unusedVariables false
set_option linter.unusedSimpArgs false
/-- within a piece: so many numbers are read -/
structure PR (w : World) (sb : Nat) (kd : Int) (xs : List Nat) (Aa : Option Addr) (ca : Nat) (Ao : Option Addr) (co : Nat) (vs : List Value) (out : List Sg) (wr : World) : Prop where
  bx : Bk wr sb 128 #[.int .i64 kd, .slice Aa xs.length ca]
  as_ : Acc w 26 1 wr Aa xs.length ca (uv xs)
  lo : ∀ k, sf Aa k → sb < k
  ls : Lst 2 rSeg 128 (fun k => w.heap.size ≤ k ∧ k < sb) w wr Ao out.length co vs out
  hi : ∀ k, sf Ao k → k < sb
  ws : w.heap.size ≤ sb
section
variable {w wr w3 w4 : World} {sb x c' ca co : Nat} {kd : Int} {xs : List Nat} {Aa Ao A' : Option Addr} {vs : List Value} {out : List Sg}
theorem PR.start (h : Lst 2 rSeg 128 (fun k => w.heap.size ≤ k) w wr Ao out.length co vs out) (kd : Int) : PR w wr.heap.size kd [] none 0 Ao co vs out (wr.alloc (.cells #[.int .i64 kd, .slice none 0 0] 128)) := by
  have hb : Below wr.heap.size wr (wr.alloc (.cells #[.int .i64 kd, .slice none 0 0] 128)) := (Below.refl _ _).alloc (Nat.le_refl _) _
  exact ⟨Bk.new wr _ _, ⟨foot.Own.none_ _ _ _, h.acc.bel.trans (hb.mono h.acc.bel.size), fun k e => absurd e (sf_none k)⟩, fun k e => absurd e (sf_none k), (h.wide keeps_seg fun k hk hB => ⟨hB, hk⟩).go keeps_seg hb, fun k hk => h.acc.own.lt k hk, h.acc.bel.size⟩
theorem PR.go (h : PR w sb kd xs Aa ca Ao co vs out wr) (hb : Below wr.heap.size wr w3) : PR w sb kd xs Aa ca Ao co vs out w3 :=
  ⟨h.bx.below hb h.bx.lt, h.as_.go hb, h.lo, h.ls.go keeps_seg hb, h.hi, h.ws⟩
theorem PR.put (h : PR w sb kd xs Aa ca Ao co vs out wr) (ho : foot.Own w4 26 1 A' (xs.length + 1) c' (uv xs ++ [.int .u32 (x : Int)])) (hc : Chg (sf Aa) (wr.alloc (.cells #[.int .u32 (x : Int)] 26)) w4) (hf : Fresh (wr.alloc (.cells #[.int .u32 (x : Int)] 26)) (sf Aa) (sf A')) :
    Bk w4 sb 128 #[.int .i64 kd, .slice Aa xs.length ca] ∧ PR w sb kd (xs ++ [x]) A' c' Ao co vs out (w4.setCell ⟨sb, 1, none⟩ (.slice A' (xs.length + 1) c')) := by
  have hb : Below wr.heap.size wr (wr.alloc (.cells #[.int .u32 (x : Int)] 26)) := (Below.refl _ _).alloc (Nat.le_refl _) _
  have hsb := h.bx.lt
  have hws := h.ws
  have hAsb : ¬ sf Aa sb := fun e => by have := h.lo _ e; omega
  have hbx4 : Bk w4 sb 128 #[.int .i64 kd, .slice Aa xs.length ca] := (h.bx.below hb hsb).chg hc hAsb
  have hlo' : ∀ k, sf A' k → sb < k := fun k hk => by
    rcases hf k hk with e | e
    · exact h.lo k e
    · have := hb.size; omega
  have hst : Chg (fun k => k = sb) w4 (w4.setCell ⟨sb, 1, none⟩ (.slice A' (xs.length + 1) c')) := (Chg.refl (fun k => k = sb) w4).put (p := ⟨sb, 1, none⟩) (.inl rfl) _
  have hac : Acc w 26 1 w4 A' (xs.length + 1) c' (uv xs ++ [.int .u32 (x : Int)]) := (h.as_.go hb).app ho hc hf
  have hlow : ∀ k, sf Aa k → w.heap.size ≤ k := h.as_.low
  have hls4 : Lst 2 rSeg 128 (fun k => w.heap.size ≤ k ∧ k < sb) w w4 Ao out.length co vs out := Lst.turn keeps_seg (h.ls.go keeps_seg hb) hc hlow (fun k hk e => by have := h.hi k hk; have := h.lo k e; omega) (fun k hk e => by have := hk.2; have := h.lo k e; omega)
  refine ⟨hbx4, ?_, ?_, hlo', ?_, h.hi, hws⟩
  · rw [List.length_append]
    have := hbx4.put 1 (.slice A' (xs.length + 1) c')
    simpa using this
  · rw [List.length_append, uv_app]
    exact Acc.turn hac hst (fun k e => by omega) (fun k hk e => by have := hlo' k hk; omega)
  · exact Lst.turn keeps_seg hls4 hst (fun k e => by omega) (fun k hk e => by have := h.hi k hk; omega) (fun k hk e => by have := hk.2; omega)
end
end Go.Proofs.YtaeeeinpelfppaaGreat.attr
