/- The walk of the law NoticeWrites: the Go text returns true and writes nothing that was there. No condition. -/
import Derived.Test.YthoclemgiopjpaaDoorNoticeJudge
import Derived.Test.YthoclemgiopjpaaDoorNoticeReadsWalk
import Derived.Deep.RegionHeld3
import Derived.Deep.RegionWith
import Derived.Deep.OwnRows
import Derived.Laws.OwnMore
namespace Go.Proofs.YthoclemgiopjpaaDoor.noticeWrites
open Go.RowKit Go.Proofs.YthoclemgiopjpaaDoor.kit Go.Proofs.YthoclemgiopjpaaDoor.mem Go.Proofs.YthoclemgiopjpaaDoor.foot Go.Proofs.YthoclemgiopjpaaDoor.octet Go.Proofs.YthoclemgiopjpaaDoor.told Go.Proofs.YthoclemgiopjpaaDoor.notice Go.Proofs.YthoclemgiopjpaaDoor.noticeReads
set_option linter.unusedVariables false
set_option linter.unusedSimpArgs false

theorem Bytes_300 (A : Option Addr) (c B : Nat) (l : List UInt8) (w : World) (hcap : l.length ≤ c) (hm : l.length ≤ maxLen) (hA : A = none → c = 0) (hB : B ≤ w.heap.size) (hs : Bs w B A l) :
    Calls Tryd.prog 11 #[.slice A l.length c, .int .i64 300] w (RetBytes (l.take 300) w) := Bytes_law A c B l 300 w (Or.inr (by omega)) hcap hm hA hB hs
theorem Bytes_5000 (A : Option Addr) (c B : Nat) (l : List UInt8) (w : World) (hcap : l.length ≤ c) (hm : l.length ≤ maxLen) (hA : A = none → c = 0) (hB : B ≤ w.heap.size) (hs : Bs w B A l) (hl : l.length ≤ 5000) :
    Calls Tryd.prog 11 #[.slice A l.length c, .int .i64 5000] w (RetBytes l w) := by
  have h := Bytes_law A c B l 5000 w (Or.inr (by omega)) hcap hm hA hB hs
  rw [List.take_of_length_le hl] at h
  exact h

theorem own_new (w : World) (e : TypeId) (base size n : Nat) (cs : Array Value) (hb : base ≤ w.heap.size) (hn : n ≤ maxLen) (hs : cs.size = n * size) : (w.alloc (.cells cs e)).ownsRow base e size (.slice (some ⟨w.heap.size, 0, none⟩) n n) n cs.toList :=
  ⟨by simpa using hs, .inr ⟨w.heap.size, n, cs, rfl, hb, heap_alloc_new w _, Nat.le_refl _, hn, hs, List.take_of_length_le (by simp; omega)⟩⟩

theorem good_byte (c s : Int) (n : Nat) (hg : goodB c s n = true) : (((octet.byteOf c).toNat : Int) = c ∧ ((octet.byteOf s).toNat : Int) = s) ∧ 1 ≤ c ∧ c ≤ 255 ∧ 0 ≤ s ∧ s ≤ 255 ∧ n ≤ 4075 := by
  have h : ((1 ≤ c ∧ c ≤ 255) ∧ 0 ≤ s) ∧ s ≤ 255 ∧ n ≤ 4075 := by simpa [goodB, and_assoc] using hg
  refine ⟨⟨?_, ?_⟩, by omega⟩
  · rw [byteOf_nat]; omega
  · rw [byteOf_nat]; omega

theorem Decode_good (A : Option Addr) (k B : Nat) (c s : Int) (t : List UInt8) (w : World) (hg : goodB c s t.length = true) (hA : A = none → k = 0) (hB : B ≤ w.heap.size) (hs : Bs w B A (octet.byteOf c :: octet.byteOf s :: t)) :
    Calls Tryd.prog 12 #[.slice A (t.length + 2) k] w fun e w' => ∃ A' k', e = .returned (.tuple #[.agg #[.int .i64 c, .int .i64 s, .slice A' t.length k'], .bool true]) ∧ Bs w' w'.heap.size A' t ∧ Below w.heap.size w w' := by
  obtain ⟨⟨e1, e2⟩, h1, h2, h3, h4, h5⟩ := good_byte c s t.length hg
  refine (Decode_two A k B (octet.byteOf c) (octet.byteOf s) t w h5 hA hB hs).mono ?_
  rintro e w' ⟨A', k', rfl, g1, g2, g3, g4, g5⟩
  have hd : decide (1 ≤ ((octet.byteOf c).toNat : Int)) = true := by rw [e1]; simp; omega
  rw [hd, e1, e2]
  exact ⟨A', k', rfl, g4 (by omega), g5⟩

/-- what region 1 leaves -/
def St (c1 s1 c2 s2 : Int) (x1 x2 : List UInt8) (W w : World) : Prop :=
  ∃ A3 k3 A4 k4, Bk w W.heap.size 24 #[.int .i64 c1, .int .i64 s1, .slice A3 x1.length k3] ∧ Bk w (W.heap.size + 1) 24 #[.int .i64 c2, .int .i64 s2, .slice A4 x2.length k4] ∧
    Bs w w.heap.size A3 x1 ∧ Bs w w.heap.size A4 x2 ∧ (A3 = none → k3 = 0) ∧ x1.length ≤ k3 ∧ k3 ≤ maxLen ∧ Below W.heap.size W w

theorem made_zero (k : Nat) : madeCells #[Value.int .u8 0] k = Array.replicate k (.int .u8 0) := by
  exact Array.ext' (by rw [toList_madeCells_one]; simp)

theorem st_of {c1 s1 c2 s2 : Int} {A1 A2 A3 A4 : Option Addr} {n1 k1 n2 k2 k3 k4 : Nat} {x1 x2 : List UInt8} {W w : World} (hz : W.heap.size ≤ w.heap.size)
    (hn : Bk w W.heap.size 24 #[.int .i64 c1, .int .i64 s1, .slice A1 n1 k1]) (hm : Bk w (W.heap.size + 1) 24 #[.int .i64 c2, .int .i64 s2, .slice A2 n2 k2])
    (b3 : Bs w w.heap.size A3 x1) (b4 : Bs w w.heap.size A4 x2) (h1 : A3 = none → k3 = 0) (h2 : x1.length ≤ k3) (h3 : k3 ≤ maxLen) (hb : Below W.heap.size W w) :
    St c1 s1 c2 s2 x1 x2 W ((w.setCell ⟨W.heap.size, 2, none⟩ (.slice A3 x1.length k3)).setCell ⟨W.heap.size + 1, 2, none⟩ (.slice A4 x2.length k4)) := by
  have m1 := hm.far (p := ⟨W.heap.size, 2, none⟩) (by simp) (.slice A3 x1.length k3)
  have e : ((w.setCell ⟨W.heap.size, 2, none⟩ (.slice A3 x1.length k3)).setCell ⟨W.heap.size + 1, 2, none⟩ (.slice A4 x2.length k4)).heap.size = w.heap.size := by simp [World.setCell]
  refine ⟨A3, k3, A4, k4, (hn.put 2 _).far (p := ⟨W.heap.size + 1, 2, none⟩) (by simp) _, m1.put 2 _, ?_, ?_, h1, h2, h3, (hb.setCell (p := ⟨W.heap.size, 2, none⟩) (Nat.le_refl _) _).setCell (p := ⟨W.heap.size + 1, 2, none⟩) (by simp) _⟩
  · rw [e]; exact bs_far (bs_far b3 hn noB 2 _) m1 noB 2 _
  · rw [e]; exact bs_far (bs_far b4 hn noB 2 _) m1 noB 2 _

theorem st_of1 {c1 s1 c2 s2 : Int} {A1 A4 A3 : Option Addr} {n1 k1 k4 k3 : Nat} {x1 x2 : List UInt8} {W w : World} (hz : W.heap.size ≤ w.heap.size)
    (hn : Bk w W.heap.size 24 #[.int .i64 c1, .int .i64 s1, .slice A1 n1 k1]) (hm : Bk w (W.heap.size + 1) 24 #[.int .i64 c2, .int .i64 s2, .slice A4 x2.length k4])
    (b3 : Bs w w.heap.size A3 x1) (b4 : Bs w w.heap.size A4 x2) (h1 : A3 = none → k3 = 0) (h2 : x1.length ≤ k3) (h3 : k3 ≤ maxLen) (hb : Below W.heap.size W w) :
    St c1 s1 c2 s2 x1 x2 W (w.setCell ⟨W.heap.size, 2, none⟩ (.slice A3 x1.length k3)) := by
  have e : (w.setCell ⟨W.heap.size, 2, none⟩ (.slice A3 x1.length k3)).heap.size = w.heap.size := by simp [World.setCell]
  refine ⟨A3, k3, A4, k4, hn.put 2 _, hm.far (p := ⟨W.heap.size, 2, none⟩) (by simp) _, ?_, ?_, h1, h2, h3, hb.setCell (p := ⟨W.heap.size, 2, none⟩) (Nat.le_refl _) _⟩
  · rw [e]; exact bs_far b3 hn noB 2 _
  · rw [e]; exact bs_far b4 hn noB 2 _

/-- .. region 3 too -/
def St2 (c1 s1 c2 s2 : Int) (x2 : List UInt8) (W w : World) : Prop := ∃ x : List UInt8, x.length ≤ 4078 ∧ St c1 s1 c2 s2 x x2 W w

set_option maxRecDepth 100000 in
set_option maxHeartbeats 4000000 in
theorem core (c1 s1 c2 s2 : Int) (A1 A2 : Option Addr) (k1 k2 : Nat) (l1 l2 : List UInt8) (long : Int) (hl0 : 0 ≤ long) (hl1 : long ≤ 255) (W : World)
    (hA1 : A1 = none → k1 = 0) (hc1 : l1.length ≤ k1) (hm1 : l1.length ≤ maxLen) (hs1 : Bs W W.heap.size A1 l1)
    (hA2 : A2 = none → k2 = 0) (hc2 : l2.length ≤ k2) (hm2 : l2.length ≤ maxLen) (hs2 : Bs W W.heap.size A2 l2) :
    Calls Tryd.prog 5 #[.agg #[.int .i64 c1, .int .i64 s1, .slice A1 l1.length k1], .agg #[.int .i64 c2, .int .i64 s2, .slice A2 l2.length k2], .int .u8 long] W fun e w' => e = .returned (.bool true) ∧ Below W.heap.size W w' := by
  have hb0 := ((Below.refl W.heap.size W).alloc (Nat.le_refl _) (.cells #[.int .i64 c1, .int .i64 s1, .slice A1 l1.length k1] 24)).alloc (by simp) (.cells #[.int .i64 c2, .int .i64 s2, .slice A2 l2.length k2] 24)
  have hn : Bk ((W.alloc (.cells #[.int .i64 c1, .int .i64 s1, .slice A1 l1.length k1] 24)).alloc (.cells #[.int .i64 c2, .int .i64 s2, .slice A2 l2.length k2] 24)) W.heap.size 24 #[.int .i64 c1, .int .i64 s1, .slice A1 l1.length k1] := (Bk.new W _ _).alloc _
  have hm : Bk ((W.alloc (.cells #[.int .i64 c1, .int .i64 s1, .slice A1 l1.length k1] 24)).alloc (.cells #[.int .i64 c2, .int .i64 s2, .slice A2 l2.length k2] 24)) (W.heap.size + 1) 24 #[.int .i64 c2, .int .i64 s2, .slice A2 l2.length k2] := by have := Bk.new (W.alloc (.cells #[.int .i64 c1, .int .i64 s1, .slice A1 l1.length k1] 24)) 24 #[.int .i64 c2, .int .i64 s2, .slice A2 l2.length k2]; simpa using this
  have HN := Lib.hid hn
  have HM := Lib.hid hm
  have HB := Lib.hid hb0
  have HS1 := Lib.hid (hs1.below hb0 (Nat.le_refl _))
  have HS2 := Lib.hid (hs2.below hb0 (Nat.le_refl _))
  have HP : Hid ((A1 = none → k1 = 0) ∧ l1.length ≤ k1 ∧ l1.length ≤ maxLen ∧ (A2 = none → k2 = 0) ∧ l2.length ≤ k2 ∧ l2.length ≤ maxLen) := ⟨hA1, hc1, hm1, hA2, hc2, hm2⟩
  clear hA1 hc1 hm1 hs1 hA2 hc2 hm2 hs2 hb0 hn hm
  go_enter Tryd.func5, Tryd.ntmps5
  go_wp2_with fail
  obtain ⟨W2, hW2⟩ : ∃ x, x = (W.alloc (.cells #[.int .i64 c1, .int .i64 s1, .slice A1 l1.length k1] 24)).alloc (.cells #[.int .i64 c2, .int .i64 s2, .slice A2 l2.length k2] 24) := ⟨_, rfl⟩
  simp only [← hW2] at HN HM HB HS1 HS2 ⊢
  clear hW2
  obtain ⟨x1, hx1⟩ : ∃ x, x = l1.take 300 := ⟨_, rfl⟩
  obtain ⟨x2, hx2⟩ : ∃ x, x = l2.take 300 := ⟨_, rfl⟩
  have hxl : x1.length ≤ 300 ∧ x2.length ≤ 300 := by subst hx1 hx2; simp; omega
  have HS := Lib.hid (And.intro HN.out.lt HM.out.lt)
  have HQ : Hid (∀ w', Below W2.heap.size W2 w' → Bk w' W.heap.size 24 #[.int .i64 c1, .int .i64 s1, .slice A1 l1.length k1] ∧ Bk w' (W.heap.size + 1) 24 #[.int .i64 c2, .int .i64 s2, .slice A2 l2.length k2] ∧ w'.cell? ⟨W.heap.size, 2, none⟩ = some (.slice A1 l1.length k1) ∧ w'.cell? ⟨W.heap.size + 1, 2, none⟩ = some (.slice A2 l2.length k2) ∧ Below W.heap.size W w') := fun w' h =>
    ⟨HN.out.below h HS.out.1, HM.out.below h HS.out.2, (HN.out.below h HS.out.1).cell 2, (HM.out.below h HS.out.2).cell 2, HB.out.trans (h.mono HB.out.size)⟩
  have HBy1 : Hid (∀ w', Below W2.heap.size W2 w' → Calls Tryd.prog 11 #[.slice A1 l1.length k1, .int .i64 300] w' (RetBytes x1 w')) := fun w' h => by
    have hz := HB.out.size
    rw [hx1]; exact Bytes_300 A1 k1 W.heap.size l1 w' HP.out.2.1 HP.out.2.2.1 HP.out.1 (Nat.le_trans hz h.size) (HS1.out.below h hz)
  have HBy2 : Hid (∀ w', Below W2.heap.size W2 w' → Calls Tryd.prog 11 #[.slice A2 l2.length k2, .int .i64 300] w' (RetBytes x2 w')) := fun w' h => by
    have hz := HB.out.size
    rw [hx2]; exact Bytes_300 A2 k2 W.heap.size l2 w' HP.out.2.2.2.2.1 HP.out.2.2.2.2.2 HP.out.2.2.2.1 (Nat.le_trans hz h.size) (HS2.out.below h hz)
  clear hx1 hx2 HB HS1 HS2 HN HM
  have n2 := (HQ.out _ (Below.refl _ _)).2.2.1
  have m2 := (HQ.out _ (Below.refl _ _)).2.2.2.1
  have HXc : Hid (Below W2.heap.size W2 W2.drew) := (Below.refl _ _).drew
  go_cut [] (fun wx => St c1 s1 c2 s2 x1 x2 W wx)
  case first =>
    go_region_with (first
      | (go_at_call_of 11 (Value.slice A1 l1.length k1); refine (HBy1.out _ (by exact HXc.out)).mono ?_; rintro e w3 ⟨A3, k3, rfl, g2, g3, g4, g5, g6, g7⟩; have HX3 := Lib.hid (HXc.out.trans (g6.mono HXc.out.size)); have HR3 := Lib.hid (And.intro g2 (And.intro g3 (And.intro g4 g5))); have HXc := HX3; have n2 := (HQ.out _ HXc.out).2.2.1; have m2 := (HQ.out _ HXc.out).2.2.2.1; clear g2 g3 g4 g5 g6 g7)
      | (go_at_call_of 11 (Value.slice A2 l2.length k2); refine (HBy2.out _ (by exact HXc.out)).mono ?_; rintro e w4 ⟨A4, k4, rfl, g2, g3, g4, g5, g6, g7⟩; have HX4 := Lib.hid (HXc.out.trans (g6.mono HXc.out.size)); have HR4 := Lib.hid (And.intro g2 (And.intro g3 (And.intro g4 g5))); have HY4 := Lib.hid g6; have HXc := HX4; have n2 := (HQ.out _ HXc.out).2.2.1; have m2 := (HQ.out _ HXc.out).2.2.2.1; have nf := fun i => (HQ.out _ HXc.out).1.free i; have mf := fun i => (HQ.out _ HXc.out).2.1.free i; clear g2 g3 g4 g5 g6 g7))
    all_goals
      go_wp2_with fail
      go_meet
      exact st_of (Nat.le_trans (Nat.le_of_lt HS.out.1) HXc.out.size) (HQ.out _ HXc.out).1 (HQ.out _ HXc.out).2.1 ((HR3.out.2.2.2.below HY4.out (Nat.le_refl _)).more HY4.out.size) HR4.out.2.2.2 HR3.out.1 HR3.out.2.1 HR3.out.2.2.1 (HQ.out _ HXc.out).2.2.2.2
  case rest =>
  have hst : St c1 s1 c2 s2 x1 x2 W wc := hcut
  clear HXc n2 m2 HBy1 HBy2 HQ HS hcut
  obtain ⟨m, rfl⟩ := Int.eq_ofNat_of_zero_le hl0
  have HSt := Lib.hid hst
  obtain ⟨A3, k3, A4, k4, b1, b2, b3, b4, b5, b6, b7, b8⟩ := hst
  have nf := fun i => b1.free i
  have n2 := b1.cell 2
  have HB1 := Lib.hid b1
  have HB2 := Lib.hid b2
  have HB4 := Lib.hid b4
  have HB8 := Lib.hid b8
  clear b1 b2 b3 b4 b5 b6 b7 b8
  go_upto_if 20 with fail
  go_cut [] (fun wx => St2 c1 s1 c2 s2 x2 W wx)
  case first =>
    by_cases hlo : 250 < m
    · have hmk := run_make_row' (P := Tryd.prog) 22 5 (.int .u8 0) 1 Tryd.underlying22 info_u8 rfl .i64 .i64 (3823 + m) (by omega) (by omega)
      have wl : IntKind.i64.wrap (m : Int) = m := IntWalk.i64_in _ (by omega)
      have e : ((3823 + m : Nat) : Int) = 4075 + (m : Int) - 252 := by omega
      rw [e] at hmk
      have mf := fun i => (HB1.out.alloc (.cells (madeCells #[.int .u8 0] (3823 + m)) 5)).free i
      have mc := (HB1.out.alloc (.cells (madeCells #[.int .u8 0] (3823 + m)) 5)).cell 2
      have hB1' := HB1.out.alloc (.cells (madeCells #[.int .u8 0] (3823 + m)) 5)
      have hB2' := HB2.out.alloc (.cells (madeCells #[.int .u8 0] (3823 + m)) 5)
      have HB1' := Lib.hid hB1'
      have HB2' := Lib.hid hB2'
      clear hB1' hB2' e
      go_wp2_with fail
      go_meet
      have hN : Bs (wc.alloc (.cells (madeCells #[.int .u8 0] (3823 + m)) 5)) (wc.heap.size + 1) (some ⟨wc.heap.size, 0, none⟩) (List.replicate (3823 + m) (0 : UInt8)) := bs_new _ _ _ (by rw [made_zero]; simp [bv])
      obtain ⟨y, hy⟩ : ∃ y, y = List.replicate (3823 + m) (0 : UInt8) := ⟨_, rfl⟩
      have hyl : y.length = 3823 + m := by rw [hy]; simp
      rw [← hy] at hN
      have hz8 := HB8.out.size
      have hst := st_of1 (k3 := 3823 + m) (by simp; omega) HB1'.out HB2'.out (hN.more (by simp)) ((HB4.out.below ((Below.refl _ _).alloc (Nat.le_refl _) _) (Nat.le_refl _)).more (by simp)) (by simp) (Nat.le_of_eq hyl) (show 3823 + m ≤ 9223372036854775807 by omega) (HB8.out.alloc HB8.out.size _)
      rw [hyl] at hst
      exact ⟨y, by omega, hst⟩
    · go_wp2_with fail
      go_meet
      exact ⟨x1, by omega, HSt.out⟩
  case rest =>
  obtain ⟨x, hx, A3, k3, A4, k4, b1, b2, b3, b4, b5, b6, b7, b8⟩ := hcut
  clear HB1 HB2 HB4 HB8 HSt nf n2
  have HU : Hid (∀ w', Below wc.heap.size wc w' → (w'.cell? ⟨W.heap.size, 0, none⟩ = some (.int .i64 c1) ∧ w'.cell? ⟨W.heap.size, 1, none⟩ = some (.int .i64 s1) ∧ w'.cell? ⟨W.heap.size, 2, none⟩ = some (.slice A3 x.length k3) ∧ w'.cell? ⟨W.heap.size + 1, 0, none⟩ = some (.int .i64 c2) ∧ w'.cell? ⟨W.heap.size + 1, 1, none⟩ = some (.int .i64 s2) ∧ w'.cell? ⟨W.heap.size + 1, 2, none⟩ = some (.slice A4 x2.length k4)) ∧ Bs w' wc.heap.size A3 x ∧ Bs w' wc.heap.size A4 x2 ∧ wc.heap.size ≤ w'.heap.size ∧ Below W.heap.size W w') := fun w' h =>
    ⟨⟨(b1.below h b1.lt).cell 0, (b1.below h b1.lt).cell 1, (b1.below h b1.lt).cell 2, (b2.below h b2.lt).cell 0, (b2.below h b2.lt).cell 1, (b2.below h b2.lt).cell 2⟩, b3.below h (Nat.le_refl _), b4.below h (Nat.le_refl _), h.size, b8.trans (h.mono b8.size)⟩
  have HP3 : Hid ((A3 = none → k3 = 0) ∧ x.length ≤ k3 ∧ x.length ≤ maxLen) := ⟨b5, b6, Nat.le_trans b6 b7⟩
  have HXc : Hid (Below wc.heap.size wc wc.drew) := (Below.refl _ _).drew
  have nn := (HU.out _ HXc.out).1
  have hlt1 := b1.lt
  have hlt2 := b2.lt
  have HSa : Hid (∀ w', Below wc.heap.size wc w' → Calls Tryd.prog 16 #[.agg #[.int .i64 c1, .int .i64 s1, .slice A3 x.length k3], .agg #[.int .i64 c2, .int .i64 s2, .slice A4 x2.length k4]] w' fun e w'' => e = .returned (.bool (sameB c1 s1 c2 s2 x x2)) ∧ Below w'.heap.size w' w'') := fun w' h => Same_any c1 s1 c2 s2 A3 A4 k3 k4 wc.heap.size wc.heap.size x x2 w' (HU.out _ h).2.2.2.1 (HU.out _ h).2.2.2.1 (HU.out _ h).2.1 (HU.out _ h).2.2.1
  have HT1 : Hid (∀ w', Below wc.heap.size wc w' → Calls Tryd.prog 8 #[.agg #[.int .i64 c1, .int .i64 s1, .slice A3 x.length k3], .agg #[.int .i64 c2, .int .i64 s2, .slice A4 x2.length k4]] w' fun e w'' => e = .returned (.bool (sameB c1 s1 c2 s2 x x2)) ∧ Below w'.heap.size w' w'') := fun w' h => Told_any c1 s1 c2 s2 A3 A4 k3 k4 wc.heap.size wc.heap.size x x2 w' (HU.out _ h).2.2.2.1 (HU.out _ h).2.2.2.1 (HU.out _ h).2.1 (HU.out _ h).2.2.1
  have HT2 : Hid (∀ w', Below wc.heap.size wc w' → Calls Tryd.prog 8 #[.agg #[.int .i64 c1, .int .i64 s1, .slice A3 x.length k3], .agg #[.int .i64 0, .int .i64 0, .slice none 0 0]] w' fun e w'' => e = .returned (.bool (noneB c1 s1 x)) ∧ Below w'.heap.size w' w'') := fun w' h => Told_any c1 s1 0 0 A3 none k3 0 wc.heap.size 0 x [] w' (HU.out _ h).2.2.2.1 (Nat.zero_le _) (HU.out _ h).2.1 (Rd.nil _ _ _ _)
  have HNo : Hid (∀ w', Calls Tryd.prog 17 #[.agg #[.int .i64 c1, .int .i64 s1, .slice A3 x.length k3]] w' fun e w'' => e = .returned (.bool (noneB c1 s1 x)) ∧ Below w'.heap.size w' w'') := fun w' => None_any c1 s1 A3 k3 x w'
  have hgo : ∀ w', Calls Tryd.prog 14 #[.agg #[.int .i64 c1, .int .i64 s1, .slice A3 x.length k3]] w' fun e w'' => e = .returned (.bool (goodB c1 s1 x.length)) ∧ Below w'.heap.size w' w'' := fun w' => Good_any c1 s1 A3 x.length k3 w'
  have hrg : ∀ w', Calls Tryd.prog 15 #[.agg #[.int .i64 c1, .int .i64 s1, .slice A3 x.length k3]] w' fun e w'' => e = .returned (.bool (goodB c1 s1 x.length)) ∧ Below w'.heap.size w' w'' := fun w' => rGood_any c1 s1 A3 x.length k3 w'
  clear b1 b2 b3 b4 b5 b6 b7 b8
  generalize sameB c1 s1 c2 s2 x x2 = bs at *
  generalize noneB c1 s1 x = bn at *
  cases hg : goodB c1 s1 x.length
  · rw [hg] at hgo hrg
    have HGo := Lib.hid hgo
    have HRg := Lib.hid hrg
    clear hgo hrg
    go_wp2_with fail
    go_region_held3 (fun w' => w'.cell? ⟨W.heap.size, 0, none⟩ = some (.int .i64 c1) ∧ w'.cell? ⟨W.heap.size, 1, none⟩ = some (.int .i64 s1) ∧ w'.cell? ⟨W.heap.size, 2, none⟩ = some (.slice A3 x.length k3) ∧ w'.cell? ⟨W.heap.size + 1, 0, none⟩ = some (.int .i64 c2) ∧ w'.cell? ⟨W.heap.size + 1, 1, none⟩ = some (.int .i64 s2) ∧ w'.cell? ⟨W.heap.size + 1, 2, none⟩ = some (.slice A4 x2.length k4)) (exact nn) (first
      | (go_at_call 11; refine (Bytes_5000 A3 k3 wc.heap.size x _ HP3.out.2.1 HP3.out.2.2 HP3.out.1 (HU.out _ HXc.out).2.2.2.1 (HU.out _ HXc.out).2.1 (by omega)).mono ?_; rintro e w5 ⟨A5, k5, rfl, g2, g3, g4, g5, hb, g7⟩; go_must (have HR5 := Lib.hid (And.intro g2 g5)); clear g2 g3 g4 g5 g7; go_must (have HXc := Lib.hid (HXc.out.trans (hb.mono HXc.out.size))); go_must (have nn := (HU.out _ HXc.out).1); clear hb)
      | (go_at_call 13; refine (Encode_no c1 s1 A5 x.length k5 _ hg).mono ?_; rintro e w6 ⟨rfl, hb⟩; go_must (have HXc := Lib.hid (HXc.out.trans (hb.mono HXc.out.size))); go_must (have nn := (HU.out _ HXc.out).1); clear hb))
    go_wp2_with fail
    have HXc := Lib.hid HXc.out.drew
    go_region_held3 (fun w' => w'.cell? ⟨W.heap.size, 0, none⟩ = some (.int .i64 c1) ∧ w'.cell? ⟨W.heap.size, 1, none⟩ = some (.int .i64 s1) ∧ w'.cell? ⟨W.heap.size, 2, none⟩ = some (.slice A3 x.length k3) ∧ w'.cell? ⟨W.heap.size + 1, 0, none⟩ = some (.int .i64 c2) ∧ w'.cell? ⟨W.heap.size + 1, 1, none⟩ = some (.int .i64 s2) ∧ w'.cell? ⟨W.heap.size + 1, 2, none⟩ = some (.slice A4 x2.length k4)) (exact nn) (first
      | (go_at_call 14; refine (HGo.out _).mono ?_; rintro e w7 ⟨rfl, hb⟩; go_must (have HXc := Lib.hid (HXc.out.trans (hb.mono HXc.out.size))); go_must (have nn := (HU.out _ HXc.out).1); clear hb)
      | (go_at_call 15; refine (HRg.out _).mono ?_; rintro e w7 ⟨rfl, hb⟩; go_must (have HXc := Lib.hid (HXc.out.trans (hb.mono HXc.out.size))); go_must (have nn := (HU.out _ HXc.out).1); clear hb)
      | (go_at_call 16; refine (HSa.out _ HXc.out).mono ?_; rintro e w7 ⟨rfl, hb⟩; go_must (have HXc := Lib.hid (HXc.out.trans (hb.mono HXc.out.size))); go_must (have nn := (HU.out _ HXc.out).1); clear hb)
      | (go_at_call 17; refine (HNo.out _).mono ?_; rintro e w7 ⟨rfl, hb⟩; go_must (have HXc := Lib.hid (HXc.out.trans (hb.mono HXc.out.size))); go_must (have nn := (HU.out _ HXc.out).1); clear hb)
      | (go_at_call_of 8 (Value.agg #[.int .i64 c2, .int .i64 s2, .slice A4 x2.length k4]); refine (HT1.out _ HXc.out).mono ?_; rintro e w7 ⟨rfl, hb⟩; go_must (have HXc := Lib.hid (HXc.out.trans (hb.mono HXc.out.size))); go_must (have nn := (HU.out _ HXc.out).1); clear hb)
      | (go_at_call_of 8 (Value.agg #[.int .i64 0, .int .i64 0, .slice none 0 0]); refine (HT2.out _ HXc.out).mono ?_; rintro e w7 ⟨rfl, hb⟩; go_must (have HXc := Lib.hid (HXc.out.trans (hb.mono HXc.out.size))); go_must (have nn := (HU.out _ HXc.out).1); clear hb))
    obtain ⟨n0, n1, n2, _, _, _⟩ := nn
    have hl7 : W.heap.size < w7.heap.size := Nat.lt_of_lt_of_le hlt1 HXc.out.size
    go_wp2_with fail
    refine (HRg.out _).mono ?_; rintro e w8 ⟨rfl, hb⟩
    have HXc := Lib.hid (HXc.out.trans (hb.mono HXc.out.size))
    clear hb
    go_wp2_with fail
    refine (lives_any w8).mono ?_; rintro e w9 ⟨rfl, hb⟩
    have HXc := Lib.hid (HXc.out.trans (hb.mono HXc.out.size))
    clear hb
    go_wp2_with fail
    go_ret
    exact ⟨rfl, (HU.out _ HXc.out).2.2.2.2⟩
  · rw [hg] at hgo hrg
    have HGo := Lib.hid hgo
    have HRg := Lib.hid hrg
    clear hgo hrg
    go_wp2_with fail
    go_region_held3 (fun w' => w'.cell? ⟨W.heap.size, 0, none⟩ = some (.int .i64 c1) ∧ w'.cell? ⟨W.heap.size, 1, none⟩ = some (.int .i64 s1) ∧ w'.cell? ⟨W.heap.size, 2, none⟩ = some (.slice A3 x.length k3) ∧ w'.cell? ⟨W.heap.size + 1, 0, none⟩ = some (.int .i64 c2) ∧ w'.cell? ⟨W.heap.size + 1, 1, none⟩ = some (.int .i64 s2) ∧ w'.cell? ⟨W.heap.size + 1, 2, none⟩ = some (.slice A4 x2.length k4)) (exact nn) (first
      | (go_at_call 11; refine (Bytes_5000 A3 k3 wc.heap.size x _ HP3.out.2.1 HP3.out.2.2 HP3.out.1 (HU.out _ HXc.out).2.2.2.1 (HU.out _ HXc.out).2.1 (by omega)).mono ?_; rintro e w5 ⟨A5, k5, rfl, g2, g3, g4, g5, hb, g7⟩; go_must (have HR5 := Lib.hid (And.intro g2 g5)); clear g2 g3 g4 g5 g7; go_must (have HXc := Lib.hid (HXc.out.trans (hb.mono HXc.out.size))); go_must (have nn := (HU.out _ HXc.out).1); clear hb)
      | (go_at_call 13; refine (Encode_yes c1 s1 A5 k5 w5.heap.size x _ hg HR5.out.1 (Nat.le_refl _) HR5.out.2).mono ?_; rintro e w6 ⟨A6, k6, rfl, g2, g3, g4, g5, hb⟩; go_must (have HR6 := Lib.hid (And.intro g2 (And.intro g3 (And.intro g4 (And.intro g5 (Nat.le_refl w6.heap.size)))))); clear g2 g3 g4 g5; go_must (have HXc := Lib.hid (HXc.out.trans (hb.mono HXc.out.size))); go_must (have nn := (HU.out _ HXc.out).1); clear hb))
    go_wp2_with fail
    have HXc := Lib.hid HXc.out.drew
    have HX6 : Hid (Below w6.heap.size w6 w6.drew) := (Below.refl _ _).drew
    go_region_held3 (fun w' => w'.cell? ⟨W.heap.size, 0, none⟩ = some (.int .i64 c1) ∧ w'.cell? ⟨W.heap.size, 1, none⟩ = some (.int .i64 s1) ∧ w'.cell? ⟨W.heap.size, 2, none⟩ = some (.slice A3 x.length k3) ∧ w'.cell? ⟨W.heap.size + 1, 0, none⟩ = some (.int .i64 c2) ∧ w'.cell? ⟨W.heap.size + 1, 1, none⟩ = some (.int .i64 s2) ∧ w'.cell? ⟨W.heap.size + 1, 2, none⟩ = some (.slice A4 x2.length k4)) (exact nn) (first
      | (go_at_call 14; refine (HGo.out _).mono ?_; rintro e w7 ⟨rfl, hb⟩; go_must (have HXc := Lib.hid (HXc.out.trans (hb.mono HXc.out.size))); go_must (have nn := (HU.out _ HXc.out).1); go_must (have HX6 := Lib.hid (HX6.out.trans (hb.mono HX6.out.size))); clear hb)
      | (go_at_call 15; refine (HRg.out _).mono ?_; rintro e w7 ⟨rfl, hb⟩; go_must (have HXc := Lib.hid (HXc.out.trans (hb.mono HXc.out.size))); go_must (have nn := (HU.out _ HXc.out).1); go_must (have HX6 := Lib.hid (HX6.out.trans (hb.mono HX6.out.size))); clear hb)
      | (go_at_call 16; refine (HSa.out _ HXc.out).mono ?_; rintro e w7 ⟨rfl, hb⟩; go_must (have HXc := Lib.hid (HXc.out.trans (hb.mono HXc.out.size))); go_must (have nn := (HU.out _ HXc.out).1); go_must (have HX6 := Lib.hid (HX6.out.trans (hb.mono HX6.out.size))); clear hb)
      | (go_at_call 17; refine (HNo.out _).mono ?_; rintro e w7 ⟨rfl, hb⟩; go_must (have HXc := Lib.hid (HXc.out.trans (hb.mono HXc.out.size))); go_must (have nn := (HU.out _ HXc.out).1); go_must (have HX6 := Lib.hid (HX6.out.trans (hb.mono HX6.out.size))); clear hb)
      | (go_at_call_of 8 (Value.agg #[.int .i64 c2, .int .i64 s2, .slice A4 x2.length k4]); refine (HT1.out _ HXc.out).mono ?_; rintro e w7 ⟨rfl, hb⟩; go_must (have HXc := Lib.hid (HXc.out.trans (hb.mono HXc.out.size))); go_must (have nn := (HU.out _ HXc.out).1); go_must (have HX6 := Lib.hid (HX6.out.trans (hb.mono HX6.out.size))); clear hb)
      | (go_at_call_of 8 (Value.agg #[.int .i64 0, .int .i64 0, .slice none 0 0]); refine (HT2.out _ HXc.out).mono ?_; rintro e w7 ⟨rfl, hb⟩; go_must (have HXc := Lib.hid (HXc.out.trans (hb.mono HXc.out.size))); go_must (have nn := (HU.out _ HXc.out).1); go_must (have HX6 := Lib.hid (HX6.out.trans (hb.mono HX6.out.size))); clear hb))
    obtain ⟨n0, n1, n2, _, _, _⟩ := nn
    have hl7 : W.heap.size < w7.heap.size := Nat.lt_of_lt_of_le hlt1 HXc.out.size
    go_wp2_with fail
    refine (HRg.out _).mono ?_; rintro e w8 ⟨rfl, hb⟩
    have HXc := Lib.hid (HXc.out.trans (hb.mono HXc.out.size))
    have HX6 := Lib.hid (HX6.out.trans (hb.mono HX6.out.size))
    clear hb
    obtain ⟨i0, hi, hz0, hz1, hz2⟩ := info_parts info_u8
    have HE := Lib.hid (own_empty w8 5 w8.heap.size (Nat.le_refl _))
    have hxc := HXc.out
    have hx6 := HX6.out
    have hr6 := HR6.out
    have he8 : Below w8.heap.size w8 (w8.alloc (.cells #[] 5)) := (Below.refl _ _).alloc (Nat.le_refl _) _
    have HG8 : Hid (Rd (w8.alloc (.cells #[] 5)) w6.heap.size 1 A6 (x.length + 2) (bv ([octet.byteOf c1, octet.byteOf s1] ++ x))) := Rd.below (hr6.2.2.2.1 : Bs w6 w6.heap.size A6 ([octet.byteOf c1, octet.byteOf s1] ++ x)) (hx6.trans (he8.mono hx6.size)) (Nat.le_refl _)
    have HE8 := Lib.hid he8
    have Hi := Lib.hid hi
    have Hz0 := Lib.hid hz0
    have Hz1 := Lib.hid hz1
    have Hz2 := Lib.hid hz2
    clear hi hz0 hz1 hz2 hxc hx6 hr6 he8
    go_wp2_with (at_builtin; refine wpList_append_sl rfl (.tmp 75) (.tmp 76) _ rfl w8.heap.size 5 i0 _ 1 1 Tryd.underlying22 Hi.out Hz0.out Hz1.out Hz2.out rfl (by omega) (.slice (some ⟨w8.heap.size, 0, none⟩) 0 0) 0 [] rfl HE.out w6.heap.size A6 (x.length + 2) k6 HR6.out.1 (bv ([octet.byteOf c1, octet.byteOf s1] ++ x)) rfl HG8.out (bv_one _) (by unfold maxLen; omega) (by omega) (by simp) ?_; intro A7 c7 w9 hown hgr hat; have HO9 := Lib.hid hown; have HG9 := Lib.hid hgr; clear hown hgr hat)
    have ho9 := HO9.out
    rw [Nat.zero_add, List.nil_append] at ho9
    have hs7 : Bs w9 w9.heap.size A7 (octet.byteOf c1 :: octet.byteOf s1 :: x) := Rd.of_own ho9
    obtain ⟨A', c', e, hA7, _, _⟩ := own_form ho9
    injection e with e1 e2 e3
    subst e1 e3
    have hb9 : Below w8.heap.size w8 w9 := HE8.out.trans (below_grown HG9.out HE8.out.size (fun g e => (HE.out.lt g e).1))
    have HXc := Lib.hid (HXc.out.trans (hb9.mono HXc.out.size))
    have HX6 := Lib.hid (HX6.out.trans (hb9.mono HX6.out.size))
    clear hb9 ho9 HG8 HE HE8 HG9 HO9
    refine (Decode_good A7 c7 w9.heap.size c1 s1 x w9 hg hA7 (Nat.le_refl _) hs7).mono ?_; rintro e w10 ⟨A9, k9, rfl, g5, hb⟩
    have HXc := Lib.hid (HXc.out.trans (hb.mono HXc.out.size))
    have HX6 := Lib.hid (HX6.out.trans (hb.mono HX6.out.size))
    have HS9 := Lib.hid g5
    clear hb g5 hs7 hA7
    go_wp2_with fail
    have hbk : Bk (w10.alloc (.cells #[.int .i64 c1, .int .i64 s1, .slice A9 x.length k9] 24)) w10.heap.size 24 #[.int .i64 c1, .int .i64 s1, .slice A9 x.length k9] := Bk.new _ _ _
    have hal : Below w10.heap.size w10 (w10.alloc (.cells #[.int .i64 c1, .int .i64 s1, .slice A9 x.length k9] 24)) := (Below.refl _ _).alloc (Nat.le_refl _) _
    obtain ⟨w11, hw11⟩ : ∃ y, y = w10.alloc (.cells #[.int .i64 c1, .int .i64 s1, .slice A9 x.length k9] 24) := ⟨_, rfl⟩
    simp only [← hw11] at hbk hal ⊢
    clear hw11
    have hxc := HXc.out.trans (hal.mono HXc.out.size)
    have hx6 := HX6.out.trans (hal.mono HX6.out.size)
    have hs9 := HS9.out.below hal (Nat.le_refl _)
    have hr6 := HR6.out
    have HV : Hid (∀ w', Below w11.heap.size w11 w' → (w'.cell? ⟨W.heap.size, 0, none⟩ = some (.int .i64 c1) ∧ w'.cell? ⟨W.heap.size, 1, none⟩ = some (.int .i64 s1) ∧ w'.cell? ⟨W.heap.size, 2, none⟩ = some (.slice A3 x.length k3) ∧ w'.cell? ⟨w10.heap.size, 0, none⟩ = some (.int .i64 c1) ∧ w'.cell? ⟨w10.heap.size, 1, none⟩ = some (.int .i64 s1) ∧ w'.cell? ⟨w10.heap.size, 2, none⟩ = some (.slice A9 x.length k9) ∧ (convert 22 9 (.slice A6 (x.length + 2) k6)).run Tryd.prog w' = .ok (.string ⟨([octet.byteOf c1, octet.byteOf s1] ++ x).toArray⟩) w') ∧ Bs w' w10.heap.size A9 x ∧ Bs w' wc.heap.size A3 x ∧ Below W.heap.size W w' ∧ w10.heap.size ≤ w'.heap.size ∧ wc.heap.size ≤ w'.heap.size) := fun w' h => by
      have h1 := (HU.out _ (hxc.trans (h.mono hxc.size)))
      exact ⟨⟨h1.1.1, h1.1.2.1, h1.1.2.2.1, (hbk.below h hbk.lt).cell 0, (hbk.below h hbk.lt).cell 1, (hbk.below h hbk.lt).cell 2, run_str (c := k6) (Rd.below (hr6.2.2.2.1 : Bs w6 w6.heap.size A6 ([octet.byteOf c1, octet.byteOf s1] ++ x)) (hx6.trans (h.mono hx6.size)) (Nat.le_refl _))⟩, hs9.below h hal.size, h1.2.1, h1.2.2.2.2, Nat.le_trans hal.size h.size, h1.2.2.2.1⟩
    have hle : w10.heap.size < w11.heap.size := hbk.lt
    clear hbk hal hxc hx6 hs9 hr6 HS9 HR6 HX6 HXc nn
    obtain ⟨⟨e1, e2⟩, e3, e4, e5, e6, e7⟩ := good_byte c1 s1 x.length hg
    have u1 : IntKind.u8.wrap c1 = c1 := by show c1 % 256 = c1; omega
    have u2 : IntKind.u8.wrap s1 = s1 := by show s1 % 256 = s1; omega
    have hHX0 : Below w11.heap.size w11 w11.drew := (Below.refl _ _).drew
    have hHX : Below w11.heap.size w11 (w11.drew.alloc (.cells #[.int .u8 c1, .int .u8 s1] 5)) := ((Below.refl _ _).drew).alloc (Nat.le_refl _) _
    have hO : (w11.drew.alloc (.cells #[.int .u8 c1, .int .u8 s1] 5)).ownsRow w11.heap.size 5 1 (.slice (some ⟨w11.heap.size, 0, none⟩) 2 2) 2 (bv [octet.byteOf c1, octet.byteOf s1]) := by
      have := own_new w11.drew 5 w11.heap.size 1 2 #[.int .u8 c1, .int .u8 s1] (Nat.le_refl _) (by unfold maxLen; omega) rfl
      simpa [bv, e1, e2] using this
    have HO := Lib.hid hO
    have HG := Lib.hid (HV.out _ hHX).2.2.1
    have HSZ : Hid (w11.heap.size ≤ (w11.drew.alloc (.cells #[.int .u8 c1, .int .u8 s1] 5)).heap.size) := hHX.size
    have HX1 := Lib.hid hHX
    have nn0 := (HV.out _ hHX0).1
    have nn := (HV.out _ hHX).1
    have hlen2 : 2 + x.length = ([octet.byteOf c1, octet.byteOf s1] ++ x).length := by simp; omega
    have HL2 := Lib.hid hlen2
    clear hO hHX hHX0 e1 e2 hlen2
    refine wp_region_noPanic ?_
    refine wp_region_held_drew (S := (fun w' => w'.cell? ⟨W.heap.size, 0, none⟩ = some (.int .i64 c1) ∧ w'.cell? ⟨W.heap.size, 1, none⟩ = some (.int .i64 s1) ∧ w'.cell? ⟨W.heap.size, 2, none⟩ = some (.slice A3 x.length k3) ∧ w'.cell? ⟨w10.heap.size, 0, none⟩ = some (.int .i64 c1) ∧ w'.cell? ⟨w10.heap.size, 1, none⟩ = some (.int .i64 s1) ∧ w'.cell? ⟨w10.heap.size, 2, none⟩ = some (.slice A9 x.length k9) ∧ (convert 22 9 (.slice A6 (x.length + 2) k6)).run Tryd.prog w' = .ok (.string ⟨([octet.byteOf c1, octet.byteOf s1] ++ x).toArray⟩) w')) (by kernel_rfl) ?_ (fun hHeld => ?_)
    · first | exact nn | exact nn0
    refine wpAnyH_take (i := 0) (oi := _) (v := ?_) rfl (by kernel_rfl) (by kernel_rfl) (by kernel_rfl) (fun _ _ _ h => h) (Or.inl ⟨by rfl, ?_⟩) (by assumption) ?_
    rotate_left
    · (intro w hSw; (try dsimp only at hSw); go_simp <;> with_reducible rfl)
    try simp only [Act.put, List.getElem_toArray, List.getElem_cons_succ, List.getElem_cons_zero, List.setIfInBounds_toArray, List.set_cons_zero, List.set_cons_succ]
    refine wpAnyH_take (i := 1) (oi := _) (v := ?_) rfl (by kernel_rfl) (by kernel_rfl) (by kernel_rfl) (fun _ _ _ h => h) (Or.inl ⟨by rfl, ?_⟩) (by assumption) ?_
    rotate_left
    · (intro w hSw; (try dsimp only at hSw); go_simp <;> with_reducible rfl)
    try simp only [Act.put, List.getElem_toArray, List.getElem_cons_succ, List.getElem_cons_zero, List.setIfInBounds_toArray, List.set_cons_zero, List.set_cons_succ]
    refine wpAnyH_take (i := 2) (oi := _) (v := ?_) rfl (by kernel_rfl) (by kernel_rfl) (by kernel_rfl) (fun _ _ _ h => h) (Or.inl ⟨by rfl, ?_⟩) (by assumption) ?_
    rotate_left
    · (intro w hSw; (try dsimp only at hSw); go_simp <;> with_reducible rfl)
    try simp only [Act.put, List.getElem_toArray, List.getElem_cons_succ, List.getElem_cons_zero, List.setIfInBounds_toArray, List.set_cons_zero, List.set_cons_succ]
    refine wpAnyH_take (i := 3) (oi := _) (v := ?_) rfl (by kernel_rfl) (by kernel_rfl) (by kernel_rfl) (fun _ _ _ h => h) (Or.inl ⟨by rfl, ?_⟩) (by assumption) ?_
    rotate_left
    · (intro w hSw; (try dsimp only at hSw); go_simp <;> with_reducible rfl)
    try simp only [Act.put, List.getElem_toArray, List.getElem_cons_succ, List.getElem_cons_zero, List.setIfInBounds_toArray, List.set_cons_zero, List.set_cons_succ]
    refine wpAnyH_take (i := 4) (oi := _) (v := ?_) rfl (by kernel_rfl) (by kernel_rfl) (by kernel_rfl) (fun _ _ _ h => h) (Or.inl ⟨by rfl, ?_⟩) (by assumption) ?_
    rotate_left
    · (intro w hSw; (try dsimp only at hSw); go_simp <;> with_reducible rfl)
    try simp only [Act.put, List.getElem_toArray, List.getElem_cons_succ, List.getElem_cons_zero, List.setIfInBounds_toArray, List.set_cons_zero, List.set_cons_succ]
    refine wpAnyH_take (i := 5) (oi := _) (v := ?_) rfl (by kernel_rfl) (by kernel_rfl) (by kernel_rfl) (fun _ _ _ h => h) (Or.inl ⟨by rfl, ?_⟩) (by assumption) ?_
    rotate_left
    · (intro w hSw; (try dsimp only at hSw); go_simp <;> with_reducible rfl)
    try simp only [Act.put, List.getElem_toArray, List.getElem_cons_succ, List.getElem_cons_zero, List.setIfInBounds_toArray, List.set_cons_zero, List.set_cons_succ]
    refine wpAnyH_take (i := 6) (oi := _) (v := ?_) rfl (by kernel_rfl) (by kernel_rfl) (by kernel_rfl) (fun _ _ _ h => h) (Or.inl ⟨by rfl, ?_⟩) (by assumption) ?_
    rotate_left
    · (intro w hSw; (try dsimp only at hSw); go_simp <;> with_reducible rfl)
    try simp only [Act.put, List.getElem_toArray, List.getElem_cons_succ, List.getElem_cons_zero, List.setIfInBounds_toArray, List.set_cons_zero, List.set_cons_succ]
    refine wpAnyH_take (i := 7) (oi := _) (v := ?_) rfl (by kernel_rfl) (by kernel_rfl) (by kernel_rfl) (fun _ _ _ h => h) (Or.inl ⟨by rfl, ?_⟩) (by assumption) ?_
    rotate_left
    · (intro w hSw; (try dsimp only at hSw); go_simp <;> with_reducible rfl)
    try simp only [Act.put, List.getElem_toArray, List.getElem_cons_succ, List.getElem_cons_zero, List.setIfInBounds_toArray, List.set_cons_zero, List.set_cons_succ]
    refine wpAnyH_take (i := 8) (oi := _) (v := ?_) rfl (by kernel_rfl) (by kernel_rfl) (by kernel_rfl) (fun _ _ _ h => h) (Or.inl ⟨by rfl, ?_⟩) (by assumption) ?_
    rotate_left
    · (intro w hSw; (try dsimp only at hSw); go_simp <;> with_reducible rfl)
    try simp only [Act.put, List.getElem_toArray, List.getElem_cons_succ, List.getElem_cons_zero, List.setIfInBounds_toArray, List.set_cons_zero, List.set_cons_succ]
    refine wpAnyH_take (i := 9) (oi := _) (v := ?_) rfl (by kernel_rfl) (by kernel_rfl) (by kernel_rfl) (fun _ _ _ h => h) (Or.inl ⟨by rfl, ?_⟩) (by assumption) ?_
    rotate_left
    · (intro w hSw; (try dsimp only at hSw); go_simp <;> with_reducible rfl)
    try simp only [Act.put, List.getElem_toArray, List.getElem_cons_succ, List.getElem_cons_zero, List.setIfInBounds_toArray, List.set_cons_zero, List.set_cons_succ]
    refine wpAnyH_take (i := 10) (oi := _) (v := ?_) rfl (by kernel_rfl) (by kernel_rfl) (by kernel_rfl) (fun _ _ _ h => h) (Or.inl ⟨by rfl, ?_⟩) (by assumption) ?_
    rotate_left
    · (intro w hSw; (try dsimp only at hSw); go_simp <;> with_reducible rfl)
    try simp only [Act.put, List.getElem_toArray, List.getElem_cons_succ, List.getElem_cons_zero, List.setIfInBounds_toArray, List.set_cons_zero, List.set_cons_succ]
    refine wpAnyH_take (i := 12) (oi := _) (v := ?_) rfl (by kernel_rfl) (by kernel_rfl) (by kernel_rfl) (fun _ _ _ h => h) (Or.inl ⟨by rfl, ?_⟩) (by assumption) ?_
    rotate_left
    · (intro w hSw; (try dsimp only at hSw); go_simp <;> with_reducible rfl)
    try simp only [Act.put, List.getElem_toArray, List.getElem_cons_succ, List.getElem_cons_zero, List.setIfInBounds_toArray, List.set_cons_zero, List.set_cons_succ]
    refine wpAnyH_take (i := 13) (oi := _) (v := ?_) rfl (by kernel_rfl) (by kernel_rfl) (by kernel_rfl) (fun _ _ _ h => h) (Or.inl ⟨by rfl, ?_⟩) (by assumption) ?_
    rotate_left
    · (intro w hSw; (try dsimp only at hSw); go_simp <;> with_reducible rfl)
    try simp only [Act.put, List.getElem_toArray, List.getElem_cons_succ, List.getElem_cons_zero, List.setIfInBounds_toArray, List.set_cons_zero, List.set_cons_succ]
    refine wpAnyH_ready (rs := [11]) (by kernel_rfl) (by simp) ?_
    refine AllReadyH.cons (o := _) rfl (fun K hK => ?_) AllReadyH.nil
    go_simp
    refine hK.out _ _ ?_ (fun hHeld => ?_)
    · first | exact nn | exact nn0
    clear hK K
    try simp only [Act.put, List.getElem_toArray, List.getElem_cons_succ, List.getElem_cons_zero, List.setIfInBounds_toArray, List.set_cons_zero, List.set_cons_succ]
    refine wpAnyH_ready (rs := [14]) (by kernel_rfl) (by simp) ?_
    refine AllReadyH.cons (o := _) rfl (fun K hK => ?_) AllReadyH.nil
    refine step_append_g rfl (.tmp 92) (.tmp 94) _ rfl w11.heap.size 5 i0 _ 1 1 Tryd.underlying22 Hi.out Hz0.out Hz1.out Hz2.out rfl (by omega) (.slice (some ⟨w11.heap.size, 0, none⟩) 2 2) 2 (bv [octet.byteOf c1, octet.byteOf s1]) rfl (by exact HO.out) wc.heap.size A3 x.length k3 HP3.out.1 (bv x) rfl (by exact HG.out) (bv_one _) (by unfold maxLen; omega) (by omega) HSZ.out ?_; intro A12 c12 w12 ho hgr hat; (have HX : Hid (Below w11.heap.size w11 w12) := HX1.out.trans (below_grown hgr HSZ.out (fun g e => (HO.out.lt g e).1))); (have nn := (HV.out _ HX.out).1); (have hcv : (convert 22 9 (.slice A12 (2 + x.length) c12)).run Tryd.prog w12 = .ok (.string ⟨([octet.byteOf c1, octet.byteOf s1] ++ x).toArray⟩) w12 := by rw [HL2.out]; exact run_str (B := w12.heap.size) (by have := Rd.of_own ho; unfold Bs; rw [← HL2.out]; simpa [bv] using this)); clear ho hgr hat
    refine hK.out _ _ ?_ (fun hHeld => ?_)
    · first | exact nn | exact nn0
    clear hK K
    try simp only [Act.put, List.getElem_toArray, List.getElem_cons_succ, List.getElem_cons_zero, List.setIfInBounds_toArray, List.set_cons_zero, List.set_cons_succ]
    refine wpAnyH_ready (rs := [15]) (by kernel_rfl) (by simp) ?_
    refine AllReadyH.cons (o := _) rfl (fun K hK => ?_) AllReadyH.nil
    go_simp
    refine hK.out _ _ ?_ (fun hHeld => ?_)
    · first | exact nn | exact nn0
    clear hK K
    try simp only [Act.put, List.getElem_toArray, List.getElem_cons_succ, List.getElem_cons_zero, List.setIfInBounds_toArray, List.set_cons_zero, List.set_cons_succ]
    refine wpAnyH_take (i := 16) (oi := _) (v := ?_) rfl (by kernel_rfl) (by kernel_rfl) (by kernel_rfl) (fun _ _ _ h => h) (Or.inl ⟨by rfl, ?_⟩) (by assumption) ?_
    rotate_left
    · (intro w hSw; (try dsimp only at hSw); go_simp <;> with_reducible rfl)
    try simp only [Act.put, List.getElem_toArray, List.getElem_cons_succ, List.getElem_cons_zero, List.setIfInBounds_toArray, List.set_cons_zero, List.set_cons_succ]
    refine wpAnyH_take (i := 17) (oi := _) (v := ?_) rfl (by kernel_rfl) (by kernel_rfl) (by kernel_rfl) (fun _ _ _ h => h) (Or.inl ⟨by rfl, ?_⟩) (by assumption) ?_
    rotate_left
    · (intro w hSw; (try dsimp only at hSw); go_simp <;> with_reducible rfl)
    try simp only [Act.put, List.getElem_toArray, List.getElem_cons_succ, List.getElem_cons_zero, List.setIfInBounds_toArray, List.set_cons_zero, List.set_cons_succ]
    refine wpAnyH_take (i := 18) (oi := _) (v := ?_) rfl (by kernel_rfl) (by kernel_rfl) (by kernel_rfl) (fun _ _ _ h => h) (Or.inl ⟨by rfl, ?_⟩) (by assumption) ?_
    rotate_left
    · (intro w hSw; (try dsimp only at hSw); go_simp <;> with_reducible rfl)
    try simp only [Act.put, List.getElem_toArray, List.getElem_cons_succ, List.getElem_cons_zero, List.setIfInBounds_toArray, List.set_cons_zero, List.set_cons_succ]
    refine wpAnyH_take (i := 19) (oi := _) (v := ?_) rfl (by kernel_rfl) (by kernel_rfl) (by kernel_rfl) (fun _ _ _ h => h) (Or.inl ⟨by rfl, ?_⟩) (by assumption) ?_
    rotate_left
    · (intro w hSw; (try dsimp only at hSw); go_simp <;> with_reducible rfl)
    try simp only [Act.put, List.getElem_toArray, List.getElem_cons_succ, List.getElem_cons_zero, List.setIfInBounds_toArray, List.set_cons_zero, List.set_cons_succ]
    refine wpAnyH_take (i := 20) (oi := _) (v := ?_) rfl (by kernel_rfl) (by kernel_rfl) (by kernel_rfl) (fun _ _ _ h => h) (Or.inl ⟨by rfl, ?_⟩) (by assumption) ?_
    rotate_left
    · (intro w hSw; (try dsimp only at hSw); go_simp <;> with_reducible rfl)
    try simp only [Act.put, List.getElem_toArray, List.getElem_cons_succ, List.getElem_cons_zero, List.setIfInBounds_toArray, List.set_cons_zero, List.set_cons_succ]
    refine wpAnyH_take (i := 21) (oi := _) (v := ?_) rfl (by kernel_rfl) (by kernel_rfl) (by kernel_rfl) (fun _ _ _ h => h) (Or.inl ⟨by rfl, ?_⟩) (by assumption) ?_
    rotate_left
    · (intro w hSw; (try dsimp only at hSw); go_simp <;> with_reducible rfl)
    try simp only [Act.put, List.getElem_toArray, List.getElem_cons_succ, List.getElem_cons_zero, List.setIfInBounds_toArray, List.set_cons_zero, List.set_cons_succ]
    refine wpAnyH_take (i := 22) (oi := _) (v := ?_) rfl (by kernel_rfl) (by kernel_rfl) (by kernel_rfl) (fun _ _ _ h => h) (Or.inl ⟨by rfl, ?_⟩) (by assumption) ?_
    rotate_left
    · (intro w hSw; (try dsimp only at hSw); go_simp <;> with_reducible rfl)
    try simp only [Act.put, List.getElem_toArray, List.getElem_cons_succ, List.getElem_cons_zero, List.setIfInBounds_toArray, List.set_cons_zero, List.set_cons_succ]
    refine wpAnyH_take (i := 23) (oi := _) (v := ?_) rfl (by kernel_rfl) (by kernel_rfl) (by kernel_rfl) (fun _ _ _ h => h) (Or.inl ⟨by rfl, ?_⟩) (by assumption) ?_
    rotate_left
    · (intro w hSw; (try dsimp only at hSw); go_simp <;> with_reducible rfl)
    try simp only [Act.put, List.getElem_toArray, List.getElem_cons_succ, List.getElem_cons_zero, List.setIfInBounds_toArray, List.set_cons_zero, List.set_cons_succ]
    refine wpAnyH_ready (rs := [24]) (by kernel_rfl) (by simp) ?_
    refine AllReadyH.cons (o := _) rfl (fun K hK => ?_) AllReadyH.nil
    go_simp; go_at_call 8; refine (Told_yes c1 s1 x A9 A3 k9 k3 w10.heap.size wc.heap.size _ (HV.out _ HX.out).2.2.2.2.1 (HV.out _ HX.out).2.2.2.2.2 (HV.out _ HX.out).2.1 (HV.out _ HX.out).2.2.1).mono ?_; rintro e w13 ⟨rfl, hb⟩; (have HX := Lib.hid (HX.out.trans (hb.mono HX.out.size))); (have nn := (HV.out _ HX.out).1); clear hb
    refine hK.out _ _ ?_ (fun hHeld => ?_)
    · first | exact nn | exact nn0
    clear hK K
    try simp only [Act.put, List.getElem_toArray, List.getElem_cons_succ, List.getElem_cons_zero, List.setIfInBounds_toArray, List.set_cons_zero, List.set_cons_succ]
    refine wpAnyH_take (i := 25) (oi := _) (v := ?_) rfl (by kernel_rfl) (by kernel_rfl) (by kernel_rfl) (fun _ _ _ h => h) (Or.inl ⟨by rfl, ?_⟩) (by assumption) ?_
    rotate_left
    · (intro w hSw; (try dsimp only at hSw); go_simp <;> with_reducible rfl)
    try simp only [Act.put, List.getElem_toArray, List.getElem_cons_succ, List.getElem_cons_zero, List.setIfInBounds_toArray, List.set_cons_zero, List.set_cons_succ]
    refine wpAnyH_take (i := 26) (oi := _) (v := ?_) rfl (by kernel_rfl) (by kernel_rfl) (by kernel_rfl) (fun _ _ _ h => h) (Or.inl ⟨by rfl, ?_⟩) (by assumption) ?_
    rotate_left
    · (intro w hSw; (try dsimp only at hSw); go_simp <;> with_reducible rfl)
    try simp only [Act.put, List.getElem_toArray, List.getElem_cons_succ, List.getElem_cons_zero, List.setIfInBounds_toArray, List.set_cons_zero, List.set_cons_succ]
    refine wpAnyH_ready (rs := [27]) (by kernel_rfl) (by simp) ?_
    refine AllReadyH.cons (o := _) rfl (fun K hK => ?_) AllReadyH.nil
    go_simp; go_at_call 10; refine (lives_any _).mono ?_; rintro e w14 ⟨rfl, hb⟩; (have HX := Lib.hid (HX.out.trans (hb.mono HX.out.size))); (have nn := (HV.out _ HX.out).1); clear hb
    refine hK.out _ _ ?_ (fun hHeld => ?_)
    · first | exact nn | exact nn0
    clear hK K
    try simp only [Act.put, List.getElem_toArray, List.getElem_cons_succ, List.getElem_cons_zero, List.setIfInBounds_toArray, List.set_cons_zero, List.set_cons_succ]
    refine wpAnyH_take (i := 28) (oi := _) (v := ?_) rfl (by kernel_rfl) (by kernel_rfl) (by kernel_rfl) (fun _ _ _ h => h) (Or.inl ⟨by rfl, ?_⟩) (by assumption) ?_
    rotate_left
    · (intro w hSw; (try dsimp only at hSw); go_simp <;> with_reducible rfl)
    try simp only [Act.put, List.getElem_toArray, List.getElem_cons_succ, List.getElem_cons_zero, List.setIfInBounds_toArray, List.set_cons_zero, List.set_cons_succ]
    refine wpAnyH_take (i := 29) (oi := _) (v := ?_) rfl (by kernel_rfl) (by kernel_rfl) (by kernel_rfl) (fun _ _ _ h => h) (Or.inl ⟨by rfl, ?_⟩) (by assumption) ?_
    rotate_left
    · (intro w hSw; (try dsimp only at hSw); go_simp <;> with_reducible rfl)
    try simp only [Act.put, List.getElem_toArray, List.getElem_cons_succ, List.getElem_cons_zero, List.setIfInBounds_toArray, List.set_cons_zero, List.set_cons_succ]
    refine wpAnyH_done (by kernel_rfl) ?_ _
    refine NoPanic.normal ?_
    go_wp2_with fail
    go_ret
    exact ⟨rfl, (HV.out _ HX.out).2.2.2.1⟩
end Go.Proofs.YthoclemgiopjpaaDoor.noticeWrites
