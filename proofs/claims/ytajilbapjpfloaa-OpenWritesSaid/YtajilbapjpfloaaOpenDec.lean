/- What open's reader does: spoil, head. Conditions as each lemma states. -/
import Derived.Test.YtajilbapjpfloaaOpenFns
import Derived.Test.YtajilbapjpfloaaReader2
namespace Go.Proofs.Ytajilbapjpfloaa.openk
open Go.RowKit Go.Proofs.Ytajilbapjpfloaa.kit Go.Proofs.Ytajilbapjpfloaa.mem Go.Proofs.Ytajilbapjpfloaa.octet
set_option linter.unusedVariables false

/-- only blocks R and p, and new memory, were written -/
structure Chg2 (R p : Nat) (w w' : World) : Prop where
  os : w'.os = w.os
  tape : w'.tape = w.tape
  output : w'.output = w.output
  size : w.heap.size ≤ w'.heap.size
  block : ∀ k, k < w.heap.size → k ≠ R → k ≠ p → w'.heap[k]? = w.heap[k]?
section
variable {R p : Nat} {w w' w2 : World}
theorem Chg2.refl (R p : Nat) (w : World) : Chg2 R p w w := ⟨rfl, rfl, rfl, Nat.le_refl _, fun _ _ _ _ => rfl⟩
theorem Chg2.trans (h : Chg2 R p w w') (k : Chg2 R p w' w2) : Chg2 R p w w2 :=
  ⟨k.os.trans h.os, k.tape.trans h.tape, k.output.trans h.output, Nat.le_trans h.size k.size, fun i hi h1 h2 => (k.block i (Nat.lt_of_lt_of_le hi h.size) h1 h2).trans (h.block i hi h1 h2)⟩
theorem Chg2.fst (h : w.grownBy w' (some R)) : Chg2 R p w w' := ⟨h.os, h.tape, h.output, h.size, fun k hk h1 _ => h.block k hk (fun e => h1 (by injection e))⟩
theorem Chg2.snd (h : w.grownBy w' (some p)) : Chg2 R p w w' := ⟨h.os, h.tape, h.output, h.size, fun k hk _ h2 => h.block k hk (fun e => h2 (by injection e))⟩
theorem Chg2.of_below (h : Below w.heap.size w w') : Chg2 R p w w' := ⟨h.os, h.tape, h.output, h.size, fun k hk _ _ => h.block k hk⟩
theorem Chg2.drew : Chg2 R p w w.drew := ⟨rfl, rfl, rfl, Nat.le_refl _, fun _ _ _ _ => rfl⟩
theorem Chg2.below {B : Nat} (h : Chg2 R p w w') (hR : B ≤ R) (hp : B ≤ p) (hB : B ≤ w.heap.size) : Below B w w' :=
  ⟨h.os, h.tape, h.output, h.size, fun k hk => h.block k (by omega) (by omega) (by omega)⟩
/-- what was written beyond is new, or the block R -/
theorem Chg2.then_ {q : Nat} (h : Chg2 R p w w') (k : Chg2 R q w' w2) (hq : w.heap.size ≤ q) : Chg2 R p w w2 :=
  ⟨k.os.trans h.os, k.tape.trans h.tape, k.output.trans h.output, Nat.le_trans h.size k.size, fun i hi h1 h2 => (k.block i (Nat.lt_of_lt_of_le hi h.size) h1 (by omega)).trans (h.block i hi h1 h2)⟩
theorem bk_chg {g : Nat} {t : TypeId} {cs : Array Value} (h : Bk w g t cs) (hc : Chg2 R p w w') (h1 : g ≠ R) (h2 : g ≠ p) : Bk w' g t cs := (hc.block g h.lt h1 h2).trans h
/-- a block that holds no bytes -/
def NoBytes (cs : Array Value) : Prop := ∀ (i : Nat) (n : Int), cs[i]? ≠ some (Value.int .u8 n)
theorem bs_ne {g B : Nat} {t : TypeId} {cs : Array Value} {A : Option Addr} {l : List UInt8} (h : Bs w B A l) (hk : Bk w g t cs) (hn : NoBytes cs) (hl : 0 < l.length) : ∀ b off, A = some ⟨b, off, none⟩ → b ≠ g := by
  intro b off e hb
  subst hb
  obtain ⟨b', off', e', _, hc⟩ := h.at_ hl
  rw [e] at e'
  injection e' with e'
  injection e' with e1 e2
  subst e1 e2
  have := (hk.cell (off + 0)).symm.trans hc
  exact hn _ _ this
theorem rdr_chg {r : Nat} {l : List UInt8} {bad : Bool} {tR tp : TypeId} {cR cp : Array Value} (h : Rdr w r l bad) (hc : Chg2 R p w w') (h1 : r ≠ R) (h2 : r ≠ p) (kR : Bk w R tR cR) (nR : NoBytes cR) (kp : Bk w p tp cp) (np : NoBytes cp) : Rdr w' r l bad := by
  have hlt := h.lt
  obtain ⟨A, c, hk, hA, hlc, hcm, hs⟩ := h
  refine ⟨A, c, bk_chg hk hc h1 h2, hA, hlc, hcm, hs.1, fun hn => ?_⟩
  obtain ⟨b, off, e, hb, hcell⟩ := hs.2 hn
  refine ⟨b, off, e, hb, fun j u hu => ?_⟩
  rw [World.cell?_of_block (w := w) (hc.block b (by omega) (bs_ne hs kR nR hn b off e) (bs_ne hs kp np hn b off e))]
  exact hcell j u hu
theorem rdr_block {r : Nat} {l : List UInt8} {bad : Bool} (h : Rdr w r l bad) : ∃ cs, Bk w r 90 cs ∧ NoBytes cs := by
  obtain ⟨A, c, hk, _⟩ := h
  refine ⟨_, hk, fun i n => ?_⟩
  match i with
  | 0 => simp
  | 1 => simp
  | i + 2 => simp
/-- the reader's own block is not the other -/
theorem rdr_chg1 {r : Nat} {l : List UInt8} {bad : Bool} {tR : TypeId} {cR : Array Value} (h : Rdr w r l bad) (hc : w.grownBy w' (some R)) (h1 : r ≠ R) (kR : Bk w R tR cR) (nR : NoBytes cR) : Rdr w' r l bad :=
  rdr_chg (R := R) (p := R) h (Chg2.fst hc) h1 h1 kR nR kR nR
end

/-- the cells of open's reader -/
def oc (a h i : Int) (f : Bool) (s : Int) (b : Bool) : Array Value := #[.int .u32 a, .int .i64 h, .int .u32 i, .bool f, .int .i64 s, .bool b]
theorem oc_no (a h i : Int) (f : Bool) (s : Int) (b : Bool) : NoBytes (oc a h i f s b) := by
  intro j n
  match j with
  | 0 => simp [oc]
  | 1 => simp [oc]
  | 2 => simp [oc]
  | 3 => simp [oc]
  | 4 => simp [oc]
  | 5 => simp [oc]
  | j + 6 => simp [oc]
/-- block R is open's reader -/
def Ord (w : World) (R : Nat) (a h i : Int) (f : Bool) (s : Int) (b : Bool) : Prop := Bk w R 101 (oc a h i f s b)

theorem spoil_any (R : Nat) (a h i : Int) (f : Bool) (s : Int) (b : Bool) (sub : Int) (is : Bool) (w : World) (hk : Ord w R a h i f s b) :
    Calls Try.prog 89 #[.pointer (some ⟨R, 0, none⟩), .int .i64 sub, .bool is] w fun e w' => e = .returned (.bool (b || is)) ∧ Ord w' R a h i f (if is && !b then sub else s) (b || is) ∧ w.grownBy w' (some R) := by
  have k4 := hk.cell 4
  have k5 := hk.cell 5
  have f4 := hk.free 4
  have f5 := hk.free 5
  simp [oc] at k4 k5
  have Hk := Lib.hid hk
  clear hk
  have hlt := Hk.out.lt
  cases is
  · cases b
    · go_enter Try.func89, Try.ntmps89
      go_wp2_with fail
      go_ret
      exact ⟨rfl, Hk.out, World.grownBy.refl _ _⟩
    · go_enter Try.func89, Try.ntmps89
      go_wp2_with fail
      go_ret
      exact ⟨rfl, Hk.out, World.grownBy.refl _ _⟩
  · cases b
    · have HF : Hid (Ord ((w.setCell ⟨R, 4, none⟩ (.int .i64 sub)).setCell ⟨R, 5, none⟩ (.bool true)) R a h i f sub true ∧ w.grownBy ((w.setCell ⟨R, 4, none⟩ (.int .i64 sub)).setCell ⟨R, 5, none⟩ (.bool true)) (some R)) := by
        refine ⟨?_, grown_setCell (grown_setCell (World.grownBy.refl w (some R)) (p := ⟨R, 4, none⟩) (.inl rfl) _) (p := ⟨R, 5, none⟩) (.inl rfl) _⟩
        have := (Hk.out.put 4 (.int .i64 sub)).put 5 (.bool true)
        simpa [oc, Ord] using this
      go_enter Try.func89, Try.ntmps89
      go_wp2_with fail
      go_ret
      exact ⟨rfl, HF.out⟩
    · go_enter Try.func89, Try.ntmps89
      go_wp2_with fail
      go_ret
      exact ⟨rfl, Hk.out, World.grownBy.refl _ _⟩
/-- the first error stays -/
def spl (s : Int × Bool) (sub : Int) (is : Bool) : Int × Bool := (if is && !s.2 then sub else s.1, s.2 || is)
/-- what a read of n bytes gives -/
def RdN (l : List UInt8) (b : Bool) (n : Int) (v : Nat) (l' : List UInt8) (b' : Bool) : Prop := num (rget l b n) = v ∧ rleft l b n = l' ∧ (!rok l b n) = b'
/-- the errors of an Open's head -/
def headS (k v A H I n m : Nat) : Int × Bool :=
  spl (spl (spl (spl (spl (spl (0, false) 0 (decide ((k : Int) < 10))) 1 ((v : Int) != 4)) 2 ((A : Int) == 0)) 6 (!holdsB H)) 3 ((I : Int) == 0)) 0 ((n : Int) != (m : Int))
theorem spl_bad (s : Int) (sub : Int) (is : Bool) : spl (s, true) sub is = (s, true) := by unfold spl; simp
theorem spl_yes (s sub : Int) : spl (s, false) sub true = (sub, true) := by unfold spl; simp
theorem spl_no (s sub : Int) : spl (s, false) sub false = (s, false) := by unfold spl; simp

set_option maxRecDepth 100000 in
set_option maxHeartbeats 2000000 in
theorem head_any (R b : Nat) (l l1 l2 l3 l4 l5 : List UInt8) (v A H I n : Nat) (b1 b2 b3 b4 b5 : Bool) (w : World) (hRb : R < b) (hk : Ord w R 0 0 0 false 0 false) (hr : Rdr w b l false)
    (h1 : RdN l false 1 v l1 b1) (h2 : RdN l1 b1 2 A l2 b2) (h3 : RdN l2 b2 2 H l3 b3) (h4 : RdN l3 b3 4 I l4 b4) (h5 : RdN l4 b4 1 n l5 b5) (hl : l.length ≤ 549755813888) :
    Calls Try.prog 72 #[.pointer (some ⟨R, 0, none⟩), .pointer (some ⟨b, 0, none⟩)] w fun e w' => e = .returned (.tuple #[]) ∧ Ord w' R A H I false (headS l.length v A H I n l5.length).1 (headS l.length v A H I n l5.length).2 ∧ Rdr w' b l5 b5 ∧ Chg2 R b w w' := by
  have c0 := Left_any b l false w hr
  have c1 := u8_any b l false w hr
  have bv1 : v < 4294967296 := by rw [← h1.1]; exact number_lt l false 1 (by omega)
  have bv2 : A < 4294967296 := by rw [← h2.1]; exact number_lt l1 b1 2 (by omega)
  have bv3 : H < 4294967296 := by rw [← h3.1]; exact number_lt l2 b2 2 (by omega)
  have bv4 : I < 4294967296 := by rw [← h4.1]; exact number_lt l3 b3 4 (by omega)
  have bv5 : n < 4294967296 := by rw [← h5.1]; exact number_lt l4 b4 1 (by omega)
  rw [h1.1, h1.2.1, h1.2.2] at c1
  have C1 := Lib.hid c1
  have C2 : Hid (∀ w, Rdr w b l1 b1 → Calls Try.prog 21 #[.pointer (some ⟨b, 0, none⟩)] w fun e w' => e = .returned (.int .i64 (A : Int)) ∧ Rdr w' b l2 b2 ∧ w.grownBy w' (some b)) := by
    intro w hr; have := u16_any b l1 b1 w hr; rw [h2.1, h2.2.1, h2.2.2] at this; exact this
  have C3 : Hid (∀ w, Rdr w b l2 b2 → Calls Try.prog 21 #[.pointer (some ⟨b, 0, none⟩)] w fun e w' => e = .returned (.int .i64 (H : Int)) ∧ Rdr w' b l3 b3 ∧ w.grownBy w' (some b)) := by
    intro w hr; have := u16_any b l2 b2 w hr; rw [h3.1, h3.2.1, h3.2.2] at this; exact this
  have C4 : Hid (∀ w, Rdr w b l3 b3 → Calls Try.prog 22 #[.pointer (some ⟨b, 0, none⟩)] w fun e w' => e = .returned (.int .u32 (I : Int)) ∧ Rdr w' b l4 b4 ∧ w.grownBy w' (some b)) := by
    intro w hr; have := u32_any b l3 b3 w hr; rw [h4.1, h4.2.1, h4.2.2] at this; exact this
  have C5 : Hid (∀ w, Rdr w b l4 b4 → Calls Try.prog 19 #[.pointer (some ⟨b, 0, none⟩)] w fun e w' => e = .returned (.int .i64 (n : Int)) ∧ Rdr w' b l5 b5 ∧ w.grownBy w' (some b)) := by
    intro w hr; have := u8_any b l4 b4 w hr; rw [h5.1, h5.2.1, h5.2.2] at this; exact this
  have hne : some R ≠ some b := by intro e; injection e with e; omega
  have hne2 : b ≠ R := by omega
  have HK := Lib.hid hk
  have Hne := Lib.hid hne
  have Hne2 := Lib.hid hne2
  have HR := Lib.hid hr
  have f0 := hk.free 0
  have hRl := hk.lt
  clear h1 h2 h3 h4 h5 c1 hk hr hne hne2
  go_enter Try.func72, Try.ntmps72
  go_wp2_with fail
  refine c0.mono ?_; rintro e w' ⟨rfl, rfl⟩
  go_wp2_with fail
  refine C1.out.mono ?_; rintro e w1 ⟨rfl, hr1, hg1⟩
  have hk1 : Ord w1 R 0 0 0 false 0 false := HK.out.grown hg1 Hne.out
  have HR1 := Lib.hid hr1
  have HG1 := Lib.hid (Chg2.snd (R := R) hg1)
  have HK1 := Lib.hid hk1
  clear c0 C1 hr1 hg1 hk1 f0
  go_wp2_with fail
  refine (C2.out _ HR1.out).mono ?_; rintro e w2 ⟨rfl, hr2, hg2⟩
  have hk2 : Ord w2 R 0 0 0 false 0 false := HK1.out.grown hg2 Hne.out
  have z0 := hk2.cell 0
  have f0 := hk2.free 0
  have hs2 := grown_setCell (World.grownBy.refl w2 (some R)) (p := ⟨R, 0, none⟩) (.inl rfl) (.int .u32 (A : Int))
  have hk2' : Ord (w2.setCell ⟨R, 0, none⟩ (.int .u32 (A : Int))) R A 0 0 false 0 false := by
    have := hk2.put 0 (.int .u32 (A : Int)); simpa [oc, Ord] using this
  have HR2 := Lib.hid (rdr_chg1 hr2 hs2 Hne2.out hk2 (oc_no _ _ _ _ _ _))
  have HG2 := Lib.hid ((HG1.out.trans (Chg2.snd hg2)).trans (Chg2.fst hs2))
  have HK2 := Lib.hid hk2'
  simp [oc] at z0
  clear HR1 hr2 hg2 hk2 hk2' hs2
  go_wp2_with fail
  refine (C3.out _ HR2.out).mono ?_; rintro e w3 ⟨rfl, hr3, hg3⟩
  clear z0 f0
  have hk3 : Ord w3 R A 0 0 false 0 false := HK2.out.grown hg3 Hne.out
  have z1 := hk3.cell 1
  have f1 := hk3.free 1
  have hs3 := grown_setCell (World.grownBy.refl w3 (some R)) (p := ⟨R, 1, none⟩) (.inl rfl) (.int .i64 (H : Int))
  have hk3' : Ord (w3.setCell ⟨R, 1, none⟩ (.int .i64 (H : Int))) R A H 0 false 0 false := by
    have := hk3.put 1 (.int .i64 (H : Int)); simpa [oc, Ord] using this
  have HR3 := Lib.hid (rdr_chg1 hr3 hs3 Hne2.out hk3 (oc_no _ _ _ _ _ _))
  have HG3 := Lib.hid ((HG2.out.trans (Chg2.snd hg3)).trans (Chg2.fst hs3))
  have HK3 := Lib.hid hk3'
  simp [oc] at z1
  clear HR2 hr3 hg3 hk3 hk3' hs3
  go_wp2_with fail
  refine (C4.out _ HR3.out).mono ?_; rintro e w4 ⟨rfl, hr4, hg4⟩
  clear z1 f1
  have hk4 : Ord w4 R A H 0 false 0 false := HK3.out.grown hg4 Hne.out
  have z2 := hk4.cell 2
  have f2 := hk4.free 2
  have hs4 := grown_setCell (World.grownBy.refl w4 (some R)) (p := ⟨R, 2, none⟩) (.inl rfl) (.int .u32 (I : Int))
  have hk4' : Ord (w4.setCell ⟨R, 2, none⟩ (.int .u32 (I : Int))) R A H I false 0 false := by
    have := hk4.put 2 (.int .u32 (I : Int)); simpa [oc, Ord] using this
  have HR4 := Lib.hid (rdr_chg1 hr4 hs4 Hne2.out hk4 (oc_no _ _ _ _ _ _))
  have HG4 := Lib.hid ((HG3.out.trans (Chg2.snd hg4)).trans (Chg2.fst hs4))
  have HK4 := Lib.hid hk4'
  simp [oc] at z2
  clear HR3 hr4 hg4 hk4 hk4' hs4
  go_wp2_with fail
  refine (spoil_any R A H I false _ _ _ _ _ (by exact HK4.out)).mono ?_; rintro e w5 ⟨rfl, hk5, hg5⟩
  clear z2 f2
  have HR5 := Lib.hid (rdr_chg1 HR4.out hg5 Hne2.out HK4.out (oc_no _ _ _ _ _ _))
  have HG5 := Lib.hid (HG4.out.trans (Chg2.fst hg5))
  have HK5 := Lib.hid hk5
  clear hk5 hg5
  go_wp2_with fail
  refine (spoil_any R A H I false _ _ _ _ _ (by exact HK5.out)).mono ?_; rintro e w6 ⟨rfl, hk6, hg6⟩
  have HR6 := Lib.hid (rdr_chg1 HR5.out hg6 Hne2.out HK5.out (oc_no _ _ _ _ _ _))
  have HG6 := Lib.hid (HG5.out.trans (Chg2.fst hg6))
  have HK6 := Lib.hid hk6
  have y0 := hk6.cell 0
  simp [oc] at y0
  clear hk6 hg6
  go_wp2_with fail
  refine (spoil_any R A H I false _ _ _ _ _ (by exact HK6.out)).mono ?_; rintro e w7 ⟨rfl, hk7, hg7⟩
  have HR7 := Lib.hid (rdr_chg1 HR6.out hg7 Hne2.out HK6.out (oc_no _ _ _ _ _ _))
  have HG7 := Lib.hid (HG6.out.trans (Chg2.fst hg7))
  have HK7 := Lib.hid hk7
  have y1 := hk7.cell 1
  simp [oc] at y1
  clear hk7 hg7 y0
  go_wp2_with fail
  refine (holds_any (H : Int) _).mono ?_; rintro e w' ⟨rfl, rfl⟩
  go_wp2_with fail
  refine (spoil_any R A H I false _ _ _ _ _ (by exact HK7.out)).mono ?_; rintro e w8 ⟨rfl, hk8, hg8⟩
  have HR8 := Lib.hid (rdr_chg1 HR7.out hg8 Hne2.out HK7.out (oc_no _ _ _ _ _ _))
  have HG8 := Lib.hid (HG7.out.trans (Chg2.fst hg8))
  have HK8 := Lib.hid hk8
  have y2 := hk8.cell 2
  simp [oc] at y2
  clear hk8 hg8 y1
  go_wp2_with fail
  refine (spoil_any R A H I false _ _ _ _ _ (by exact HK8.out)).mono ?_; rintro e w9 ⟨rfl, hk9, hg9⟩
  have HR9 := Lib.hid (rdr_chg1 HR8.out hg9 Hne2.out HK8.out (oc_no _ _ _ _ _ _))
  have HG9 := Lib.hid (HG8.out.trans (Chg2.fst hg9))
  have HK9 := Lib.hid hk9
  clear hk9 hg9 y2
  go_wp2_with fail
  refine (C5.out _ HR9.out).mono ?_; rintro e w10 ⟨rfl, hr10, hg10⟩
  have HK10 := Lib.hid (HK9.out.grown hg10 Hne.out)
  have HR10 := Lib.hid hr10
  have HG10 := Lib.hid (HG9.out.trans (Chg2.snd hg10))
  clear hr10 hg10
  go_wp2_with fail
  refine (Left_any b l5 b5 _ HR10.out).mono ?_; rintro e w' ⟨rfl, rfl⟩
  go_wp2_with fail
  refine (spoil_any R A H I false _ _ _ _ _ (by exact HK10.out)).mono ?_; rintro e w11 ⟨rfl, hk11, hg11⟩
  have HR11 := Lib.hid (rdr_chg1 HR10.out hg11 Hne2.out HK10.out (oc_no _ _ _ _ _ _))
  have HG11 := Lib.hid (HG10.out.trans (Chg2.fst hg11))
  have HK11 := Lib.hid hk11
  clear hk11 hg11
  go_wp2_with fail
  go_end0
  refine ⟨rfl, ?_, HR11.out, HG11.out⟩
  exact HK11.out
end Go.Proofs.Ytajilbapjpfloaa.openk
