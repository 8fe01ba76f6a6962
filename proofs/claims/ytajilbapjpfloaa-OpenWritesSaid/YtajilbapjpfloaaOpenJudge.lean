/- What open.wrong, open.Judge, confluenceref08.Told, confluenceref09.Judge do. No condition beyond those that each lemma states. -/
import Derived.Test.YtajilbapjpfloaaOpenLives
import Derived.Test.YtajilbapjpfloaaOpen
namespace Go.Proofs.Ytajilbapjpfloaa.openJudges
open Go.RowKit Go.Proofs.Ytajilbapjpfloaa.kit Go.Proofs.Ytajilbapjpfloaa.mem Go.Proofs.Ytajilbapjpfloaa.octet Go.Proofs.Ytajilbapjpfloaa.openk
set_option linter.unusedVariables false

/-- a notice handed back -/
def RetN (code sub : Int) (l : List UInt8) (w : World) (e : Ending) (w' : World) : Prop :=
  ∃ A c, e = .returned (.agg #[.int .i64 code, .int .i64 sub, .slice A l.length c]) ∧ (A = none → c = 0) ∧ Bs w' w'.heap.size A l ∧ Below w.heap.size w w'

theorem info_notice : (Try.prog.info? 55).map (·.size) = some 3 := by kernel_rfl

theorem wrong_any (sub : Int) (A : Option Addr) (n c : Nat) (w : World) :
    Calls Try.prog 65 #[.int .i64 sub, .slice A n c] w fun e w' => e = .returned (.agg #[.int .i64 2, .int .i64 sub, .slice A n c]) ∧ Below w.heap.size w w' := by
  go_enter Try.func65, Try.ntmps65
  go_wp2_with fail
  refine bodyPost_ret (results_cell_row rfl _ _ w.heap.size 55 #[.int .i64 2, .int .i64 sub, .slice A n c] (0, 0) _ rfl (heap_alloc_new w _) Try.underlying55 rfl info_notice) rfl ?_
  exact ⟨rfl, (Below.refl _ w).alloc (Nat.le_refl _) _⟩

theorem Told_yes (code sub : Int) (l : List UInt8) (A A' : Option Addr) (c c' B B' : Nat) (w : World) (hB : B ≤ w.heap.size) (hB' : B' ≤ w.heap.size) (h : Bs w B A l) (h' : Bs w B' A' l) :
    Calls Try.prog 35 #[.agg #[.int .i64 code, .int .i64 sub, .slice A l.length c], .agg #[.int .i64 code, .int .i64 sub, .slice A' l.length c']] w fun e w' => e = .returned (.bool true) ∧ Below w.heap.size w w' := by
  have hb := ((Below.refl w.heap.size w).alloc (Nat.le_refl _) (.cells #[.int .i64 code, .int .i64 sub, .slice A l.length c] 55)).alloc (by simp) (.cells #[.int .i64 code, .int .i64 sub, .slice A' l.length c'] 55)
  have s1 := run_str (c := c) (h.below (hb.mono hB) (Nat.le_refl _))
  have s2 := run_str (c := c') (h'.below (hb.mono hB') (Nat.le_refl _))
  have HB := Lib.hid hb
  clear hb h h'
  go_enter Try.func35, Try.ntmps35
  go_wp2_with fail
  go_ret
  exact ⟨rfl, HB.out⟩

/-- the result variable g is written whole -/
theorem retN_end {w w1 : World} {g : Nat} {x y z : Value} (hk : Bk w1 g 55 #[x, y, z]) (hg : w.heap.size ≤ g) (hb : Below w.heap.size w w1) (code sub : Int) (A : Option Addr) (c : Nat) (l : List UInt8) (hA : A = none → c = 0) (hs : Bs w1 w1.heap.size A l) (hne : ∀ ad, A = some ad → ad.block ≠ g) :
    (((w1.setCell ⟨g, 0, none⟩ (.int .i64 code)).setCell ⟨g, 1, none⟩ (.int .i64 sub)).setCell ⟨g, 2, none⟩ (.slice A l.length c)).heap[g]? = some (.cells #[.int .i64 code, .int .i64 sub, .slice A l.length c] 55 (0, 0)) ∧
      RetN code sub l w (.returned (.agg #[.int .i64 code, .int .i64 sub, .slice A l.length c])) (((w1.setCell ⟨g, 0, none⟩ (.int .i64 code)).setCell ⟨g, 1, none⟩ (.int .i64 sub)).setCell ⟨g, 2, none⟩ (.slice A l.length c)) := by
  have h3 := ((hk.put 0 (.int .i64 code)).put 1 (.int .i64 sub)).put 2 (.slice A l.length c)
  have hB := ((hb.setCell (p := ⟨g, 0, none⟩) hg (.int .i64 code)).setCell (p := ⟨g, 1, none⟩) hg (.int .i64 sub)).setCell (p := ⟨g, 2, none⟩) hg (.slice A l.length c)
  refine ⟨by simpa [Bk] using h3, A, c, rfl, hA, ⟨hs.1, fun hn => ?_⟩, hB⟩
  obtain ⟨b, off, e, hlt, hc⟩ := hs.2 hn
  have hbg := hne _ e
  refine ⟨b, off, e, by simpa [World.setCell] using hlt, fun j u hu => ?_⟩
  rw [World.cell?_of_block (w := w1) ((Below.heap_setCell _ ⟨g, 2, none⟩ _ b hbg).trans ((Below.heap_setCell _ ⟨g, 1, none⟩ _ b hbg).trans (Below.heap_setCell _ ⟨g, 0, none⟩ _ b hbg)))]
  exact hc j u hu

def be4 (n : Int) : List UInt8 := [octet.byteOf (n / 16777216), octet.byteOf (n / 65536), octet.byteOf (n / 256), octet.byteOf n]
def sub (n id : Int) (four : Bool) (a own : Int) : Int := if n = a then (if id = own then 3 else if four then 0 else 7) else 2
def code (n id : Int) (four : Bool) (a own : Int) : Int := if n = a ∧ id ≠ own ∧ four = true then 0 else 2
def data (n id : Int) (four : Bool) (a own : Int) : List UInt8 := if n = a ∧ id ≠ own ∧ four = false then octet.byteOf 65 :: octet.byteOf 4 :: be4 a else []

set_option maxRecDepth 100000 in
theorem Judge_any (n hold id : Int) (four : Bool) (a own : Int) (ha : 0 ≤ a ∧ a ≤ 4294967295) (w : World) :
    Calls Try.prog 36 #[.agg #[.int .u32 n, .int .i64 hold, .int .u32 id, .bool four], .int .u32 a, .int .u32 own] w (RetN (code n id four a own) (sub n id four a own) (data n id four a own) w) := by
  have HA := Lib.hid (((Below.refl w.heap.size w).alloc (Nat.le_refl _) (.cells #[.int .u32 n, .int .i64 hold, .int .u32 id, .bool four] 52)).alloc (by simp) (.cells #[.int .i64 0, .int .i64 0, .slice none 0 0] 55))
  by_cases h1 : n = a
  · by_cases h2 : id = own
    · skip
      have e1 : code n id four a own = 2 := by simp [code, h2]
      have e2 : sub n id four a own = 3 := by simp [sub, h1, h2]
      have e3 : data n id four a own = [] := by simp [data, h2]
      rw [e1, e2, e3]
      clear e1 e2 e3
      have b1 : (n == a) = true := by simp [h1]
      have b2 : (id == own) = true := by simp [h2]
      subst h1 h2
      have HW := Lib.hid (wrong_any 3 none 0 0 ((w.alloc (.cells #[.int .u32 n, .int .i64 hold, .int .u32 id, .bool four] 52)).alloc (.cells #[.int .i64 0, .int .i64 0, .slice none 0 0] 55)))
      go_enter Try.func36, Try.ntmps36
      go_wp2_with fail
      refine HW.out.mono ?_; rintro e w1 ⟨rfl, hb⟩
      have hk : Bk w1 (w.heap.size + 1) 55 #[.int .i64 0, .int .i64 0, .slice none 0 0] := by
        have := (Bk.new (w.alloc (.cells #[.int .u32 n, .int .i64 hold, .int .u32 id, .bool four] 52)) 55 #[.int .i64 0, .int .i64 0, .slice none 0 0]).below hb (by simp)
        simpa using this
      have c0 := hk.cell 0
      have c1 := hk.cell 1
      have c2 := hk.cell 2
      have f0 := hk.free 0
      have f1 := hk.free 1
      have f2 := hk.free 2
      simp at c0 c1 c2
      have Hk := Lib.hid hk
      have HB := Lib.hid (HA.out.trans (hb.mono (by simp; omega)))
      clear hk hb
      go_wp2_with fail
      have hF := retN_end (w := w) Hk.out (by omega) HB.out 2 3 none 0 [] (fun _ => rfl) (Rd.nil _ _ _ _) (fun ad h => by cases h)
      exact bodyPost_ret (results_cell_row rfl _ _ (w.heap.size + 1) 55 _ (0, 0) _ rfl hF.1 Try.underlying55 rfl info_notice) rfl hF.2
    cases four
    · have e1 : code n id false a own = 2 := by simp [code]
      have e2 : sub n id false a own = 7 := by simp [sub, h1, h2]
      have e3 : data n id false a own = octet.byteOf 65 :: octet.byteOf 4 :: be4 a := by simp [data, h1, h2]
      rw [e1, e2, e3]
      clear e1 e2 e3
      have b1 : (n == a) = true := by simp [h1]
      have b2 : (id == own) = false := by simp [h2]
      subst h1
      have HT : Hid (Wtr (((w.alloc (.cells #[.int .u32 n, .int .i64 hold, .int .u32 id, .bool false] 52)).alloc (.cells #[.int .i64 0, .int .i64 0, .slice none 0 0] 55)).alloc (.cells #[.slice none 0 0] 44)) (w.heap.size + 2) (w.heap.size + 2) []) := by
        have := wtr_new ((w.alloc (.cells #[.int .u32 n, .int .i64 hold, .int .u32 id, .bool false] 52)).alloc (.cells #[.int .i64 0, .int .i64 0, .slice none 0 0] 55))
        simp only [World.size_alloc, Nat.add_assoc] at this
        exact this
      have HA3 := Lib.hid (HA.out.alloc HA.out.size (.cells #[.slice none 0 0] 44))
      have HK : Hid (Bk (((w.alloc (.cells #[.int .u32 n, .int .i64 hold, .int .u32 id, .bool false] 52)).alloc (.cells #[.int .i64 0, .int .i64 0, .slice none 0 0] 55)).alloc (.cells #[.slice none 0 0] 44)) (w.heap.size + 1) 55 #[.int .i64 0, .int .i64 0, .slice none 0 0]) := by
        have := (Bk.new (w.alloc (.cells #[.int .u32 n, .int .i64 hold, .int .u32 id, .bool false] 52)) 55 #[.int .i64 0, .int .i64 0, .slice none 0 0]).alloc (.cells #[.slice none 0 0] 44)
        simp only [World.size_alloc] at this
        exact this
      go_enter Try.func36, Try.ntmps36
      go_wp2_with fail
      refine (U8_any (w.heap.size + 2) (w.heap.size + 2) [] 65 _ HT.out (by simp)).mono ?_; rintro e w1 ⟨rfl, hz, oz⟩
      have HK := Lib.hid (HK.out.below (HT.out.only oz) (by omega))
      have HB := Lib.hid (HA3.out.trans ((HT.out.only oz).mono (by omega)))
      have HT := Lib.hid hz
      clear hz oz
      go_wp2_with fail
      refine (U8_any (w.heap.size + 2) (w.heap.size + 2) _ 4 _ HT.out (by simp)).mono ?_; rintro e w2 ⟨rfl, hz, oz⟩
      have HK := Lib.hid (HK.out.below (HT.out.only oz) (by omega))
      have HB := Lib.hid (HB.out.trans ((HT.out.only oz).mono (by omega)))
      have HT := Lib.hid hz
      clear hz oz
      go_wp2_with fail
      refine (U32_any (w.heap.size + 2) (w.heap.size + 2) _ n _ HT.out (by simp) ha.1 ha.2).mono ?_; rintro e w3 ⟨rfl, hz, oz⟩
      have HK := Lib.hid (HK.out.below (HT.out.only oz) (by omega))
      have HB := Lib.hid (HB.out.trans ((HT.out.only oz).mono (by omega)))
      have HT := Lib.hid hz
      clear hz oz
      go_wp2_with fail
      refine (Bytes_any (w.heap.size + 2) (w.heap.size + 2) _ w3 HT.out (by simp)).mono ?_; rintro e w4 ⟨⟨A4, k4, rfl, g2, g3, g4, g5, g6, g7⟩, _⟩
      have hgt : w.heap.size + 1 < w3.heap.size := HK.out.lt
      have HK := Lib.hid (HK.out.below g6 hgt)
      have HB := Lib.hid (HB.out.trans (g6.mono (by omega)))
      have HD := Lib.hid (show _ ∧ _ ∧ _ from ⟨g2, g5, fun ad h => Nat.ne_of_gt (Nat.lt_of_lt_of_le hgt (g7 ad h))⟩)
      clear g2 g3 g4 g5 g6 g7
      go_wp2_with fail
      refine (wrong_any 7 A4 _ k4 w4).mono ?_; rintro e w5 ⟨rfl, hb⟩
      have hk := HK.out.below hb HK.out.lt
      have c0 := hk.cell 0
      have c1 := hk.cell 1
      have c2 := hk.cell 2
      have f0 := hk.free 0
      have f1 := hk.free 1
      have f2 := hk.free 2
      simp at c0 c1 c2
      have Hk := Lib.hid hk
      have HB := Lib.hid (HB.out.trans (hb.mono HB.out.size))
      have HD5 := Lib.hid ((HD.out.2.1.below hb (Nat.le_refl _)).more hb.size)
      clear hk hb
      go_wp2_with fail
      have hF := retN_end (w := w) Hk.out (by omega) HB.out 2 7 A4 k4 (octet.byteOf 65 :: octet.byteOf 4 :: be4 n) HD.out.1 HD5.out HD.out.2.2
      exact bodyPost_ret (results_cell_row rfl _ _ (w.heap.size + 1) 55 _ (0, 0) _ rfl hF.1 Try.underlying55 rfl info_notice) rfl hF.2
    · skip
      have e1 : code n id true a own = 0 := by simp [code, h1, h2]
      have e2 : sub n id true a own = 0 := by simp [sub, h1, h2]
      have e3 : data n id true a own = [] := by simp [data]
      rw [e1, e2, e3]
      clear e1 e2 e3
      have b1 : (n == a) = true := by simp [h1]
      have b2 : (id == own) = false := by simp [h2]
      subst h1
      go_enter Try.func36, Try.ntmps36
      go_wp2_with fail
      have hg := heap_alloc_new (w.alloc (.cells #[.int .u32 n, .int .i64 hold, .int .u32 id, .bool true] 52)) (.cells #[.int .i64 0, .int .i64 0, .slice none 0 0] 55)
      rw [World.size_alloc] at hg
      exact bodyPost_ret (results_cell_row rfl _ _ (w.heap.size + 1) 55 _ (0, 0) _ rfl hg Try.underlying55 rfl info_notice) rfl ⟨none, 0, rfl, fun _ => rfl, Rd.nil _ _ _ _, HA.out⟩
  · skip
    have e1 : code n id four a own = 2 := by simp [code, h1]
    have e2 : sub n id four a own = 2 := by simp [sub, h1]
    have e3 : data n id four a own = [] := by simp [data, h1]
    rw [e1, e2, e3]
    clear e1 e2 e3
    have b1 : (n == a) = false := by simp [h1]
    have HW := Lib.hid (wrong_any 2 none 0 0 ((w.alloc (.cells #[.int .u32 n, .int .i64 hold, .int .u32 id, .bool four] 52)).alloc (.cells #[.int .i64 0, .int .i64 0, .slice none 0 0] 55)))
    go_enter Try.func36, Try.ntmps36
    go_wp2_with fail
    refine HW.out.mono ?_; rintro e w1 ⟨rfl, hb⟩
    have hk : Bk w1 (w.heap.size + 1) 55 #[.int .i64 0, .int .i64 0, .slice none 0 0] := by
      have := (Bk.new (w.alloc (.cells #[.int .u32 n, .int .i64 hold, .int .u32 id, .bool four] 52)) 55 #[.int .i64 0, .int .i64 0, .slice none 0 0]).below hb (by simp)
      simpa using this
    have c0 := hk.cell 0
    have c1 := hk.cell 1
    have c2 := hk.cell 2
    have f0 := hk.free 0
    have f1 := hk.free 1
    have f2 := hk.free 2
    simp at c0 c1 c2
    have Hk := Lib.hid hk
    have HB := Lib.hid (HA.out.trans (hb.mono (by simp; omega)))
    clear hk hb
    go_wp2_with fail
    have hF := retN_end (w := w) Hk.out (by omega) HB.out 2 2 none 0 [] (fun _ => rfl) (Rd.nil _ _ _ _) (fun ad h => by cases h)
    exact bodyPost_ret (results_cell_row rfl _ _ (w.heap.size + 1) 55 _ (0, 0) _ rfl hF.1 Try.underlying55 rfl info_notice) rfl hF.2

theorem own_two (w : World) (a b : Value) (base : Nat) (hb : base ≤ w.heap.size) : (w.alloc (.cells #[a, b] 5)).ownsRow base 5 1 (.slice (some ⟨w.heap.size, 0, none⟩) 2 2) 2 [a, b] :=
  ⟨rfl, .inr ⟨w.heap.size, 2, #[a, b], rfl, hb, heap_alloc_new w _, Nat.le_refl _, by unfold maxLen; omega, rfl, rfl⟩⟩

set_option maxRecDepth 100000 in
theorem refJudge_any (n hold id : Int) (four : Bool) (a : Nat) (own : Int) (ha : a ≤ 4294967295) (w : World) :
    Calls Try.prog 37 #[.agg #[.int .u32 n, .int .i64 hold, .int .u32 id, .bool four], .int .u32 a, .int .u32 own] w (RetN (code n id four a own) (sub n id four a own) (data n id four a own) w) := by
  by_cases h1 : n = a
  case neg =>
    have e1 : code n id four a own = 2 := by simp [code, h1]
    have e2 : sub n id four a own = 2 := by simp [sub, h1]
    have e3 : data n id four a own = [] := by simp [data, h1]
    rw [e1, e2, e3]
    clear e1 e2 e3
    have b1 : (n == a) = false := by simp [h1]
    go_enter Try.func37, Try.ntmps37
    go_wp2_with fail
    have hg := heap_alloc_new (w.alloc (.cells #[.int .u32 n, .int .i64 hold, .int .u32 id, .bool four] 52)) (.cells #[.int .i64 2, .int .i64 2, .slice none 0 0] 55)
    rw [World.size_alloc] at hg
    exact bodyPost_ret (results_cell_row rfl _ _ (w.heap.size + 1) 55 _ (0, 0) _ rfl hg Try.underlying55 rfl info_notice) rfl ⟨none, 0, rfl, fun _ => rfl, Rd.nil _ _ _ _, ((Below.refl w.heap.size w).alloc (Nat.le_refl _) _).alloc (by simp) _⟩
  by_cases h2 : id = own
  case pos =>
    have e1 : code n id four a own = 2 := by simp [code, h2]
    have e2 : sub n id four a own = 3 := by simp [sub, h1, h2]
    have e3 : data n id four a own = [] := by simp [data, h2]
    rw [e1, e2, e3]
    clear e1 e2 e3
    have b1 : (n == a) = true := by simp [h1]
    have b2 : (id == own) = true := by simp [h2]
    subst h1 h2
    go_enter Try.func37, Try.ntmps37
    go_wp2_with fail
    have hg := heap_alloc_new (w.alloc (.cells #[.int .u32 (a : Int), .int .i64 hold, .int .u32 id, .bool four] 52)) (.cells #[.int .i64 2, .int .i64 3, .slice none 0 0] 55)
    rw [World.size_alloc] at hg
    exact bodyPost_ret (results_cell_row rfl _ _ (w.heap.size + 1) 55 _ (0, 0) _ rfl hg Try.underlying55 rfl info_notice) rfl ⟨none, 0, rfl, fun _ => rfl, Rd.nil _ _ _ _, ((Below.refl w.heap.size w).alloc (Nat.le_refl _) _).alloc (by simp) _⟩
  have b1 : (n == a) = true := by simp [h1]
  have b2 : (id == own) = false := by simp [h2]
  cases four
  case true =>
    have e1 : code n id true a own = 0 := by simp [code, h1, h2]
    have e2 : sub n id true a own = 0 := by simp [sub, h1, h2]
    have e3 : data n id true a own = [] := by simp [data]
    rw [e1, e2, e3]
    clear e1 e2 e3
    subst h1
    go_enter Try.func37, Try.ntmps37
    go_wp2_with fail
    have hg := heap_alloc_new (w.alloc (.cells #[.int .u32 (a : Int), .int .i64 hold, .int .u32 id, .bool true] 52)) (.cells #[.int .i64 0, .int .i64 0, .slice none 0 0] 55)
    rw [World.size_alloc] at hg
    exact bodyPost_ret (results_cell_row rfl _ _ (w.heap.size + 1) 55 _ (0, 0) _ rfl hg Try.underlying55 rfl info_notice) rfl ⟨none, 0, rfl, fun _ => rfl, Rd.nil _ _ _ _, ((Below.refl w.heap.size w).alloc (Nat.le_refl _) _).alloc (by simp) _⟩
  case false =>
    have e1 : code n id false a own = 2 := by simp [code]
    have e2 : sub n id false a own = 7 := by simp [sub, h1, h2]
    have e3 : data n id false a own = [65, 4] ++ bigv a 4 := by
      have : octet.byteOf 65 = 65 := by decide
      have : octet.byteOf 4 = 4 := by decide
      simp [data, be4, bigv, *]
    rw [e1, e2, e3]
    clear e1 e2 e3
    subst h1
    obtain ⟨i0, hi, hz0, hz1, hz2⟩ := info_parts info_u8
    have Hi := Lib.hid hi
    have Hz0 := Lib.hid hz0
    have Hz1 := Lib.hid hz1
    have Hz2 := Lib.hid hz2
    have hown := own_two ((w.alloc (.cells #[.int .u32 (a : Int), .int .i64 hold, .int .u32 id, .bool false] 52)).alloc (.cells #[.int .i64 0, .int .i64 0, .slice none 0 0] 55)) (.int .u8 65) (.int .u8 4) (w.heap.size + 2) (by simp)
    simp only [World.size_alloc, Nat.add_assoc] at hown
    have Hown := Lib.hid hown
    have hkk := (Bk.new (w.alloc (.cells #[.int .u32 (a : Int), .int .i64 hold, .int .u32 id, .bool false] 52)) 55 #[.int .i64 0, .int .i64 0, .slice none 0 0]).alloc (.cells #[.int .u8 65, .int .u8 4] 5)
    simp only [World.size_alloc] at hkk
    have HK := Lib.hid hkk
    have HB := Lib.hid ((((Below.refl w.heap.size w).alloc (Nat.le_refl _) (.cells #[.int .u32 (a : Int), .int .i64 hold, .int .u32 id, .bool false] 52)).alloc (by simp) (.cells #[.int .i64 0, .int .i64 0, .slice none 0 0] 55)).alloc (by simp; omega) (.cells #[.int .u8 65, .int .u8 4] 5))
    have e22 : IntKind.u64.wrap (a : Int) = a := by show (a : Int) % 18446744073709551616 = a; omega
    have hs3 : w.heap.size + 2 < (((w.alloc (.cells #[.int .u32 (a : Int), .int .i64 hold, .int .u32 id, .bool false] 52)).alloc (.cells #[.int .i64 0, .int .i64 0, .slice none 0 0] 55)).alloc (.cells #[.int .u8 65, .int .u8 4] 5)).heap.size := by simp
    clear hi hz0 hz1 hz2 hown hkk
    go_enter Try.func37, Try.ntmps37
    go_wp2_with fail
    refine (Big_any a 4 _ (by omega) (by omega)).mono ?_; rintro e w4 ⟨C, c4, rfl, g2, g3, g4, g5, g6, g7⟩
    have ho := Hown.out.kept (row := none) ⟨g6.os, g6.tape, g6.output, g6.size, fun k hk _ => g6.block k hk⟩ (.inr (by simp [Value.ownBlock]))
    have Hown := Lib.hid ho
    have HK := Lib.hid (HK.out.below g6 HK.out.lt)
    have HB := Lib.hid (HB.out.trans (g6.mono HB.out.size))
    have HC := Lib.hid g2
    have HS := Lib.hid g5
    have hb4 : w.heap.size + 2 ≤ w4.heap.size := Nat.le_trans (Nat.le_of_lt hs3) g6.size
    clear g2 g3 g4 g5 g6 g7 ho
    go_wp2_with (at_builtin; refine wpList_append_sl rfl (.tmp 20) (.tmp 23) _ rfl (w.heap.size + 2) 5 i0 _ 1 1 Try.underlying26 Hi.out Hz0.out Hz1.out Hz2.out rfl (by omega) (.slice (some ⟨w.heap.size + 2, 0, none⟩) 2 2) 2 [.int .u8 65, .int .u8 4] rfl Hown.out w4.heap.size C 4 c4 HC.out (bv (bigv a 4)) rfl HS.out (bv_one _) (by unfold maxLen; omega) (by omega) hb4 ?_; intro R r w5 ho hg hat; have hk := HK.out.grown hg (HK.out.ne_own Hown.out (by decide)); have HB := Lib.hid (HB.out.trans (below_grown hg (Nat.le_trans (by omega) hb4) (fun g h => by simp [Value.ownBlock] at h; omega))); have HO := Lib.hid ho; have c0 := hk.cell 0; have c1 := hk.cell 1; have c2 := hk.cell 2; have f0 := hk.free 0; have f1 := hk.free 1; have f2 := hk.free 2; simp at c0 c1 c2; have Hk := Lib.hid hk; clear hk ho hg hat)
    have hA5 := own_form HO.out
    obtain ⟨A', c', e, hA, _, _⟩ := hA5
    injection e with q1 q2 q3
    subst q1 q3
    have hlt := HO.out.lt
    have hF := retN_end (w := w) Hk.out (by omega) HB.out 2 7 R r ([65, 4] ++ bigv a 4) hA (Rd.of_own HO.out) (fun ad h => by subst h; have := (hlt ad.block (by simp [Value.ownBlock])).1; omega)
    exact bodyPost_ret (results_cell_row rfl _ _ (w.heap.size + 1) 55 _ (0, 0) _ rfl hF.1 Try.underlying55 rfl info_notice) rfl hF.2

end Go.Proofs.Ytajilbapjpfloaa.openJudges
