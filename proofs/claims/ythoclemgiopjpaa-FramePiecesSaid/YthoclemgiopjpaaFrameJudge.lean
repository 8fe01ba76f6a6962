/- What frame.judge returns. Condition: numbers of a head. -/
import Derived.Test.YthoclemgiopjpaaFrameFns
namespace Go.Proofs.Ythoclemgiopjpaa.frame
open Go.RowKit Go.Proofs.Ythoclemgiopjpaa.kit Go.Proofs.Ythoclemgiopjpaa.mem Go.Proofs.Ythoclemgiopjpaa.foot Go.Proofs.Ythoclemgiopjpaa.octet
set_option linter.unusedVariables false
set_option linter.unusedSimpArgs false

theorem info_notice : (Try.prog.info? 53).map (·.size) = some 3 := by kernel_rfl

/-- a notice handed back, its bytes new -/
def RetNt (t : Nt) (w : World) (e : Ending) (w' : World) : Prop :=
  ∃ A c, e = .returned (.agg #[.int .i64 t.1, .int .i64 t.2.1, .slice A t.2.2.length c]) ∧ (A = none → c = 0) ∧ t.2.2.length ≤ c ∧ c ≤ maxLen ∧ Bs w' w'.heap.size A t.2.2 ∧ (∀ ad, A = some ad → w.heap.size ≤ ad.block) ∧ Below w.heap.size w w'

/-- at the label: what is told, and its bytes in a writer or nowhere -/
def Tj (m : List UInt8) (n kind : Nat) (w : World) (sub : Int) (D : Value) (wr : World) : Prop :=
  ∃ data : List UInt8, judgeN m n kind = (1, sub, data) ∧ Bk wr w.heap.size 53 #[.int .i64 0, .int .i64 0, .slice none 0 0] ∧ Below w.heap.size w wr ∧ data.length ≤ 2 ∧ ((D = .pointer none ∧ data = []) ∨ ∃ b, D = .pointer (some ⟨b, 0, none⟩) ∧ Wtr wr (w.heap.size + 1) b data)

theorem bytes_nil (w : World) : Calls Try.prog 42 #[.pointer none] w fun e w' => e = .returned (.slice none 0 0) ∧ w = w' := by
  go_enter Try.func42, Try.ntmps42
  go_wp2_with fail
  go_ret
  exact ⟨rfl, rfl⟩

/-- a slice of bytes that is to be told, beside the notice's cells -/
def Tb (w : World) (x y z : Value) (l : List UInt8) (A : Option Addr) (c : Nat) (w1 : World) : Prop :=
  Bk w1 w.heap.size 53 #[x, y, z] ∧ (A = none → c = 0) ∧ l.length ≤ c ∧ c ≤ maxLen ∧ Bs w1 w1.heap.size A l ∧ (∀ ad, A = some ad → w.heap.size < ad.block) ∧ Below w.heap.size w w1
theorem Tj.bytes {m : List UInt8} {n kind : Nat} {w wr : World} {sub : Int} {D : Value} (h : Tj m n kind w sub D wr) :
    Calls Try.prog 42 #[D] wr fun e w' => ∃ A c, e = .returned (.slice A (judgeN m n kind).2.2.length c) ∧ (judgeN m n kind).1 = 1 ∧ (judgeN m n kind).2.1 = sub ∧ Tb w (.int .i64 0) (.int .i64 0) (.slice none 0 0) (judgeN m n kind).2.2 A c w' := by
  obtain ⟨data, he, hk, hb, hl, hD⟩ := h
  rw [he]
  rcases hD with ⟨rfl, rfl⟩ | ⟨b, rfl, hw⟩
  · refine (bytes_nil wr).mono ?_
    rintro e w' ⟨rfl, rfl⟩
    exact ⟨none, 0, rfl, rfl, rfl, hk, fun _ => rfl, Nat.le_refl _, Nat.zero_le _, Rd.nil _ _ _ _, (fun ad h => by cases h), hb⟩
  · refine (Bytes_any (w.heap.size + 1) b data wr hw (by omega)).mono ?_
    rintro e w' ⟨⟨A, c, rfl, h1, h2, h3, h4, h5, h6⟩, _⟩
    have := hk.lt
    exact ⟨A, c, rfl, rfl, rfl, hk.below h5 hk.lt, h1, h2, h3, h4, fun ad e => by have := h6 ad e; omega, hb.trans (h5.mono hb.size)⟩
theorem Tb.end_ {w w1 : World} {x y z : Value} {A : Option Addr} {c : Nat} {t : Nt} (h : Tb w x y z t.2.2 A c w1) :
    (((w1.setCell ⟨w.heap.size, 0, none⟩ (.int .i64 t.1)).setCell ⟨w.heap.size, 1, none⟩ (.int .i64 t.2.1)).setCell ⟨w.heap.size, 2, none⟩ (.slice A t.2.2.length c)).heap[w.heap.size]? = some (.cells #[.int .i64 t.1, .int .i64 t.2.1, .slice A t.2.2.length c] 53 (0, 0)) ∧
      RetNt t w (.returned (.agg #[.int .i64 t.1, .int .i64 t.2.1, .slice A t.2.2.length c])) (((w1.setCell ⟨w.heap.size, 0, none⟩ (.int .i64 t.1)).setCell ⟨w.heap.size, 1, none⟩ (.int .i64 t.2.1)).setCell ⟨w.heap.size, 2, none⟩ (.slice A t.2.2.length c)) := by
  obtain ⟨hk, h1, h2, h3, hs, hne, hb⟩ := h
  have h4 := ((hk.put 0 (.int .i64 t.1)).put 1 (.int .i64 t.2.1)).put 2 (.slice A t.2.2.length c)
  have hB := ((hb.setCell (p := ⟨w.heap.size, 0, none⟩) (Nat.le_refl _) (.int .i64 t.1)).setCell (p := ⟨w.heap.size, 1, none⟩) (Nat.le_refl _) (.int .i64 t.2.1)).setCell (p := ⟨w.heap.size, 2, none⟩) (Nat.le_refl _) (.slice A t.2.2.length c)
  refine ⟨by simpa [Bk] using h4, A, c, rfl, h1, h2, h3, ⟨hs.1, fun hn => ?_⟩, fun ad e => Nat.le_of_lt (hne ad e), hB⟩
  obtain ⟨b, off, e, hlt, hc⟩ := hs.2 hn
  have hbg : b ≠ w.heap.size := fun e2 => by have := hne _ e; simp at this; omega
  refine ⟨b, off, e, by simpa [World.setCell] using hlt, fun j u hu => ?_⟩
  rw [World.cell?_of_block (w := w1) ((Below.heap_setCell _ ⟨w.heap.size, 2, none⟩ _ b hbg).trans ((Below.heap_setCell _ ⟨w.heap.size, 1, none⟩ _ b hbg).trans (Below.heap_setCell _ ⟨w.heap.size, 0, none⟩ _ b hbg)))]
  exact hc j u hu

set_option maxRecDepth 100000 in
set_option maxHeartbeats 1000000 in
theorem judge_any (A : Option Addr) (c B : Nat) (m : List UInt8) (n kind : Nat) (w : World) (hm : m.length ≤ 1000) (hn : n < 65536) (hk : kind < 256) (hB : B ≤ w.heap.size) (hs : Bs w B A m) :
    Calls Try.prog 56 #[.slice A m.length c, .int .i64 n, .int .i64 kind] w (RetNt (judgeN m n kind) w) := by
  go_enter Try.func56, Try.ntmps56
  go_wp2_with fail
  refine wp_scope_jumps 0 (fun a' wr => ∃ sub D x0 x3 x4 x5 x9 x10 x11 x12 x13 x14 x15 x16 x17 x18 x19 x20 x21 x22 x23 x24 x25 x26 x27 x28 x29 x30 x31 x32 x33 x34 x35 x36 x37 x38 x39 x40 x41, Tj m n kind w sub D wr ∧ a' = { tmps := #[x0, .int .i64 n, .int .i64 kind, x3, x4, x5, .pointer (some ⟨w.heap.size, 0, none⟩), .int .i64 sub, D, x9, x10, x11, x12, x13, x14, x15, x16, x17, x18, x19, x20, x21, x22, x23, x24, x25, x26, x27, x28, x29, x30, x31, x32, x33, x34, x35, x36, x37, x38, x39, x40, x41], defers := [] }) (fun _ _ => 0) rfl ?first ?pass
  case first =>
    have hwt : Wtr ((w.alloc (.cells #[.int .i64 0, .int .i64 0, .slice none 0 0] 53)).alloc (.cells #[.slice none 0 0] 72)) (w.heap.size + 1) (w.heap.size + 1) [] := by
      have := wtr_new (w.alloc (.cells #[.int .i64 0, .int .i64 0, .slice none 0 0] 53))
      simpa using this
    have HU := Lib.hid (U16_any (w.heap.size + 1) (w.heap.size + 1) [] n _ hwt (by simp))
    have HW0 := Lib.hid hwt
    have HN0 : Hid (Bk ((w.alloc (.cells #[.int .i64 0, .int .i64 0, .slice none 0 0] 53)).alloc (.cells #[.slice none 0 0] 72)) w.heap.size 53 #[.int .i64 0, .int .i64 0, .slice none 0 0] ∧ Below w.heap.size w ((w.alloc (.cells #[.int .i64 0, .int .i64 0, .slice none 0 0] 53)).alloc (.cells #[.slice none 0 0] 72))) :=
      ⟨(Bk.new w _ _).alloc _, ((Below.refl _ _).alloc (Nat.le_refl _) _).alloc (by simp) _⟩
    have Hs := Lib.hid hs
    clear hwt hs
    go_wp2_with fail
    refine HU.out.mono ?_; rintro e w1 ⟨rfl, hw1, ho1⟩
    have hb01 := HW0.out.only ho1
    have HN1 : Hid (Bk w1 w.heap.size 53 #[.int .i64 0, .int .i64 0, .slice none 0 0] ∧ Below w.heap.size w w1) := ⟨HN0.out.1.below hb01 (by omega), HN0.out.2.trans (hb01.mono (by omega))⟩
    have HW1 := Lib.hid hw1
    have HM := Lib.hid (marked_any w1)
    clear hw1 ho1 hb01 HU HW0 HN0
    go_wp2_with fail
    refine HM.out.mono ?_; rintro e w2 ⟨A2, rfl, ho2, hl2, hb2⟩
    have HN2 : Hid (Bk w2 w.heap.size 53 #[.int .i64 0, .int .i64 0, .slice none 0 0] ∧ Below w.heap.size w w2) := ⟨HN1.out.1.below hb2 HN1.out.1.lt, HN1.out.2.trans (hb2.mono HN1.out.2.size)⟩
    have HW2 := Lib.hid (HW1.out.below hb2)
    have HEq := Lib.hid (Equal_any A A2 c 16 m marks (fun _ => True) _ w2 (Rg.of_rd (Rd.below Hs.out HN2.out.2 hB) (Nat.le_trans hB HN2.out.2.size) (fun _ _ => trivial)) ho2.rg)
    clear ho2 hl2 hb2 HM HN1 HW1
    go_wp2_with fail
    refine HEq.out.mono ?_; rintro e w' ⟨rfl, rfl⟩
    clear HEq
    by_cases hm1 : m = marks
    case' neg =>
      rw [show decide (m = marks) = false from by simp [hm1]]
      have HT : Hid (Tj m n kind w 1 (.pointer none) w2) := ⟨[], by unfold judgeN; rw [if_pos hm1], HN2.out.1, HN2.out.2, by simp, .inl ⟨rfl, rfl⟩⟩
      clear hm1
      go_wp2_with fail
      go_step3
      exact ⟨rfl, 1, .pointer none, _, _, _, _, _, _, _, _, _, _, _, _, _, _, _, _, _, _, _, _, _, _, _, _, _, _, _, _, _, _, _, _, _, _, _, _, _, HT.out, rfl⟩
    case' pos =>
      rw [show decide (m = marks) = true from by simp [hm1]]
      have HJ : Hid (judgeN m n kind = if n < 19 ∨ 4096 < n then (1, 2, be2 (n : Int)) else if kind < 1 ∨ 4 < kind then (1, 3, [octet.byteOf (kind : Int)]) else if fitsB kind n = false then (1, 2, be2 (n : Int)) else (0, 0, [])) := by
        rw [Hid]; unfold judgeN; rw [if_neg (by simp [hm1])]
      have H2 : Hid (judgeN m n kind = (1, 2, be2 (n : Int)) → Tj m n kind w 2 (.pointer (some ⟨w.heap.size + 1, 0, none⟩)) w2) := fun h => ⟨be2 (n : Int), h, HN2.out.1, HN2.out.2, by simp [be2], .inr ⟨_, rfl, HW2.out⟩⟩
      clear hm1
      by_cases hn1 : n < 19
      case' pos =>
        have HT := Lib.hid (H2.out (by rw [HJ.out, if_pos (.inl hn1)]))
        go_wp2_with fail
        go_step3
        exact ⟨rfl, 2, .pointer (some ⟨w.heap.size + 1, 0, none⟩), _, _, _, _, _, _, _, _, _, _, _, _, _, _, _, _, _, _, _, _, _, _, _, _, _, _, _, _, _, _, _, _, _, _, _, _, _, HT.out, rfl⟩
      case' neg =>
        by_cases hn2 : 4096 < n
        case' pos =>
          have HT := Lib.hid (H2.out (by rw [HJ.out, if_pos (.inr hn2)]))
          go_wp2_with fail
          go_step3
          exact ⟨rfl, 2, .pointer (some ⟨w.heap.size + 1, 0, none⟩), _, _, _, _, _, _, _, _, _, _, _, _, _, _, _, _, _, _, _, _, _, _, _, _, _, _, _, _, _, _, _, _, _, _, _, _, _, HT.out, rfl⟩
        case' neg =>
          have HJ2 := Lib.hid HJ.out
          rw [if_neg (by omega)] at HJ2
          clear HJ
          by_cases hk1 : kind < 1 ∨ 4 < kind
          case' pos =>
            have hwt : Wtr (w2.alloc (.cells #[.slice none 0 0] 72)) (w.heap.size + 1) w2.heap.size [] := by
              obtain ⟨_, A0, c0, g1, g2⟩ := wtr_new w2
              have h5 := HN2.out.1.lt
              exact ⟨by omega, A0, c0, g1, own_le g2 (by omega)⟩
            have HU := Lib.hid (U8_any (w.heap.size + 1) w2.heap.size [] kind _ hwt (by simp))
            have HWt := Lib.hid hwt
            have HJ3 := Lib.hid HJ2.out
            rw [if_pos hk1] at HJ3
            have hN3 : Below w2.heap.size w2 (w2.alloc (.cells #[.slice none 0 0] 72)) := (Below.refl _ _).alloc (Nat.le_refl _) _
            have HN3 : Hid (Bk (w2.alloc (.cells #[.slice none 0 0] 72)) w.heap.size 53 #[.int .i64 0, .int .i64 0, .slice none 0 0] ∧ Below w.heap.size w (w2.alloc (.cells #[.slice none 0 0] 72))) := ⟨HN2.out.1.below hN3 HN2.out.1.lt, HN2.out.2.trans (hN3.mono HN2.out.2.size)⟩
            clear hwt hN3 HJ2 HN2 HW2 H2
            rcases hk1 with hk1 | hk1
            all_goals
              go_wp2_with fail
              refine HU.out.mono ?_; rintro e w3 ⟨rfl, hw3, ho3⟩
              have hb3 := HWt.out.only ho3
              have HT : Hid (Tj m n kind w 3 (.pointer (some ⟨w2.heap.size, 0, none⟩)) w3) := ⟨[octet.byteOf (kind : Int)], HJ3.out, HN3.out.1.below hb3 (by omega), HN3.out.2.trans (hb3.mono (by omega)), by simp, .inr ⟨_, rfl, hw3⟩⟩
              clear hw3 ho3 hb3
              go_wp2_with fail
              go_step3
              exact ⟨rfl, 3, .pointer (some ⟨w2.heap.size, 0, none⟩), _, _, _, _, _, _, _, _, _, _, _, _, _, _, _, _, _, _, _, _, _, _, _, _, _, _, _, _, _, _, _, _, _, _, _, _, _, HT.out, rfl⟩
          case' neg =>
            have HJ3 := Lib.hid HJ2.out
            rw [if_neg hk1] at HJ3
            have hk2 : ¬ kind < 1 := by omega
            have hk3 : ¬ 4 < kind := by omega
            have HFi := Lib.hid (fits_any kind n w2)
            clear hk1 HJ2
            go_wp2_with fail
            refine HFi.out.mono ?_; rintro e w' ⟨rfl, rfl⟩
            clear HFi
            rcases hf : fitsB kind n with _ | _
            case' false =>
              have HT := Lib.hid (H2.out (by rw [HJ3.out, hf]; rfl))
              clear hf HJ3
              go_wp2_with fail
              go_step3
              exact ⟨rfl, 2, .pointer (some ⟨w.heap.size + 1, 0, none⟩), _, _, _, _, _, _, _, _, _, _, _, _, _, _, _, _, _, _, _, _, _, _, _, _, _, _, _, _, _, _, _, _, _, _, _, _, _, HT.out, rfl⟩
            case' true =>
              have hj : judgeN m n kind = (0, 0, []) := by rw [HJ3.out, hf]; rfl
              obtain ⟨g1, g2⟩ := Tb.end_ (w := w) (w1 := w2) (x := .int .i64 0) (y := .int .i64 0) (z := .slice none 0 0) (t := (0, 0, [])) (A := none) (c := 0) ⟨HN2.out.1, fun _ => rfl, Nat.le_refl _, Nat.zero_le _, Rd.nil _ _ _ _, (fun ad h => by cases h), HN2.out.2⟩
              have HG1 := Lib.hid g1
              have HG2 : Hid (RetNt (judgeN m n kind) w (.returned (.agg #[.int .i64 0, .int .i64 0, .slice none 0 0])) (((w2.setCell ⟨w.heap.size, 0, none⟩ (.int .i64 0)).setCell ⟨w.heap.size, 1, none⟩ (.int .i64 0)).setCell ⟨w.heap.size, 2, none⟩ (.slice none 0 0))) := by rw [Hid, hj]; exact g2
              clear g1 g2
              have q0 := HN2.out.1.cell 0
              have q1 := HN2.out.1.cell 1
              have q2 := HN2.out.1.cell 2
              have f0 := HN2.out.1.free 0
              have f1 := HN2.out.1.free 1
              have f2 := HN2.out.1.free 2
              simp at q0 q1 q2
              clear hf HJ3 hj
              go_wp2_with fail
              try simp only [Exit.jump]
              exact bodyPost_ret (results_cell_row rfl _ _ w.heap.size 53 _ (0, 0) _ rfl HG1.out Try.underlying53 rfl info_notice) rfl HG2.out
  case pass =>
    rintro a' wr ⟨sub, D, x0, x3, x4, x5, x9, x10, x11, x12, x13, x14, x15, x16, x17, x18, x19, x20, x21, x22, x23, x24, x25, x26, x27, x28, x29, x30, x31, x32, x33, x34, x35, x36, x37, x38, x39, x40, x41, hT, rfl⟩
    have HB := Lib.hid hT.bytes
    clear hT
    generalize judgeN m n kind = t at *
    go_wp2_with fail
    refine HB.out.mono ?_; rintro e w1 ⟨A1, c1, rfl, e1, e2, hTb⟩
    have hE := hTb.end_
    obtain ⟨hk, _⟩ := hTb
    have q0 := hk.cell 0
    have q1 := hk.cell 1
    have q2 := hk.cell 2
    have f0 := hk.free 0
    have f1 := hk.free 1
    have f2 := hk.free 2
    rw [e1, e2] at hE
    have HE := Lib.hid hE
    simp at q0 q1 q2
    clear hk hE e1 e2 HB
    go_wp2_with fail
    try simp only [Exit.jump]
    exact bodyPost_ret (results_cell_row rfl _ _ w.heap.size 53 _ (0, 0) _ rfl HE.out.1 Try.underlying53 rfl info_notice) rfl HE.out.2
end Go.Proofs.Ythoclemgiopjpaa.frame
