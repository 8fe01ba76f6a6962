/- What frame's Wrap, New, Feed, Waits, Broken, Reset do; what confluencelaw12.lives returns. Condition: at most 2^39 bytes. -/
import Derived.Test.YthoclemgiopjpaaFrameFeed
namespace Go.Proofs.Ythoclemgiopjpaa.frame
open Go.RowKit Go.Proofs.Ythoclemgiopjpaa.kit Go.Proofs.Ythoclemgiopjpaa.mem Go.Proofs.Ythoclemgiopjpaa.foot Go.Proofs.Ythoclemgiopjpaa.octet
set_option linter.unusedVariables false
set_option linter.unusedSimpArgs false

/-- a message's bytes -/
def wrapF (kind : Int) (body : List UInt8) : List UInt8 := (((marks ++ [octet.byteOf ((19 + (body.length : Int)) / 256), octet.byteOf (19 + (body.length : Int))]) ++ [octet.byteOf kind]) ++ body)

set_option maxRecDepth 100000 in
theorem Wrap_yes (kind : Int) (A : Option Addr) (c B : Nat) (body : List UInt8) (w : World) (h1 : 1 ≤ kind) (h4 : kind ≤ 4) (hl : body.length ≤ 4077) (hA : A = none → c = 0) (hB : B ≤ w.heap.size) (hs : Bs w B A body) :
    Calls Try.prog 24 #[.int .i64 kind, .slice A body.length c] w fun e w' => ∃ A' c', e = .returned (.tuple #[.slice A' (wrapF kind body).length c', .int .i64 0]) ∧ Nb w A' c' (wrapF kind body) w' ∧ Below w.heap.size w w' := by
  obtain ⟨y, hy⟩ : ∃ y, wrapF kind body = y := ⟨_, rfl⟩
  rw [hy]
  have Hy := Lib.hid hy
  have d1 : decide (kind < 1) = false := by simp; omega
  have d2 : decide (4 < kind) = false := by simp; omega
  have Hs := Lib.hid hs
  have HA := Lib.hid hA
  have HW0 := Lib.hid (wtr_new w)
  have hb0 : Below w.heap.size w (w.alloc (.cells #[.slice none 0 0] 72)) := (Below.refl _ _).alloc (Nat.le_refl _) _
  have HB0 := Lib.hid hb0
  have HM := Lib.hid (marked_any (w.alloc (.cells #[.slice none 0 0] 72)))
  have hml : marks.length = 16 := rfl
  have Hml := Lib.hid hml
  clear hs hA hb0 hml hy
  go_enter Try.func24, Try.ntmps24
  go_wp2_with fail
  refine HM.out.mono ?_; rintro e w1 ⟨A1, rfl, ho1, _, hb1⟩
  have HW1 := Lib.hid (HW0.out.below hb1)
  have HB1 := Lib.hid (HB0.out.trans (hb1.mono HB0.out.size))
  have hp := Put_any w.heap.size w.heap.size [] marks A1 16 w1.heap.size w1 HW1.out (by rw [Hml.out]; simp) (fun e => by have := ho1.nil e; exact this) (Nat.le_refl _) ho1.rg.rd
  rw [Hml.out, List.nil_append] at hp
  have HP := Lib.hid hp
  clear ho1 hb1 HM HW0 HB0 hp
  go_wp2_with fail
  refine HP.out.mono ?_; rintro e w2 ⟨rfl, hw2, hn2⟩
  have hbn := HW1.out.only hn2
  have HB2 := Lib.hid (HB1.out.trans hbn)
  have HU := Lib.hid (U16_any w.heap.size w.heap.size marks (19 + (body.length : Int)) w2 hw2 (by rw [Hml.out]; omega))
  have HW2 := Lib.hid hw2
  clear hw2 hn2 hbn HP HW1 HB1
  go_wp2_with fail
  refine HU.out.mono ?_; rintro e w3 ⟨rfl, hw3, hn3⟩
  have hbn := HW2.out.only hn3
  have HB3 := Lib.hid (HB2.out.trans hbn)
  have HU := Lib.hid (U8_any w.heap.size w.heap.size _ kind w3 hw3 (by rw [List.length_append, Hml.out]; simp))
  have HW3 := Lib.hid hw3
  clear hw3 hn3 hbn HW2 HB2
  go_wp2_with fail
  refine HU.out.mono ?_; rintro e w4 ⟨rfl, hw4, hn4⟩
  have hbn := HW3.out.only hn4
  have HB4 := Lib.hid (HB3.out.trans hbn)
  have HP := Lib.hid (Put_any w.heap.size w.heap.size _ body A c B w4 hw4 (by rw [List.length_append, List.length_append, Hml.out]; simp; omega) HA.out (Nat.le_trans hB HB4.out.size) (Rd.below Hs.out HB4.out hB))
  have HW4 := Lib.hid hw4
  clear hw4 hn4 hbn HW3 HB3 HU
  go_wp2_with fail
  refine HP.out.mono ?_; rintro e w5 ⟨rfl, hw5, hn5⟩
  have hbn := HW4.out.only hn5
  have HB5 := Lib.hid (HB4.out.trans hbn)
  have hby := Bytes_any w.heap.size w.heap.size (wrapF kind body) w5 hw5 (by unfold wrapF; rw [List.length_append, List.length_append, List.length_append, Hml.out]; simp; omega)
  rw [Hy.out] at hby
  have HBy := Lib.hid hby
  clear hw5 hn5 hbn HW4 HB4 HP hby
  go_wp2_with fail
  refine HBy.out.mono ?_; rintro e w6 ⟨⟨A6, c6, rfl, g1, g2, g3, g4, g5, g6⟩, _⟩
  have HF : Hid (Nb w A6 c6 y w6 ∧ Below w.heap.size w w6) := ⟨⟨g1, g2, g3, g4, fun ad e => Nat.le_trans HB5.out.size (g6 ad e)⟩, HB5.out.trans (g5.mono HB5.out.size)⟩
  clear g1 g2 g3 g4 g5 g6 HBy
  go_wp2_with fail
  go_ret2
  exact ⟨A6, c6, rfl, HF.out.1, HF.out.2⟩

theorem Wrap_kind (kind : Int) (A : Option Addr) (n c : Nat) (w : World) (h : kind < 1 ∨ 4 < kind) :
    Calls Try.prog 24 #[.int .i64 kind, .slice A n c] w fun e w' => e = .returned (.tuple #[.slice none 0 0, .int .i64 1]) ∧ w = w' := by
  rcases h with h | h
  · have d1 : decide (kind < 1) = true := by simpa using h
    go_enter Try.func24, Try.ntmps24
    go_wp2_with fail
    go_ret2
    exact ⟨rfl, rfl⟩
  · have d1 : decide (kind < 1) = false := by simp; omega
    have d2 : decide (4 < kind) = true := by simpa using h
    go_enter Try.func24, Try.ntmps24
    go_wp2_with fail
    go_ret2
    exact ⟨rfl, rfl⟩

theorem Wrap_long (kind : Int) (A : Option Addr) (n c : Nat) (w : World) (h1 : 1 ≤ kind) (h4 : kind ≤ 4) (hl : 4077 < n) :
    Calls Try.prog 24 #[.int .i64 kind, .slice A n c] w fun e w' => e = .returned (.tuple #[.slice none 0 0, .int .i64 6]) ∧ w = w' := by
  have d1 : decide (kind < 1) = false := by simp; omega
  have d2 : decide (4 < kind) = false := by simp; omega
  go_enter Try.func24, Try.ntmps24
  go_wp2_with fail
  go_ret2
  exact ⟨rfl, rfl⟩

theorem New_any' (w : World) : Calls Try.prog 31 #[] w fun e w' => ∃ s F, e = .returned (.pointer (some ⟨s, 0, none⟩)) ∧ St w' F s [] false ∧ (∀ k, F k → w.heap.size ≤ k) ∧ Below w.heap.size w w' := by
  go_enter Try.func31, Try.ntmps31
  go_wp2_with fail
  go_ret
  exact ⟨w.heap.size, fun k => k = w.heap.size, rfl, ⟨none, 0, fun _ => False, Bk.new w _ _, fun _ => rfl, Nat.le_refl _, Nat.zero_le _, Rg.nil _ _ _ _, rfl, fun _ h => h.elim, fun k hk => by rw [hk]; simp⟩, fun k hk => Nat.le_of_eq hk.symm, (Below.refl _ _).alloc (Nat.le_refl _) _⟩

theorem Waits_any {F : Foot} {s : Nat} {x : List UInt8} {br : Bool} (w : World) (h : St w F s x br) :
    Calls Try.prog 33 #[.pointer (some ⟨s, 0, none⟩)] w fun e w' => e = .returned (.int .i64 (x.length : Int)) ∧ w = w' := by
  obtain ⟨A, c, G, hk, _⟩ := h
  have k0 := hk.cell 0
  simp at k0
  clear hk
  go_enter Try.func33, Try.ntmps33
  go_wp2_with fail
  go_ret
  exact ⟨rfl, rfl⟩
theorem Broken_any {F : Foot} {s : Nat} {x : List UInt8} {br : Bool} (w : World) (h : St w F s x br) :
    Calls Try.prog 34 #[.pointer (some ⟨s, 0, none⟩)] w fun e w' => e = .returned (.bool br) ∧ w = w' := by
  obtain ⟨A, c, G, hk, _⟩ := h
  have k0 := hk.cell 1
  simp at k0
  clear hk
  go_enter Try.func34, Try.ntmps34
  go_wp2_with fail
  go_ret
  exact ⟨by simp, rfl⟩
theorem Reset_any {F : Foot} {s : Nat} {x : List UInt8} {br : Bool} (w : World) (h : St w F s x br) :
    Calls Try.prog 35 #[.pointer (some ⟨s, 0, none⟩)] w fun e w' => e = .returned (.tuple #[]) ∧ St w' F s [] false ∧ Chg F w w' := by
  have HC := Lib.hid (h.clear false)
  obtain ⟨A, c, G, hk, _⟩ := h
  have k0 := hk.cell 0
  have k1 := hk.cell 1
  have kf := fun i => hk.free i
  simp at k0 k1
  clear hk
  go_enter Try.func35, Try.ntmps35
  go_wp2_with fail
  go_end0
  exact ⟨rfl, HC.out.1, HC.out.2⟩

/-- what Feed hands back of a stream that is broken -/
theorem Feed_broken {F : Foot} {s : Nat} {x : List UInt8} {A : Option Addr} {n c : Nat} (w : World) (h : St w F s x true) :
    Calls Try.prog 32 #[.pointer (some ⟨s, 0, none⟩), .slice A n c] w fun e w' => e = .returned (.tuple #[.slice none 0 0, .agg #[.int .i64 0, .int .i64 0, .slice none 0 0]]) ∧ Below w.heap.size w w' := by
  obtain ⟨A, c, G, hk, _⟩ := h
  have k1 := hk.cell 1
  have hs := hk.lt
  simp at k1
  clear hk
  go_enter Try.func32, Try.ntmps32
  go_wp2_with fail
  exact bodyPost_ret (results_tc rfl _ _ w.heap.size 53 (.slice none 0 0) _ (0, 0) _ rfl rfl (Bk.new w _ #[.int .i64 0, .int .i64 0, .slice none 0 0]) Try.underlying53 rfl info_notice) rfl ⟨rfl, (Below.refl _ _).alloc (Nat.le_refl _) _⟩
theorem Feed_nil (A : Option Addr) (n c : Nat) (w : World) :
    Calls Try.prog 32 #[.pointer none, .slice A n c] w fun e w' => e = .returned (.tuple #[.slice none 0 0, .agg #[.int .i64 0, .int .i64 0, .slice none 0 0]]) ∧ Below w.heap.size w w' := by
  go_enter Try.func32, Try.ntmps32
  go_wp2_with fail
  exact bodyPost_ret (results_tc rfl _ _ w.heap.size 53 (.slice none 0 0) _ (0, 0) _ rfl rfl (Bk.new w _ #[.int .i64 0, .int .i64 0, .slice none 0 0]) Try.underlying53 rfl info_notice) rfl ⟨rfl, (Below.refl _ _).alloc (Nat.le_refl _) _⟩

/-- the notice is put where it is handed back from -/
theorem Feed_end {x : Fed} {s : Nat} {F : Foot} {br : Bool} {w w1 : World} {e : Ending} (h : FeedP x s F br (w.alloc (.cells #[.int .i64 0, .int .i64 0, .slice none 0 0] 53)) e w1) (hF : ∀ k, F k → k < w.heap.size) :
    ∃ A c At ct, e = .returned (.tuple #[.slice A x.1.length c, .agg #[.int .i64 (ntOf x.2.2).1, .int .i64 (ntOf x.2.2).2.1, .slice At (ntOf x.2.2).2.2.length ct]]) ∧ Bk w1 w.heap.size 53 #[.int .i64 0, .int .i64 0, .slice none 0 0] ∧
      Bk (((w1.setCell ⟨w.heap.size, 0, none⟩ (.int .i64 (ntOf x.2.2).1)).setCell ⟨w.heap.size, 1, none⟩ (.int .i64 (ntOf x.2.2).2.1)).setCell ⟨w.heap.size, 2, none⟩ (.slice At (ntOf x.2.2).2.2.length ct)) w.heap.size 53 #[.int .i64 (ntOf x.2.2).1, .int .i64 (ntOf x.2.2).2.1, .slice At (ntOf x.2.2).2.2.length ct] ∧
      FeedP x s F br w e (((w1.setCell ⟨w.heap.size, 0, none⟩ (.int .i64 (ntOf x.2.2).1)).setCell ⟨w.heap.size, 1, none⟩ (.int .i64 (ntOf x.2.2).2.1)).setCell ⟨w.heap.size, 2, none⟩ (.slice At (ntOf x.2.2).2.2.length ct)) := by
  have hz : (w.alloc (.cells #[.int .i64 0, .int .i64 0, .slice none 0 0] 53)).heap.size = w.heap.size + 1 := by simp
  have hb0 : Below w.heap.size w (w.alloc (.cells #[.int .i64 0, .int .i64 0, .slice none 0 0] 53)) := (Below.refl _ _).alloc (Nat.le_refl _) _
  obtain ⟨A, c, At, ct, rfl, h1, h2, h3, ⟨n1, n2, n3, n4, n5⟩, F', h4, h5, h6, h7, h8⟩ := h
  have hk1 : Bk w1 w.heap.size 53 #[.int .i64 0, .int .i64 0, .slice none 0 0] := (Bk.new w _ _).chg h5 fun e => by have := hF _ e; omega
  have hk2 := ((hk1.put 0 (.int .i64 (ntOf x.2.2).1)).put 1 (.int .i64 (ntOf x.2.2).2.1)).put 2 (.slice At (ntOf x.2.2).2.2.length ct)
  have c2 : Chg (fun k => k = w.heap.size) w1 (((w1.setCell ⟨w.heap.size, 0, none⟩ (.int .i64 (ntOf x.2.2).1)).setCell ⟨w.heap.size, 1, none⟩ (.int .i64 (ntOf x.2.2).2.1)).setCell ⟨w.heap.size, 2, none⟩ (.slice At (ntOf x.2.2).2.2.length ct)) :=
    (((Chg.refl (fun k => k = w.heap.size) w1).put (p := ⟨w.heap.size, 0, none⟩) (.inl rfl) _).put (p := ⟨w.heap.size, 1, none⟩) (.inl rfl) _).put (p := ⟨w.heap.size, 2, none⟩) (.inl rfl) _
  have hnF : ¬ F' w.heap.size := fun e => by
    rcases h6 _ e with e | e
    · have := hF _ e; omega
    · omega
  refine ⟨A, c, At, ct, rfl, hk1, by simpa using hk2, A, c, At, ct, rfl, h1, h2, h3, (Nb.chg (w := w) ⟨n1, n2, n3, n4, fun ad e => by have := n5 ad e; omega⟩ c2 fun ad e e2 => by have := n5 ad e; have e' : ad.block = w.heap.size := e2; omega), F', h4.chg c2 fun k hk e => hnF (by have e' : k = w.heap.size := e; rw [← e']; exact hk), ?_, fun k hk => ?_, ?_, h8⟩
  · exact ((Chg.of_below hb0 F).trans h5 fun _ _ e => e).trans c2 fun i hi e => by have e' : i = w.heap.size := e; omega
  · rcases h6 k hk with e | e
    · exact .inl e
    · exact .inr (by omega)
  · exact (h7.chg keeps_fr c2 fun k _ hk e => by have e' : k = w.heap.size := e; have := hk.1; omega).mono keeps_fr fun k _ hk => ⟨by have := hk.1; omega, hk.2⟩

set_option maxRecDepth 100000 in
theorem Feed_any {F : Foot} {s : Nat} {x b : List UInt8} {A0 : Option Addr} {c0 B : Nat} (w : World) (hx : x.length ≤ 549755813888) (hb : b.length ≤ 549755813888) (hA0 : A0 = none → c0 = 0) (hB : B ≤ w.heap.size) (hs : Bs w B A0 b) (h : St w F s x false) :
    Calls Try.prog 32 #[.pointer (some ⟨s, 0, none⟩), .slice A0 b.length c0] w (FeedP (feed (x ++ b)) s F false w) := by
  have hb0 : Below w.heap.size w (w.alloc (.cells #[.int .i64 0, .int .i64 0, .slice none 0 0] 53)) := (Below.refl _ _).alloc (Nat.le_refl _) _
  have HFe := Lib.hid (feed_any _ hx hb hA0 (Nat.le_trans hB hb0.size) (Rd.below hs hb0 hB) (h.bel hb0))
  have HF := Lib.hid h.lt
  have HB0 := Lib.hid hb0
  obtain ⟨A, c, G, hk, _⟩ := h
  have k1 := hk.cell 1
  have hs1 := hk.lt
  simp at k1
  clear hk hb0 hs hA0
  go_enter Try.func32, Try.ntmps32
  go_wp2_with fail
  refine HFe.out.mono ?_; rintro e w1 hP
  obtain ⟨A1, c1, At, ct, rfl, hk1, hk2, hfp⟩ := Feed_end hP HF.out
  have q0 := hk1.cell 0
  have q1 := hk1.cell 1
  have q2 := hk1.cell 2
  have qf := fun i => hk1.free i
  simp at q0 q1 q2
  have HK := Lib.hid hk2
  have HFP := Lib.hid hfp
  clear hP hk1 hk2 hfp HFe
  generalize feed (x ++ b) = y at *
  generalize ntOf y.2.2 = t at *
  go_wp2_with fail
  exact bodyPost_ret (results_tc rfl _ _ w.heap.size 53 (.slice A1 y.1.length c1) _ (0, 0) _ rfl rfl HK.out Try.underlying53 rfl info_notice) rfl HFP.out
end Go.Proofs.Ythoclemgiopjpaa.frame
