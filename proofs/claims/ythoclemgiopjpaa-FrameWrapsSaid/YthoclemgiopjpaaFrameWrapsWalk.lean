/- The walk of the law FrameWraps: the Go text returns true and writes nothing that was there. No condition. -/
import Derived.Test.YthoclemgiopjpaaFrameRef
import Derived.Test.YthoclemgiopjpaaOpen
import Derived.Deep.DeepCutAuto
import Derived.Deep.RegionWith
import Derived.Deep.OwnRows
import Derived.Laws.OwnMore
namespace Go.Proofs.Ythoclemgiopjpaa.frameWraps
open Go.RowKit Go.Proofs.Ythoclemgiopjpaa.kit Go.Proofs.Ythoclemgiopjpaa.mem Go.Proofs.Ythoclemgiopjpaa.foot Go.Proofs.Ythoclemgiopjpaa.octet Go.Proofs.Ythoclemgiopjpaa.frame
set_option linter.unusedVariables false
set_option linter.unusedSimpArgs false

theorem made_zero (k : Nat) : madeCells #[Value.int .u8 0] k = Array.replicate k (.int .u8 0) := by
  exact Array.ext' (by rw [toList_madeCells_one]; simp)

/-- a body that is the call's own -/
def By (W : World) (v : Value) (wx : World) (n : Nat) (l : List UInt8) : Prop := ∃ (A : Option Addr) (c : Nat), v = .slice A n c ∧ n = l.length ∧ n ≤ 4084 ∧ (A = none → c = 0) ∧ Bs wx wx.heap.size A l ∧ Below W.heap.size W wx

set_option maxRecDepth 100000 in
set_option maxHeartbeats 0 in
theorem core (kind : Int) (A : Option Addr) (c : Nat) (l : List UInt8) (long : Nat) (W : World) (hlong : long ≤ 65535) (hA : A = none → c = 0) (hc : l.length ≤ c) (hm : l.length ≤ maxLen) (hs : Bs W W.heap.size A l) :
    Calls Try.prog 6 #[.int .i64 kind, .slice A l.length c, .int .u16 long] W fun e w' => e = .returned (.bool true) ∧ Below W.heap.size W w' := by
  have HB := Lib.hid (Bytes_law A c W.heap.size l 300 W (.inr (by omega)) hc hm hA (Nat.le_refl _) hs)
  obtain ⟨b, hl1e⟩ : ∃ b, l.take 300 = b := ⟨_, rfl⟩
  have hl1 : b.length ≤ 300 := by rw [← hl1e]; simp; omega
  rw [hl1e] at HB
  clear hs hA hc hm hl1e
  go_enter Try.func6, Try.ntmps6
  go_wp2_with fail
  refine HB.out.mono ?_; rintro e w1 ⟨A1, c1, rfl, g1, g2, g3, g4, g5, g6⟩
  have HBy : Hid (By W (.slice A1 b.length c1) w1 b.length b) := ⟨A1, c1, rfl, rfl, by omega, g1, g4, g5⟩
  have HB5 := Lib.hid g5
  clear g1 g2 g3 g4 g5 g6 HB
  obtain ⟨n1, hn1⟩ : ∃ n, n = b.length := ⟨_, rfl⟩
  rw [← hn1]
  rw [← hn1] at HBy
  have HN1 := Lib.hid hn1
  clear hn1
  have HO : Hid (∀ (w : World) (g : Nat), g = w.heap.size → Own (w.alloc (.cells #[] 5)) 5 1 (some ⟨g, 0, none⟩) 0 0 []) := by
    rintro w g rfl
    have := Own.made w 5 1 0 0 #[] [] (Nat.le_refl _) (Nat.zero_le _) rfl rfl rfl
    simpa using this
  obtain ⟨i0, hi, hz0, hz1, hz2⟩ := info_parts info_u8
  have Hi := Lib.hid hi
  have Hz0 := Lib.hid hz0
  have Hz1 := Lib.hid hz1
  have Hz2 := Lib.hid hz2
  clear hi hz0 hz1 hz2
  rcases (by omega : (4070 < long ∧ long < 4085) ∨ 4085 ≤ long ∨ long ≤ 4070) with h | h | h
  case' inl =>
    obtain ⟨h1, h2⟩ := h
    have hmk := run_make_row' (P := Try.prog) 23 5 (.int .u8 0) 1 Try.underlying23 info_u8 rfl .i64 .i64 long (by omega) (by omega)
    go_upto_region 4 with fail
    clear HBy HN1 hl1 hmk
    obtain ⟨b, hbe⟩ : ∃ b, b = List.replicate long (0 : UInt8) := ⟨_, rfl⟩
    have hbl : b.length = long := by rw [hbe]; simp
    have hN : Bs (w1.alloc (.cells (madeCells #[.int .u8 0] long) 5)) (w1.heap.size + 1) (some ⟨w1.heap.size, 0, none⟩) b := bs_new _ _ _ (by rw [made_zero, hbe]; simp [bv])
    have HBy : Hid (By W (.slice (some ⟨w1.heap.size, 0, none⟩) long long) (w1.alloc (.cells (madeCells #[.int .u8 0] long) 5)) long b) := ⟨some ⟨w1.heap.size, 0, none⟩, long, rfl, hbl.symm, by omega, (fun h => by cases h), hN.more (by simp), HB5.out.alloc HB5.out.size _⟩
    clear hbe hbl hN
  case' inr.inl =>
    go_upto_region 4 with fail
  case' inr.inr =>
    go_upto_region 4 with fail
  all_goals
    obtain ⟨_, _, he, hn, hle, hA2, hs2, hb2⟩ := HBy.out
    cases he
    have HB2 := Lib.hid (hb2.alloc hb2.size (.cells #[] 5))
    have HR := Lib.hid (Rg.of_rd (G := fun _ => True) (Rd.below hs2 ((Below.refl _ _).alloc (Nat.le_refl _) (.cells #[] 5)) (Nat.le_refl _)) (by simp) fun _ _ => trivial)
    have HA2 := Lib.hid hA2
    have HZ := Lib.hid hb2.size
    have HQ := Lib.hid (fun (w' : World) (hb : Below _ _ w') => And.intro (Rd.below hs2 (((Below.refl _ _).alloc (Nat.le_refl _) (.cells #[] 5)).trans hb) (Nat.le_refl _)) (((Below.refl _ _).alloc (Nat.le_refl _) (.cells #[] 5)).trans hb).size)
    clear hA2 hs2 hb2 HB5 HBy
    try clear h
    try clear HN1
    subst hn
    go_wp2_with (at_builtin; refine wpList_app _ rfl (.tmp 22) (.tmp 23) _ rfl 5 i0 _ 1 1 Try.underlying23 Hi.out Hz0.out Hz1.out Hz2.out rfl (by omega) _ 0 0 [] rfl (HO.out _ _ (by simp)) _ _ b.length _ HA2.out (bv b) rfl HR.out (bv_one _) (by unfold maxLen; omega) (by omega) ?_; intro A3 c3 w3 ho3 hc3 hf3; have HO3 := Lib.hid ho3; have HC3 := Lib.hid hc3; clear ho3 hc3 hf3)
    have HB3 := Lib.hid (HB2.out.trans (HC3.out.below (by rintro k ⟨ad, e, rfl⟩; cases e; first | exact HZ.out | (have := HZ.out; simp at this ⊢; omega)) HB2.out.size))
    obtain ⟨hn3, hs3⟩ : (A3 = none → c3 = 0) ∧ Bs w3 w3.heap.size A3 b := ⟨HO3.out.nil, by have := HO3.out.rg.rd; simp only [Nat.zero_add, List.nil_append] at this; exact this⟩
    have Hn3 := Lib.hid hn3
    have Hs3 := Lib.hid hs3
    obtain ⟨hsb, hle3⟩ := HQ.out w3 (HC3.out.below (by rintro k ⟨ad, e, rfl⟩; cases e; first | exact Nat.le_refl _ | simp) (by simp))
    have HSb := Lib.hid hsb
    clear hsb HQ HC3 HR hn3 hs3 HZ HB2 HO
    try simp only [Nat.zero_add]
    rcases (by omega : (kind < 1 ∨ 4 < kind) ∨ (1 ≤ kind ∧ kind ≤ 4 ∧ 4077 < b.length) ∨ (1 ≤ kind ∧ kind ≤ 4 ∧ b.length ≤ 4077)) with hk | ⟨h1, h4, h5⟩ | ⟨h1, h4, h5⟩
    · refine (Wrap_kind kind A3 b.length c3 w3 hk).mono ?_; rintro e w4 ⟨rfl, rfl⟩
      have HLv := Lib.hid (lives_any w3)
      rcases hk with hk | hk
      · have d1 : decide (kind < 1) = true := by simpa using hk
        go_wp2_with fail
        refine HLv.out.mono ?_; rintro e w' ⟨rfl, hb⟩
        go_wp2_with fail
        go_ret
        exact ⟨by simp, HB3.out.trans (hb.mono HB3.out.size)⟩
      · have d1 : decide (kind < 1) = false := by simp; omega
        have d2 : decide (4 < kind) = true := by simpa using hk
        go_wp2_with fail
        refine HLv.out.mono ?_; rintro e w' ⟨rfl, hb⟩
        go_wp2_with fail
        go_ret
        exact ⟨by simp, HB3.out.trans (hb.mono HB3.out.size)⟩
    · first
      | (exfalso; omega)
      | (have d1 : decide (kind < 1) = false := by simp; omega
         have d2 : decide (4 < kind) = false := by simp; omega
         refine (Wrap_long kind A3 b.length c3 w3 h1 h4 h5).mono ?_; rintro e w4 ⟨rfl, rfl⟩
         have HLv := Lib.hid (lives_any w3)
         clear h1 h4
         go_wp2_with fail
         refine HLv.out.mono ?_; rintro e w' ⟨rfl, hb⟩
         go_wp2_with fail
         go_ret
         exact ⟨by simp, HB3.out.trans (hb.mono HB3.out.size)⟩)
    · have d1 : decide (kind < 1) = false := by simp; omega
      have d2 : decide (4 < kind) = false := by simp; omega
      have d3 : ¬ 4077 < b.length := by omega
      refine (Wrap_yes kind A3 c3 _ b w3 h1 h4 h5 Hn3.out (Nat.le_refl _) Hs3.out).mono ?_; rintro e w4 ⟨A4, c4, rfl, hn4, hb4⟩
      have HB4 := Lib.hid (HB3.out.trans (hb4.mono HB3.out.size))
      have HRW := Lib.hid (fun (w' : World) (hb : Below w4.heap.size w4 w') => refWrap_any kind _ _ _ b w' ⟨h1, h4⟩ (by omega) HA2.out (Nat.le_trans hle3 (Nat.le_trans hb4.size hb.size)) (Rd.below HSb.out ((hb4.mono hle3).trans (hb.mono (Nat.le_trans hle3 hb4.size))) (Nat.le_refl _)))
      have HCV := Lib.hid (fun (w' : World) (hb : Below w4.heap.size w4 w') => run_str (c := c4) (Rd.below hn4.2.2.2.1 hb (Nat.le_refl _)))
      clear hn4 hb4 HSb HA2 Hn3 Hs3 HO3 HB3 hle3
      generalize wrapF kind b = y at *
      go_wp2_with fail
      have hcv := HCV.out w4.drew ((Below.refl _ _).drew)
      go_region_with (first
        | (go_at_call 26; refine (HRW.out _ (by first | exact Below.refl _ _ | exact (Below.refl _ _).drew)).mono ?_; rintro e w5 ⟨A5, c5, rfl, ho5⟩; have hb5 : Below w4.heap.size w4 w5 := ((Below.refl w4.heap.size w4).drew).trans ho5.2.2; have hcv5 := run_str (c := c5) ho5.1.rg.rd; have hcv := HCV.out w5 hb5; have HB5 := Lib.hid (HB4.out.trans (hb5.mono HB4.out.size)); clear ho5 hb5)
        | (go_at_call 25; refine (lives_any _).mono ?_; rintro e w6 ⟨rfl, hb6⟩; have HB6 := Lib.hid (HB5.out.trans (hb6.mono HB5.out.size)); clear hb6))
      all_goals
        go_wp2_with fail
        go_ret
        exact ⟨by first | (simp [Act.put]; done) | rfl, HB6.out⟩

set_option maxRecDepth 100000 in
theorem walk {H : Type} {enc : TypeId × Value → H} {W : World} {base : Nat} {v1 : Value} {d1 : DataW H} {p1 : List MemPlace} (a0 : Int) (w0 : (Lit.int .i64 a0).wf = true)
    (hv1 : Value.okWide Try.prog W .any base 23 v1) (h1 : DataW.Trod enc Try.prog W 0 (fun _ => true) true 23 v1 d1 p1) (a2 : Int) (w2 : (Lit.int .u16 a2).wf = true) :
    Calls Try.prog 6 #[.int .i64 a0, v1, .int .u16 a2] W fun e w' => e = .returned (.bool true) ∧ Below W.heap.size W w' := by
  obtain ⟨A, c, l, rfl, hA, hcap, hm, hs⟩ := open_bytes Try.underlying23 Try.underlying5 (by kernel_rfl) hv1 h1
  have b2 := wf_u16 w2
  obtain ⟨long, rfl⟩ := Int.eq_ofNat_of_zero_le b2.1
  exact core a0 A c l long W (by omega) hA hcap (by omega) hs
end Go.Proofs.Ythoclemgiopjpaa.frameWraps
