/- The walk of the law NoticeNames: the Go text returns true and writes nothing that was there, where the library's table reads as listed. -/
import Derived.Test.YthoclemgiopjpaaDoorNoticeTab
import Derived.Lib.AppendIntMem
import Derived.Test.YthoclemgiopjpaaDoorNoticeWritesWalk
namespace Go.Proofs.YthoclemgiopjpaaDoor.noticeNames
open Go.RowKit Go.Joins Go.ChangeShapes Go.WideShapes Go.ChangeAt Go.Proofs.YthoclemgiopjpaaDoor.kit Go.Proofs.YthoclemgiopjpaaDoor.mem Go.Proofs.YthoclemgiopjpaaDoor.foot Go.Proofs.YthoclemgiopjpaaDoor.octet Go.Proofs.YthoclemgiopjpaaDoor.told Go.Proofs.YthoclemgiopjpaaDoor.notice Go.Proofs.YthoclemgiopjpaaDoor.noticeWrites
set_option linter.unusedVariables false

theorem Itoa_below (s : Int) (h0 : -9223372036854775808 ≤ s) (h1 : s ≤ 9223372036854775807) (w : World) (hz : 0 < w.heap.size) (ht : Lib.TabIs Tryd.prog w "internal/strconv.uint64pow10" .u64 Lib.pow10Tab) :
    ∀ w', Below w.heap.size w w' → Calls Tryd.prog 19 #[.int .i64 s] w' fun e w'' => e = .returned (.string ⟨(Lib.itoa s).toArray⟩) ∧ Below w'.heap.size w' w'' := fun w' hb => by
  refine (Tryd.strconv_Itoa s h0 h1 w' (tab_below ht hb hz)).mono ?_
  rintro e w'' ⟨rfl, k, os, rfl⟩
  exact ⟨rfl, Lib.below_grow _ _ (Nat.le_refl _) _ _⟩

set_option maxRecDepth 100000 in
set_option maxHeartbeats 4000000 in
theorem core (c s sub : Int) (A : Option Addr) (k : Nat) (l : List UInt8) (W : World) (h0 : -9223372036854775808 ≤ s) (h1 : s ≤ 9223372036854775807) (hz : 0 < W.heap.size)
    (ht : Lib.TabIs Tryd.prog W "internal/strconv.uint64pow10" .u64 Lib.pow10Tab) :
    Calls Tryd.prog 3 #[.agg #[.int .i64 c, .int .i64 s, .slice A l.length k], .int .i64 sub] W fun e w' => e = .returned (.bool true) ∧ Below W.heap.size W w' := by
  have hb : Below W.heap.size W (W.alloc (.cells #[.int .i64 c, .int .i64 s, .slice A l.length k] 24)).drew := ((Below.refl _ _).alloc (Nat.le_refl _) _).drew
  have hk : Bk (W.alloc (.cells #[.int .i64 c, .int .i64 s, .slice A l.length k] 24)).drew W.heap.size 24 #[.int .i64 c, .int .i64 s, .slice A l.length k] := Bk.new _ _ _
  have hlt := hk.lt
  have HU : Hid (∀ w', Below W.heap.size W w' → Calls Tryd.prog 6 #[.agg #[.int .i64 c, .int .i64 s, .slice A l.length k]] w' fun e w'' => e = .returned (.string ⟨(nameOf c s).toArray⟩) ∧ Below w'.heap.size w' w'') := fun w' h =>
    Name_any c s A l.length k w' h0 h1 (fun w'' h' => Itoa_below s h0 h1 W hz ht w'' (h.trans (h'.mono h.size)))
  have HR := Lib.hid (fun w => rName_any c s A l.length k w h0 h1)
  have nn : ∀ i, (W.alloc (.cells #[.int .i64 c, .int .i64 s, .slice A l.length k] 24)).drew.cell? ⟨W.heap.size, i, none⟩ = #[.int .i64 c, .int .i64 s, .slice A l.length k][i]? := fun i => hk.cell i
  have HX := Lib.hid hb
  have HK := Lib.hid hk
  have n3 := And.intro (nn 0) (And.intro (nn 1) (nn 2))
  simp only [List.getElem?_toArray, List.getElem?_cons_succ, List.getElem?_cons_zero] at n3
  have HC : Hid (∀ w', Below (W.heap.size + 1) (W.alloc (.cells #[.int .i64 c, .int .i64 s, .slice A l.length k] 24)).drew w' → w'.cell? ⟨W.heap.size, 0, none⟩ = some (.int .i64 c) ∧ w'.cell? ⟨W.heap.size, 1, none⟩ = some (.int .i64 s) ∧ w'.cell? ⟨W.heap.size, 2, none⟩ = some (.slice A l.length k)) := fun w' h => ⟨(hk.below h (by omega)).cell 0, (hk.below h (by omega)).cell 1, (hk.below h (by omega)).cell 2⟩
  have HY : Hid (Below (W.heap.size + 1) (W.alloc (.cells #[.int .i64 c, .int .i64 s, .slice A l.length k] 24)).drew (W.alloc (.cells #[.int .i64 c, .int .i64 s, .slice A l.length k] 24)).drew ∧ W.heap.size + 1 ≤ (W.alloc (.cells #[.int .i64 c, .int .i64 s, .slice A l.length k] 24)).drew.heap.size) := ⟨Below.refl _ _, by simp⟩
  clear hb hk nn hz ht
  go_enter Tryd.func3, Tryd.ntmps3
  go_wp2_with fail
  go_region_held3 (fun w' => w'.cell? ⟨W.heap.size, 0, none⟩ = some (.int .i64 c) ∧ w'.cell? ⟨W.heap.size, 1, none⟩ = some (.int .i64 s) ∧ w'.cell? ⟨W.heap.size, 2, none⟩ = some (.slice A l.length k)) (exact n3) (first
    | (go_at_call 6; refine (HU.out _ HX.out).mono ?_; rintro e w2 ⟨rfl, hb⟩; go_must (have HX := Lib.hid (HX.out.trans (hb.mono HX.out.size))); go_must (have HY := Lib.hid (And.intro (HY.out.1.trans (hb.mono HY.out.2)) (Nat.le_trans HY.out.2 hb.size))); go_must (have n3 := HC.out _ HY.out.1); clear hb)
    | (go_at_call 7; refine (HR.out _).mono ?_; rintro e w2 ⟨rfl, hb⟩; go_must (have HX := Lib.hid (HX.out.trans (hb.mono HX.out.size))); go_must (have HY := Lib.hid (And.intro (HY.out.1.trans (hb.mono HY.out.2)) (Nat.le_trans HY.out.2 hb.size))); go_must (have n3 := HC.out _ HY.out.1); clear hb)
    | (go_at_call 9; refine (Close_any sub _).mono ?_; rintro e w2 ⟨rfl, hb⟩; go_must (have HX := Lib.hid (HX.out.trans (hb.mono HX.out.size))); go_must (have HY := Lib.hid (And.intro (HY.out.1.trans (hb.mono HY.out.2)) (Nat.le_trans HY.out.2 hb.size))); go_must (have n3 := HC.out _ HY.out.1); clear hb)
    | (go_at_call 8; refine (Told_yes 6 sub [] none none 0 0 0 0 _ (Nat.zero_le _) (Nat.zero_le _) (Rd.nil _ _ _ _) (Rd.nil _ _ _ _)).mono ?_; rintro e w2 ⟨rfl, hb⟩; go_must (have HX := Lib.hid (HX.out.trans (hb.mono HX.out.size))); go_must (have HY := Lib.hid (And.intro (HY.out.1.trans (hb.mono HY.out.2)) (Nat.le_trans HY.out.2 hb.size))); go_must (have n3 := HC.out _ HY.out.1); clear hb)
    | (go_at_call 10; refine (lives_any _).mono ?_; rintro e w2 ⟨rfl, hb⟩; go_must (have HX := Lib.hid (HX.out.trans (hb.mono HX.out.size))); go_must (have HY := Lib.hid (And.intro (HY.out.1.trans (hb.mono HY.out.2)) (Nat.le_trans HY.out.2 hb.size))); go_must (have n3 := HC.out _ HY.out.1); clear hb))
  go_wp2_with fail
  go_ret
  exact ⟨rfl, HX.out⟩

theorem walk {H : Type} {enc : TypeId × Value → H} {W : World} {base : Nat} {v0 : Value} {d0 : DataW H} {p0 : List MemPlace}
    (hv0 : Value.okWide Tryd.prog W .any base 24 v0) (h0 : DataW.Trod enc Tryd.prog W 0 (fun _ => true) true 24 v0 d0 p0)
    (a1 : Int) (w1 : (Lit.int .i64 a1).wf = true) (hL : laidMetH Tryd.prog Rows.noticeNamesRow.laid W) :
    Calls Tryd.prog 3 #[v0, .int .i64 a1] W fun e w' => e = .returned (.bool true) ∧ Below W.heap.size W w' := by
  obtain ⟨cs0, x, rfl, hx⟩ := open_st Tryd.underlying24 opens_notice hv0 h0
  obtain ⟨c1, s1, l1⟩ := x
  have hs : (Lit.int .i64 s1).wf = true := by
    obtain ⟨_, _, _, _, _, _, _, ⟨_, h1⟩, _⟩ := hx
    exact h1
  obtain ⟨A1, k1, e1, a1, a3, a4, a5⟩ := notice_eq hx
  obtain rfl := arr_eq e1
  have ht := tab_of hL
  have hz : 0 < W.heap.size := by
    have h := ht
    unfold Lib.TabIs World.var? at h
    rw [gT] at h
    rcases Nat.lt_or_ge 0 W.heap.size with h' | h'
    · exact h'
    · simp [Array.getElem?_eq_none h'] at h
  have hr : -9223372036854775808 ≤ s1 ∧ s1 ≤ 9223372036854775807 := by
    simpa [Lit.wf, IntKind.min, IntKind.max, IntKind.signed, IntKind.bits] using hs
  exact core c1 s1 _ A1 k1 l1 W hr.1 hr.2 hz ht
end Go.Proofs.YthoclemgiopjpaaDoor.noticeNames
