/- The walk of the law NoticeWrites: the Go text returns true and writes nothing that was there. No condition. -/
import Derived.Test.YthoclemgiopjpaaDoorNoticeWritesCore
namespace Go.Proofs.YthoclemgiopjpaaDoor.noticeWrites
open Go.RowKit Go.Joins Go.ChangeShapes Go.WideShapes Go.ChangeAt Go.Proofs.YthoclemgiopjpaaDoor.kit Go.Proofs.YthoclemgiopjpaaDoor.mem Go.Proofs.YthoclemgiopjpaaDoor.foot Go.Proofs.YthoclemgiopjpaaDoor.octet Go.Proofs.YthoclemgiopjpaaDoor.notice
set_option linter.unusedVariables false

abbrev RNotice : Rel (Int × Int × List UInt8) := rPair (rInt .i64) (rPair (rInt .i64) rBs)
section
variable {H : Type} {enc : TypeId × Value → H} {w : World} {base : Nat} {held : Bool}
set_option maxRecDepth 100000 in
theorem opens_notice : Opens enc Tryd.prog w base held 24 RNotice :=
  opens_struct Tryd.underlying24 (by kernel_rfl) (opensF_cons (o' := 1) rfl (by kernel_rfl) (opens_int Tryd.underlying3) (opensF_cons (o' := 2) rfl (by kernel_rfl) (opens_int Tryd.underlying3) (opensF_last rfl (opens_bs Tryd.underlying22 Tryd.underlying5 (by kernel_rfl)))))
end
theorem notice_eq {w : World} {G : Foot} {cs : List Value} {c s : Int} {l : List UInt8} (h : RNotice w G cs (c, s, l)) : ∃ A k, cs = [.int .i64 c, .int .i64 s, .slice A l.length k] ∧ (A = none → k = 0) ∧ l.length ≤ k ∧ l.length ≤ maxLen ∧ Bs w w.heap.size A l := by
  obtain ⟨_, _, rfl, ⟨rfl, h0⟩, _, _, rfl, ⟨rfl, h1⟩, h2⟩ := h
  obtain ⟨A, k, e, g1, g2, g3, g4⟩ := h2
  have e : _ = [Value.slice A l.length k] := e
  exact ⟨A, k, by rw [e]; rfl, g1, g2, Nat.le_trans g2 g3, g4.rd⟩

set_option maxRecDepth 100000 in
theorem walk {H : Type} {enc : TypeId × Value → H} {W : World} {base : Nat} {v0 v1 : Value} {d0 d1 : DataW H} {p0 p1 : List MemPlace}
    (hv0 : Value.okWide Tryd.prog W .any base 24 v0) (h0 : DataW.Trod enc Tryd.prog W 0 (fun _ => true) true 24 v0 d0 p0)
    (hv1 : Value.okWide Tryd.prog W .any base 24 v1) (h1 : DataW.Trod enc Tryd.prog W 0 (fun _ => true) true 24 v1 d1 p1)
    (a2 : Int) (w2 : (Lit.int .u8 a2).wf = true) :
    Calls Tryd.prog 5 #[v0, v1, .int .u8 a2] W fun e w' => e = .returned (.bool true) ∧ Below W.heap.size W w' := by
  obtain ⟨cs0, x, rfl, hx⟩ := open_st Tryd.underlying24 opens_notice hv0 h0
  obtain ⟨cs1, y, rfl, hy⟩ := open_st Tryd.underlying24 opens_notice hv1 h1
  obtain ⟨c1, s1, l1⟩ := x
  obtain ⟨c2, s2, l2⟩ := y
  obtain ⟨A1, k1, e1, a1, a3, a4, a5⟩ := notice_eq hx
  obtain ⟨A2, k2, e2, b1, b3, b4, b5⟩ := notice_eq hy
  obtain rfl := arr_eq e1
  obtain rfl := arr_eq e2
  have hw := wf_u8 w2
  exact core c1 s1 c2 s2 A1 A2 k1 k2 l1 l2 a2 hw.1 hw.2 W a1 a3 a4 a5 b1 b3 b4 b5
end Go.Proofs.YthoclemgiopjpaaDoor.noticeWrites
