/- The walk of the law FrameNone: the Go text returns true and writes nothing that was there. No condition. -/
import Derived.Test.YthoclemgiopjpaaFrameLives2
import Derived.Test.YthoclemgiopjpaaOpen
namespace Go.Proofs.Ythoclemgiopjpaa.frameNone
open Go.RowKit Go.Proofs.Ythoclemgiopjpaa.kit Go.Proofs.Ythoclemgiopjpaa.mem Go.Proofs.Ythoclemgiopjpaa.foot Go.Proofs.Ythoclemgiopjpaa.octet Go.Proofs.Ythoclemgiopjpaa.frame
set_option linter.unusedVariables false

set_option maxRecDepth 100000 in
theorem core (A : Option Addr) (c : Nat) (l : List UInt8) (W : World) (hA : A = none → c = 0) (hc : l.length ≤ c) (hm : l.length ≤ maxLen) (hs : Bs W W.heap.size A l) :
    Calls Try.prog 9 #[.slice A l.length c] W fun e w' => e = .returned (.bool true) ∧ Below W.heap.size W w' := by
  have HB := Lib.hid (Bytes_law A c W.heap.size l 50 W (.inr (by omega)) hc hm hA (Nat.le_refl _) hs)
  clear hs hA hc hm
  go_enter Try.func9, Try.ntmps9
  go_wp2_with fail
  refine HB.out.mono ?_; rintro e w1 ⟨A1, c1, rfl, _, _, _, _, hb1, _⟩
  have HF := Lib.hid (Feed_nil A1 (l.take 50).length c1 w1)
  have HB1 := Lib.hid hb1
  clear hb1 HB
  generalize (l.take 50).length = n at *
  go_wp2_with fail
  refine HF.out.mono ?_; rintro e w2 ⟨rfl, hb2⟩
  have HB2 := Lib.hid ((HB1.out.trans (hb2.mono HB1.out.size)).alloc (Nat.le_trans HB1.out.size hb2.size) (.cells #[.int .i64 0, .int .i64 0, .slice none 0 0] 53))
  clear hb2
  go_wp2_with (first
    | (go_at_call 35; refine (Reset_nil _).mono ?_; rintro e w' ⟨rfl, rfl⟩)
    | (go_at_call 33; refine (Waits_nil _).mono ?_; rintro e w' ⟨rfl, rfl⟩)
    | (go_at_call 34; refine (Broken_nil _).mono ?_; rintro e w' ⟨rfl, rfl⟩)
    | (go_at_call 25; refine (lives_any _).mono ?_; rintro e w' ⟨rfl, hb⟩))
  go_ret
  exact ⟨by simp, HB2.out.trans (hb.mono HB2.out.size)⟩

set_option maxRecDepth 100000 in
theorem walk {H : Type} {enc : TypeId × Value → H} {W : World} {base : Nat} {v0 : Value} {d0 : DataW H} {p0 : List MemPlace}
    (hv0 : Value.okWide Try.prog W .any base 23 v0) (h0 : DataW.Trod enc Try.prog W 0 (fun _ => true) true 23 v0 d0 p0) :
    Calls Try.prog 9 #[v0] W fun e w' => e = .returned (.bool true) ∧ Below W.heap.size W w' := by
  obtain ⟨A, c, l, rfl, hA, hcap, hm, hs⟩ := open_bytes Try.underlying23 Try.underlying5 (by kernel_rfl) hv0 h0
  exact core A c l W hA hcap (by omega) hs
end Go.Proofs.Ythoclemgiopjpaa.frameNone
