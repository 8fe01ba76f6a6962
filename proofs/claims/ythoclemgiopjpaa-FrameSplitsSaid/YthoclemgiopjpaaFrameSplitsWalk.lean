/- The walk of the law FrameSplits: the Go text returns true and writes nothing that was there. No condition. -/
import Derived.Test.YthoclemgiopjpaaFrameSame
import Derived.Test.YthoclemgiopjpaaTold
namespace Go.Proofs.Ythoclemgiopjpaa.frameSplits
open Go.RowKit Go.Proofs.Ythoclemgiopjpaa.kit Go.Proofs.Ythoclemgiopjpaa.mem Go.Proofs.Ythoclemgiopjpaa.foot Go.Proofs.Ythoclemgiopjpaa.octet Go.Proofs.Ythoclemgiopjpaa.frame Go.Proofs.Ythoclemgiopjpaa.told
set_option linter.unusedVariables false
set_option linter.unusedSimpArgs false

set_option maxRecDepth 100000 in
set_option maxHeartbeats 1000000 in
theorem core (A : Option Addr) (c : Nat) (l : List UInt8) (W : World) (hA : A = none → c = 0) (hc : l.length ≤ c) (hm : l.length ≤ maxLen) (hs : Bs W W.heap.size A l) :
    Calls Try.prog 7 #[.slice A l.length c] W fun e w' => e = .returned (.bool true) ∧ Below W.heap.size W w' := by
  have HB := Lib.hid (Bytes_law A c W.heap.size l 1000 W (.inr (by omega)) hc hm hA (Nat.le_refl _) hs)
  obtain ⟨b, hbe⟩ : ∃ b, b = l.take 1000 := ⟨_, rfl⟩
  have hb : b.length ≤ 1000 := by rw [hbe]; simp; omega
  rw [← hbe] at HB
  clear hs hA hc hm hbe
  go_enter Try.func7, Try.ntmps7
  go_wp2_with fail
  refine HB.out.mono ?_; rintro e w1 ⟨A1, c1, rfl, g1, g2, g3, g4, g5, g6⟩
  have HB2 := Bytes_law A1 c1 w1.heap.size b 1000 w1 (.inr (by omega)) g2 (by omega) g1 (Nat.le_refl _) g4
  rw [List.take_of_length_le hb] at HB2
  have HB2 := Lib.hid HB2
  have HW1 := Lib.hid g5
  have HS1 := Lib.hid g4
  have HA1 := Lib.hid (And.intro g1 (And.intro g2 g3))
  clear g1 g2 g3 g4 g5 g6 HB
  go_wp2_with fail
  refine HB2.out.mono ?_; rintro e w2 ⟨A2, c2, rfl, g1, g2, g3, g4, g5, g6⟩
  have HSp := Lib.hid (Split_any A2 c2 w2.heap.size b w2 (by omega) g1 (Nat.le_refl _) g4)
  have HW2 := Lib.hid (HW1.out.trans (g5.mono HW1.out.size))
  have HS2 := Lib.hid ((HS1.out.below g5 (Nat.le_refl _)).more g5.size)
  clear g1 g2 g3 g4 g5 g6 HB2 HS1 HW1
  go_wp2_with fail
  refine HSp.out.mono ?_; rintro e w3 ⟨A3, c3, A4, c4, rfl, g1, g2, g3, g4, g5⟩
  have HW3 := Lib.hid (HW2.out.trans (g5.mono HW2.out.size))
  have HS3 := Lib.hid ((HS2.out.below g5 (Nat.le_refl _)).more g5.size)
  have HN3 := Lib.hid g3
  have HE3 := Lib.hid g4
  clear g1 g2 g3 g4 g5 HSp HS2 HW2
  have hbN : ∀ N, Below w3.heap.size w3 (w3.alloc N) := fun N => (Below.refl _ _).alloc (Nat.le_refl _) _
  have HPi := Lib.hid (fun N => Pieces_any A1 c1 w3.heap.size b (w3.alloc N) (by omega) HA1.out.1 HA1.out.2.1 HA1.out.2.2 (hbN N).size (HS3.out.below (hbN N) (Nat.le_refl _)))
  have HBN := Lib.hid hbN
  clear hbN
  go_wp2_with fail
  refine (HPi.out _).mono ?_; rintro e w5 ⟨A5, c5, A6, c6, rfl, g1, g2, g3, g4, g5⟩
  have hcnt := feed_count b
  have HQ : Hid (∃ x : List (Nat × List UInt8) × Nt, x = ((feed b).1, ntOf (feed b).2.2)) := ⟨_, rfl⟩
  have hlen : (frs (feed b).1).length = (feed b).1.length := frs_len _
  generalize ntOf (feed b).2.2 = t at *
  generalize (feed b).1 = out at *
  generalize endOf b = n at *
  obtain ⟨tc, ts, td⟩ := t
  have hk5 : Bk w5 w3.heap.size 53 #[.int .i64 tc, .int .i64 ts, .slice A4 td.length c4] := (Bk.new w3 _ _).below g5 (by simp)
  have hb35 : Below w3.heap.size w3 w5 := (HBN.out _).trans (g5.mono (HBN.out _).size)
  have HW5 := Lib.hid (HW3.out.trans (hb35.mono HW3.out.size))
  have hz5 := hk5.lt
  obtain ⟨w6, hw6⟩ : ∃ w6, w6 = w5.alloc (.cells #[.int .i64 tc, .int .i64 ts, .slice A6 td.length c6] 53) := ⟨_, rfl⟩
  have hb56 : Below w5.heap.size w5 w6 := by rw [hw6]; exact (Below.refl _ _).alloc (Nat.le_refl _) _
  have hk6 := hk5.below hb56 hk5.lt
  have hk6b : Bk w6 w5.heap.size 53 #[.int .i64 tc, .int .i64 ts, .slice A6 td.length c6] := by rw [hw6]; exact Bk.new _ _ _
  have hb36 : Below w3.heap.size w3 w6 := hb35.trans (hb56.mono hb35.size)
  have HSa := same_yes A3 A5 c3 c5 (frs out) _ _ w6 (by rw [hlen]; unfold maxLen; omega) (HE3.out.bel keeps_fr hb36) (g4.bel keeps_fr hb56)
  have HTo := Lib.hid (fun m => Told_yes tc ts td A4 A6 c4 c6 w6.heap.size w6.heap.size (w6.drewN m) (Nat.le_refl _) (Nat.le_refl _) (((HN3.out.below hb36 (Nat.le_refl _)).more hb36.size).drewN m) (((g3.below hb56 (Nat.le_refl _)).more hb56.size).drewN m))
  have HW6 := Lib.hid (HW5.out.trans (hb56.mono HW5.out.size))
  rw [hlen] at HSa
  have q0 := hk6.cell 0
  have q1 := hk6.cell 1
  have q2 := hk6.cell 2
  have r0 := hk6b.cell 0
  have r1 := hk6b.cell 1
  have r2 := hk6b.cell 2
  simp at q0 q1 q2 r0 r1 r2
  rw [hw6] at HSa
  have HSa := Lib.hid HSa
  have HW6e := Lib.hid hw6
  clear g1 g2 g3 g4 g5 hk5 hb35 hb56 hk6 hk6b hb36 HPi HBN HS3 HE3 HN3 HQ hlen hw6 hb hcnt
  go_wp2_with fail
  refine HSa.out.mono ?_; rintro e w' ⟨rfl, m, rfl⟩
  rw [← HW6e.out]
  go_wp2_with fail
  refine (HTo.out m).mono ?_; rintro e w7 ⟨rfl, hb7⟩
  have hwd : Below W.heap.size W (w6.drewN m) := ⟨HW6.out.os, HW6.out.tape, HW6.out.output, HW6.out.size, HW6.out.block⟩
  have HW7 := Lib.hid (hwd.trans (hb7.mono HW6.out.size))
  clear hwd
  clear hb7
  go_wp2_with fail
  refine (lives_any w7).mono ?_; rintro e w8 ⟨rfl, hb8⟩
  have HW8 := Lib.hid (HW7.out.trans (hb8.mono HW7.out.size))
  clear hb8
  go_wp2_with fail
  go_ret
  exact ⟨rfl, HW8.out⟩

set_option maxRecDepth 100000 in
theorem walk {H : Type} {enc : TypeId × Value → H} {W : World} {base : Nat} {v0 : Value} {d0 : DataW H} {p0 : List MemPlace}
    (hv0 : Value.okWide Try.prog W .any base 23 v0) (h0 : DataW.Trod enc Try.prog W 0 (fun _ => true) true 23 v0 d0 p0) :
    Calls Try.prog 7 #[v0] W fun e w' => e = .returned (.bool true) ∧ Below W.heap.size W w' := by
  obtain ⟨A, c, l, rfl, hA, hcap, hm, hs⟩ := open_bytes Try.underlying23 Try.underlying5 (by kernel_rfl) hv0 h0
  exact core A c l W hA hcap (by omega) hs
end Go.Proofs.Ythoclemgiopjpaa.frameSplits
