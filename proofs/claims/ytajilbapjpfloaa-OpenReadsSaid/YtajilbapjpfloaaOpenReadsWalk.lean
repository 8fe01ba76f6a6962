/- The walk of the law OpenReads: the Go text returns true and writes nothing that was there. No condition. -/
import Derived.Test.YtajilbapjpfloaaOpenRef
import Derived.Test.YtajilbapjpfloaaOwn
namespace Go.Proofs.Ytajilbapjpfloaa.openReads
open Go.RowKit Go.Proofs.Ytajilbapjpfloaa.kit Go.Proofs.Ytajilbapjpfloaa.mem Go.Proofs.Ytajilbapjpfloaa.octet Go.Proofs.Ytajilbapjpfloaa.openk Go.Proofs.Ytajilbapjpfloaa.openJudges
set_option linter.unusedVariables false

theorem ret_new {l : List UInt8} {w w' : World} {e : Ending} (h : RetBytes l w e w') : ∃ A c, e = .returned (.slice A l.length c) ∧ NewSl 1 l.length (bv l) w A c w' := by
  obtain ⟨A, c, h1, h2, h3, h4, h5, h6, h7⟩ := h
  exact ⟨A, c, h1, h2, h3, h4, h5, h6, h7⟩

set_option maxRecDepth 100000 in
set_option maxHeartbeats 2000000 in
theorem core (A : Option Addr) (c : Nat) (l : List UInt8) (W : World) (hA : A = none → c = 0) (hcap : l.length ≤ c) (hm : l.length ≤ maxLen) (hs : Bs W W.heap.size A l) :
    Calls Try.prog 11 #[.slice A l.length c] W fun e w' => e = .returned (.bool true) ∧ Below W.heap.size W w' := by
  obtain ⟨l1, hl1, HB⟩ : ∃ l1 : List UInt8, l1.length ≤ 300 ∧ Calls Try.prog 17 #[.slice A l.length c, .int .i64 300] W (RetBytes l1 W) :=
    ⟨l.take 300, by simp; omega, Bytes_law A c W.heap.size l 300 _ (Or.inr (by omega)) hcap hm hA (Nat.le_refl _) hs⟩
  have HB0 := Lib.hid HB
  clear HB hs hA hcap
  go_enter Try.func11, Try.ntmps11
  go_wp2_with fail
  refine HB0.out.mono ?_; rintro e w1 hret
  obtain ⟨A1, k1, rfl, hn1⟩ := ret_new hret
  have hb1 := Bytes_law A1 k1 w1.heap.size l1 300 w1 (Or.inl (by omega)) hn1.cap (by unfold maxLen; omega) hn1.nil (Nat.le_refl _) hn1.rd
  rw [List.take_of_length_le hl1] at hb1
  have HB1 := Lib.hid hb1
  have H1 := Lib.hid hn1
  clear hret hn1 hb1 HB0
  go_wp2_with fail
  refine HB1.out.mono ?_; rintro e w2 hret
  obtain ⟨A2, k2, rfl, hn2⟩ := ret_new hret
  have hD := Decode_any A2 k2 w2.heap.size l1 w2 (by omega) hn2.nil (Nat.le_refl _) hn2.rd
  have K2 := Lib.hid hn2.bel
  have hR : ∀ w3, Below w1.heap.size w1 w3 → Hid (Calls Try.prog 51 #[.slice A1 l1.length k1] w3 (OpenPost l1 w3)) := fun w3 h => refDecode_any A1 k1 w1.heap.size l1 w3 (by omega) H1.out.cap H1.out.max h.size (Rd.below H1.out.rd h (Nat.le_refl _))
  unfold OpenPost at hD hR
  generalize hod : odec l1 = od at *
  obtain ⟨⟨a, h, i, f⟩, code, sub, data⟩ := od
  simp only at hD hR
  have HD := Lib.hid hD
  clear hret hn2 HB1 hD hod
  go_wp2_with fail
  refine HD.out.mono ?_; rintro e w3 ⟨A3, c3, rfl, d2, d3, d4⟩
  have k3 := K2.out.trans (d4.mono K2.out.size)
  have hst : Below w3.heap.size w3 ((w3.alloc (.cells #[.int .u32 (a : Int), .int .i64 (h : Int), .int .u32 (i : Int), .bool f] 52)).alloc (.cells #[.int .i64 code, .int .i64 sub, .slice A3 data.length c3] 55)) := ((Below.refl _ _).alloc (Nat.le_refl _) _).alloc (by simp) _
  have k3b := k3.trans (hst.mono k3.size)
  have HR := hR _ k3b
  have K3 := Lib.hid k3b
  have HB3 := Lib.hid ((d3.below hst (Nat.le_refl _)).more hst.size)
  clear d2 d3 d4 k3 k3b hst HD hR
  go_wp2_with fail
  refine HR.out.mono ?_; rintro e w4 ⟨A4, c4, rfl, d2, d3, d4⟩
  have q0 := (d4.cell (p := ⟨w3.heap.size, 0, none⟩) (by simp; omega)).trans (show _ = some (.int .u32 (a : Int)) by go_simp)
  have q1 := (d4.cell (p := ⟨w3.heap.size, 1, none⟩) (by simp; omega)).trans (show _ = some (.int .i64 (h : Int)) by go_simp)
  have q2 := (d4.cell (p := ⟨w3.heap.size, 2, none⟩) (by simp; omega)).trans (show _ = some (.int .u32 (i : Int)) by go_simp)
  have q3 := (d4.cell (p := ⟨w3.heap.size, 3, none⟩) (by simp; omega)).trans (show _ = some (.bool f) by go_simp)
  have r0 := (d4.cell (p := ⟨w3.heap.size + 1, 0, none⟩) (by simp)).trans (show _ = some (.int .i64 code) by go_simp)
  have r1 := (d4.cell (p := ⟨w3.heap.size + 1, 1, none⟩) (by simp)).trans (show _ = some (.int .i64 sub) by go_simp)
  have r2 := (d4.cell (p := ⟨w3.heap.size + 1, 2, none⟩) (by simp)).trans (show _ = some (.slice A3 data.length c3) by go_simp)
  have hz4 : w3.heap.size + 2 ≤ w4.heap.size := by have := d4.size; simpa using this
  have hst : Below w4.heap.size w4 ((w4.alloc (.cells #[.int .u32 (a : Int), .int .i64 (h : Int), .int .u32 (i : Int), .bool f] 52)).alloc (.cells #[.int .i64 code, .int .i64 sub, .slice A4 data.length c4] 55)) := ((Below.refl _ _).alloc (Nat.le_refl _) _).alloc (by simp) _
  have K4 := Lib.hid ((K3.out.trans (d4.mono K3.out.size)).trans (hst.mono (Nat.le_trans K3.out.size d4.size)))
  have HB4 := Lib.hid ((d3.below hst (Nat.le_refl _)).more hst.size)
  have HB3b := Lib.hid (((HB3.out.below d4 (Nat.le_refl _)).more d4.size).below hst (Nat.le_refl _) |>.more hst.size)
  have HT := Lib.hid (Told_yes code sub data A3 A4 c3 c4 _ _ _ (Nat.le_refl _) (Nat.le_refl _) HB3b.out HB4.out)
  have hl3 : w3.heap.size < w4.heap.size := by omega
  have hl4 : w3.heap.size + 1 < w4.heap.size := by omega
  clear d2 d3 d4 hst HR HB3
  go_wp2_with fail
  refine HT.out.mono ?_; rintro e w5 ⟨rfl, hb5⟩
  have K5 := Lib.hid (K4.out.trans (hb5.mono K4.out.size))
  have HL := Lib.hid (openk.lives_any w5)
  clear hb5
  go_wp2_with fail
  refine HL.out.mono ?_; rintro e w6 ⟨rfl, hb6⟩
  have K6 := Lib.hid (K5.out.trans (hb6.mono K5.out.size))
  clear hb6
  go_wp2_with fail
  go_ret
  exact ⟨rfl, H1.out.bel.trans (K6.out.mono H1.out.bel.size)⟩

set_option maxRecDepth 100000 in
theorem walk {H : Type} {enc : TypeId × Value → H} {W : World} {base : Nat} {v0 : Value} {d0 : DataW H} {p0 : List MemPlace}
    (hv0 : Value.okWide Try.prog W .any base 26 v0) (h0 : DataW.Trod enc Try.prog W 0 (fun _ => true) true 26 v0 d0 p0) :
    Calls Try.prog 11 #[v0] W fun e w' => e = .returned (.bool true) ∧ Below W.heap.size W w' := by
  obtain ⟨A, c, l, rfl, hA, hcap, hm, hs⟩ := open_bytes Try.underlying26 Try.underlying5 (by kernel_rfl) hv0 h0
  exact core A c l W hA hcap (by omega) hs
end Go.Proofs.Ytajilbapjpfloaa.openReads
