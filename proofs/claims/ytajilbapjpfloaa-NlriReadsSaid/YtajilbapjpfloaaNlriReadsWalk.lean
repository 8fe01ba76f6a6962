/- The walk of the law NlriReads: the Go text returns true and writes nothing that was there. No condition. -/
import Derived.Test.YtajilbapjpfloaaNlriLives
namespace Go.Proofs.Ytajilbapjpfloaa.nlriReads
open Go.RowKit Go.Proofs.Ytajilbapjpfloaa.kit Go.Proofs.Ytajilbapjpfloaa.mem Go.Proofs.Ytajilbapjpfloaa.octet Go.Proofs.Ytajilbapjpfloaa.nlri
set_option linter.unusedVariables false

set_option maxRecDepth 100000 in
set_option maxHeartbeats 2000000 in
theorem core (A : Option Addr) (c : Nat) (l : List UInt8) (W : World) (hA : A = none → c = 0) (hcap : l.length ≤ c) (hm : l.length ≤ maxLen) (hs : Bs W W.heap.size A l) :
    Calls Try.prog 10 #[.slice A l.length c] W fun e w' => e = .returned (.bool true) ∧ Below W.heap.size W w' := by
  obtain ⟨l1, hl1, HB⟩ : ∃ l1 : List UInt8, l1.length ≤ 200 ∧ Calls Try.prog 17 #[.slice A l.length c, .int .i64 200] W (RetBytes l1 W) :=
    ⟨l.take 200, by simp; omega, Bytes_law A c W.heap.size l 200 _ (Or.inr (by omega)) hcap hm hA (Nat.le_refl _) hs⟩
  have HB0 := Lib.hid HB
  clear HB hs hA hcap
  go_enter Try.func10, Try.ntmps10
  go_wp2_with fail
  refine HB0.out.mono ?_; rintro e w1 hret
  obtain ⟨A1, k1, rfl, hn1⟩ := ret_new hret
  have hb1 := bytes_same A1 k1 w1.heap.size l1 w1 hl1 hn1.cap hn1.nil (Nat.le_refl _) hn1.rd
  have HB1 := Lib.hid hb1
  have H1 := Lib.hid hn1
  clear hret hn1 hb1 HB0
  go_wp2_with fail
  refine HB1.out.mono ?_; rintro e w2 hret
  obtain ⟨A2, k2, rfl, hn2⟩ := ret_new hret
  have HD := Lib.hid (Decode_any A2 k2 w2.heap.size l1 w2 (by omega) hn2.nil (Nat.le_refl _) hn2.rd)
  have K2 := Lib.hid hn2.bel
  clear hret hn2 HB1
  unfold DecPost at HD
  have HR : ∀ w3, Below w1.heap.size w1 w3 → Hid (Calls Try.prog 49 #[.slice A1 l1.length k1] w3 (RefDec l1 w3)) := fun w3 h => refDecode_any A1 k1 w1.heap.size l1 w3 (by omega) h.size (Rd.below H1.out.rd h (Nat.le_refl _))
  unfold RefDec at HR
  rcases hd : dec l1 with _ | ps
  · rw [hd] at HD HR
    clear hd
    go_wp2_with fail
    refine HD.out.mono ?_; rintro e w3 ⟨rfl, hb3⟩
    have k3 := K2.out.trans (hb3.mono K2.out.size)
    have HR := HR w3 k3
    have K3 := Lib.hid k3
    clear hb3 k3 HD
    go_wp2_with fail
    refine HR.out.mono ?_; rintro e w4 ⟨rfl, hb4⟩
    have K4 := Lib.hid (K3.out.trans (hb4.mono K3.out.size))
    clear hb4 HR
    have HL := Lib.hid (nlri.lives_any w4)
    go_wp2_with fail
    refine HL.out.mono ?_; rintro e w5 ⟨rfl, hb5⟩
    have K5 := Lib.hid (K4.out.trans (hb5.mono K4.out.size))
    clear hb5
    go_wp2_with fail
    go_ret
    exact ⟨rfl, H1.out.bel.trans (K5.out.mono H1.out.bel.size)⟩
  · rw [hd] at HD HR
    have hps := dec_len _ l1 rfl ps hd
    clear hd
    go_wp2_with fail
    refine HD.out.mono ?_; rintro e w3 ⟨A3, c3, rfl, h3⟩
    have k3 := K2.out.trans (h3.bel.mono K2.out.size)
    have HR := HR w3 k3
    have K3 := Lib.hid k3
    have H3 := Lib.hid h3.rd
    clear h3 k3 HD
    go_wp2_with fail
    refine HR.out.mono ?_; rintro e w4 ⟨A4, c4, rfl, h4⟩
    have K4 := Lib.hid (K3.out.trans (h4.bel.mono K3.out.size))
    have hS := Same_eq A3 A4 c3 c4 w4.heap.size ps w4 (by unfold maxLen; omega) ((H3.out.below h4.bel (Nat.le_refl _)).more h4.bel.size) h4.rd
    have HS := Lib.hid hS
    clear h4 hS HR
    go_wp2_with fail
    refine HS.out.mono ?_; rintro e w5 ⟨rfl, m, hm5⟩
    subst hm5
    have HL := Lib.hid (nlri.lives_any (w4.drewN m))
    go_wp2_with fail
    refine HL.out.mono ?_; rintro e w5 ⟨rfl, hb5⟩
    have K5 := Lib.hid ((below_drewN K4.out m).trans (hb5.mono K4.out.size))
    clear hb5
    go_wp2_with fail
    go_ret
    exact ⟨rfl, H1.out.bel.trans (K5.out.mono H1.out.bel.size)⟩

set_option maxRecDepth 100000 in
theorem walk {H : Type} {enc : TypeId × Value → H} {W : World} {base : Nat} {v0 : Value} {d0 : DataW H} {p0 : List MemPlace}
    (hv0 : Value.okWide Try.prog W .any base 26 v0) (h0 : DataW.Trod enc Try.prog W 0 (fun _ => true) true 26 v0 d0 p0) :
    Calls Try.prog 10 #[v0] W fun e w' => e = .returned (.bool true) ∧ Below W.heap.size W w' := by
  obtain ⟨A, c, l, rfl, hA, hcap, hm, hs⟩ := open_bytes Try.underlying26 Try.underlying5 (by kernel_rfl) hv0 h0
  exact core A c l W hA hcap (by omega) hs
end Go.Proofs.Ytajilbapjpfloaa.nlriReads
