/- confluencelaw07.lives is true; what confluencelaw07.Few returns. Conditions as each lemma states. -/
import Derived.Test.YtajilbapjpfloaaNlriEnc
import Derived.Test.YtajilbapjpfloaaStr
namespace Go.Proofs.Ytajilbapjpfloaa.nlri
open Go.RowKit Go.Proofs.Ytajilbapjpfloaa.kit Go.Proofs.Ytajilbapjpfloaa.mem Go.Proofs.Ytajilbapjpfloaa.octet Go.Proofs.Ytajilbapjpfloaa.pfx
set_option linter.unusedVariables false

theorem bytes_same (A : Option Addr) (c B : Nat) (l : List UInt8) (w : World) (hl : l.length ≤ 200) (hcap : l.length ≤ c) (hA : A = none → c = 0) (hB : B ≤ w.heap.size) (hs : Bs w B A l) :
    Calls Try.prog 17 #[.slice A l.length c, .int .i64 200] w (RetBytes l w) := by
  have h := Bytes_law A c B l 200 w (Or.inl (by omega)) hcap (by unfold maxLen; omega) hA hB hs
  rw [List.take_of_length_le hl] at h
  exact h

set_option maxRecDepth 100000 in
theorem lives_any (w : World) : Calls Try.prog 45 #[] w fun e w' => e = .returned (.bool true) ∧ Below w.heap.size w w' := by
  have g1 : goodB 167772160 8 = true := by rw [goodB_iff]; decide
  have g2 : goodB 0 32 = true := by rw [goodB_iff]; decide
  have hrd : Ps (w.alloc (.cells #[.int .u32 167772160, .int .i64 8] 69)) (w.heap.size + 1) (some ⟨w.heap.size, 0, none⟩) [(167772160, 8)] := by
    have := rd_new w 69 2 1 #[.int .u32 167772160, .int .i64 8] rfl
    simpa [pv, Ps] using this
  have hE := Encode_any (some ⟨w.heap.size, 0, none⟩) 1 (w.heap.size + 1) [(167772160, 8)] (w.alloc (.cells #[.int .u32 167772160, .int .i64 8] 69)) (by simp) (by simp) hrd (by simp)
  have e1 : goodL [(167772160, 8)] = true := by simp [goodL, g1]
  have e2 : enc [(167772160, 8)] = [8, 10] := by decide
  have e3 : sizeP (0, 32) = 5 := by simp [sizeP, g2, bodyN]
  have hS := Size_any 0 32 (by omega)
  rw [e3] at hS
  unfold EncPost at hE
  simp only [e1, if_true, e2] at hE
  have HE := Lib.hid hE
  have HS := Lib.hid hS
  have hal : Below w.heap.size w (w.alloc (.cells #[.int .u32 167772160, .int .i64 8] 69)) := (Below.refl _ _).alloc (Nat.le_refl _) _
  have HAL := Lib.hid hal
  clear g1 g2 hrd hE e1 e2 e3 hS hal
  go_enter Try.func45, Try.ntmps45
  go_wp2_with fail
  refine HE.out.mono ?_; rintro e w1 ⟨A, c, rfl, h1⟩
  have hstr : (convert 26 9 (.slice A 2 c)).run Try.prog w1 = .ok (.string ⟨#[8, 10]⟩) w1 := run_str (l := [8, 10]) (c := c) h1.rd
  have K1 := Lib.hid (HAL.out.trans (h1.bel.mono HAL.out.size))
  clear h1 HE
  go_wp2_with fail
  refine (HS.out _).mono ?_; rintro e w2 ⟨rfl, hb2⟩
  have K2 := Lib.hid (K1.out.trans (hb2.mono K1.out.size))
  clear hb2
  go_wp2_with fail
  go_ret
  exact ⟨rfl, K2.out⟩
end Go.Proofs.Ytajilbapjpfloaa.nlri
