/- An Open's bytes are read again as it was; what open.Encode refuses; confluenceref09's Good. Conditions as each lemma states. -/
import Derived.Test.YtajilbapjpfloaaOpenRef
import Derived.Test.YtajilbapjpfloaaOwn
namespace Go.Proofs.Ytajilbapjpfloaa.openk
open Go.RowKit Go.Proofs.Ytajilbapjpfloaa.kit Go.Proofs.Ytajilbapjpfloaa.mem Go.Proofs.Ytajilbapjpfloaa.octet
set_option linter.unusedVariables false

theorem b_one (k : Nat) (h : k ≤ 255) : (octet.byteOf (k : Int)).toNat = k := by have := byteOf_nat (k : Int); omega
theorem num2 (n : Nat) (h : n ≤ 65535) : num [octet.byteOf ((n : Int) / 256), octet.byteOf (n : Int)] = n := by
  have := num_be2 (n : Int) (by omega) (by omega)
  have e : (num (octet.be2 (n : Int)) : Int) = (n : Int) := this
  have : num (octet.be2 (n : Int)) = n := by omega
  exact this
theorem num4 (n : Nat) (h : n ≤ 4294967295) : num [octet.byteOf ((n : Int) / 16777216), octet.byteOf ((n : Int) / 65536), octet.byteOf ((n : Int) / 256), octet.byteOf (n : Int)] = n := by
  have e : (num (octet.be4 (n : Int)) : Int) = (n : Int) := num_be4 (n : Int) (by omega) (by omega)
  have : num (octet.be4 (n : Int)) = n := by omega
  exact this

theorem good_parts (n hold id : Int) (four : Bool) (h : goodB n hold id four = true) : n ≠ 0 ∧ id ≠ 0 ∧ holdsB hold = true ∧ 0 ≤ hold ∧ hold ≤ 65535 ∧ (four = false → n ≤ 65535) := by
  simp only [goodB, Bool.and_eq_true, decide_eq_true_eq, Bool.or_eq_true] at h
  obtain ⟨h1, h2, h3, h4⟩ := h
  have h5 := h3
  simp only [holdsB, Bool.or_eq_true, Bool.and_eq_true, decide_eq_true_eq] at h5
  refine ⟨h1, h2, h3, by omega, by omega, fun e => ?_⟩
  rcases h4 with h4 | h4
  · rw [e] at h4; cases h4
  · exact h4

theorem odec_enc (n hold id : Nat) (four : Bool) (hg : goodB n hold id four = true) (hn : n ≤ 4294967295) (hid : id ≤ 4294967295) : odec (enc n hold id four) = ((n, hold, id, four), 0, 0, []) := by
  obtain ⟨g1, g2, g3, g4, g5, g6⟩ := good_parts n hold id four hg
  obtain ⟨m, hm⟩ : ∃ m : Nat, (if (65535 : Int) < (n : Int) then 23456 else (n : Int)) = (m : Int) := by
    split
    · exact ⟨23456, rfl⟩
    · exact ⟨n, rfl⟩
  have hm1 : m ≤ 65535 := by split at hm <;> omega
  have hm0 : m ≠ 0 := by split at hm <;> omega
  have hm2 : four = false → m = n := by intro e; have := g6 e; split at hm <;> omega
  have en2 := num2 m hm1
  have eh2 := num2 hold (by omega)
  have ei4 := num4 id hid
  have en4 := num4 n hn
  have e4 : num [octet.byteOf 4] = 4 := by decide
  cases four
  · have hmn := hm2 rfl
    have el : enc n hold id false = [octet.byteOf 4, octet.byteOf ((m : Int) / 256), octet.byteOf m, octet.byteOf ((hold : Int) / 256), octet.byteOf hold, octet.byteOf ((id : Int) / 16777216), octet.byteOf ((id : Int) / 65536), octet.byteOf ((id : Int) / 256), octet.byteOf id, octet.byteOf 0] := by
      unfold enc; rw [hm]; rfl
    rw [el]
    unfold odec
    simp only [List.length_cons, List.length_nil, List.drop_succ_cons, List.drop_zero, List.take_succ_cons, List.take_zero]
    rw [if_neg (by omega), e4, if_neg (by simp), en2, if_neg hm0, eh2, if_neg (by rw [g3]; simp), ei4, if_neg (by omega), if_neg (by decide)]
    rw [show parAll ([] : List UInt8) (m, false) = .inl (m, false) from rfl, hmn]
  · have el : enc n hold id true = [octet.byteOf 4, octet.byteOf ((m : Int) / 256), octet.byteOf m, octet.byteOf ((hold : Int) / 256), octet.byteOf hold, octet.byteOf ((id : Int) / 16777216), octet.byteOf ((id : Int) / 65536), octet.byteOf ((id : Int) / 256), octet.byteOf id, octet.byteOf 8, octet.byteOf 2, octet.byteOf 6, octet.byteOf 65, octet.byteOf 4, octet.byteOf ((n : Int) / 16777216), octet.byteOf ((n : Int) / 65536), octet.byteOf ((n : Int) / 256), octet.byteOf n] := by
      unfold enc; rw [hm]; rfl
    have h2 : (octet.byteOf 2).toNat = 2 := by decide
    have h6 : (octet.byteOf 6).toNat = 6 := by decide
    have h65 : (octet.byteOf 65).toNat = 65 := by decide
    have h4' : (octet.byteOf 4).toNat = 4 := by decide
    have hcap : capAll [octet.byteOf 65, octet.byteOf 4, octet.byteOf ((n : Int) / 16777216), octet.byteOf ((n : Int) / 65536), octet.byteOf ((n : Int) / 256), octet.byteOf n] (m, false) = some (n, true) := by
      rw [capAll_four _ _ _ _ (by rw [h4']; simp) h65 h4' (by rw [h4']; simp only [List.take_succ_cons, List.take_zero]; rw [en4]; omega)]
      rw [h4']
      simp only [List.take_succ_cons, List.take_zero, List.drop_succ_cons, List.drop_zero]
      rw [en4, capAll_nil]
    have hpar : parAll [octet.byteOf 2, octet.byteOf 6, octet.byteOf 65, octet.byteOf 4, octet.byteOf ((n : Int) / 16777216), octet.byteOf ((n : Int) / 65536), octet.byteOf ((n : Int) / 256), octet.byteOf n] (m, false) = .inl (n, true) := by
      rw [parAll_next _ _ _ _ (n, true) (by rw [h6]; simp) h2 (by rw [h6]; exact hcap), h6]
      simp only [List.drop_succ_cons, List.drop_zero]
      rfl
    rw [el]
    unfold odec
    simp only [List.length_cons, List.length_nil, List.drop_succ_cons, List.drop_zero, List.take_succ_cons, List.take_zero]
    rw [if_neg (by omega), e4, if_neg (by simp), en2, if_neg hm0, eh2, if_neg (by rw [g3]; simp), ei4, if_neg (by omega), if_neg (by decide), hpar]
end Go.Proofs.Ytajilbapjpfloaa.openk
