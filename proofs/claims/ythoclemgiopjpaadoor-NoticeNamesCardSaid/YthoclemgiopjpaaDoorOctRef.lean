/- What confluenceref06's Num and Big, and confluencelaw06's Bytes, return. Conditions: at most 2^40 bytes; of Num: at most four. -/
import Derived.Test.YthoclemgiopjpaaDoorReader2
import Derived.Test.YthoclemgiopjpaaDoorWriter
namespace Go.Proofs.YthoclemgiopjpaaDoor.octet
open Go.RowKit Go.Proofs.YthoclemgiopjpaaDoor.kit Go.Proofs.YthoclemgiopjpaaDoor.mem
set_option linter.unusedVariables false

theorem Bytes_law (A : Option Addr) (c B : Nat) (l : List UInt8) (most : Nat) (w : World) (hl : l.length ≤ 1099511627776 ∨ most ≤ 1099511627776) (hcap : l.length ≤ c) (hm : l.length ≤ maxLen) (hA : A = none → c = 0) (hB : B ≤ w.heap.size) (hs : Bs w B A l) :
    Calls Tryd.prog 11 #[.slice A l.length c, .int .i64 most] w (RetBytes (l.take most) w) := by
  obtain ⟨i0, hi, hz0, hz1, hz2⟩ := info_parts info_u8
  have Hi := Lib.hid hi
  have Hz0 := Lib.hid hz0
  have Hz1 := Lib.hid hz1
  have Hz2 := Lib.hid hz2
  have Hown := Lib.hid (own_empty w 5 w.heap.size (Nat.le_refl _))
  clear hi hz0 hz1 hz2
  unfold maxLen at hm
  by_cases h : most < l.length
  · have hr := Rd.take hs (k := most) (by omega)
    rw [Nat.mul_one, ← bv_take] at hr
    have hne : A ≠ none := by
      rintro rfl
      obtain ⟨b, off, e, _⟩ := hs.2 (by omega)
      cases e
    have e1 : (l.take most).length = most := by simp; omega
    have HM : Hid (0 + most ≤ maxLen) := by show _ ≤ maxLen; unfold maxLen; omega
    have HN : Hid ((0 + most) * 1 ≤ 140737488355328) := by show _ ≤ _; omega
    have HR := Lib.hid (hr.alloc hB (.cells #[] 5))
    have HL : Hid ((bv (l.take most)).length = most) := by show _ = _; simp [bv]; omega
    obtain ⟨ad, rfl⟩ : ∃ ad, A = some ad := by cases A with | none => exact absurd rfl hne | some ad => exact ⟨ad, rfl⟩
    clear hs hr hne hl hA
    go_enter Tryd.func11, Tryd.ntmps11
    go_wp2_with (at_builtin; refine wpList_append_sl rfl (.tmp 12) (.tmp 13) _ rfl w.heap.size 5 i0 _ 1 1 Tryd.underlying22 Hi.out Hz0.out Hz1.out Hz2.out rfl (by omega) (.slice (some ⟨w.heap.size, 0, none⟩) 0 0) 0 [] rfl Hown.out B (some ad) most c (by intro h; cases h) (bv (l.take most)) rfl HR.out (bv_one _) HM.out HN.out (by simp) ?_; intro A1 c1 w1 hown1 hg1 hat1; have Hown1 := Lib.hid hown1; have Hg1 := Lib.hid hg1; clear hown1 hg1 hat1)
    go_ret
    have hb : Below w.heap.size w w1 := ((Below.refl _ _).alloc (Nat.le_refl _) _).trans (below_grown Hg1.out (by simp) (by simp [Value.ownBlock]))
    have ho := Hown1.out
    rw [Nat.zero_add, List.nil_append] at ho
    refine own_ret (v := .slice A1 most c1) (l := l.take most) ?_ hb
    rw [e1]; exact ho
  · have e1 : l.take most = l := List.take_of_length_le (by omega)
    rw [e1]
    have hl' : l.length ≤ 1099511627776 := by omega
    have d1 : decide ((most : Int) < (l.length : Int)) = false := by simp; omega
    have HM : Hid (0 + l.length ≤ maxLen) := by show _ ≤ maxLen; unfold maxLen; omega
    have HN : Hid ((0 + l.length) * 1 ≤ 140737488355328) := by show _ ≤ _; omega
    have HR := Lib.hid (hs.alloc hB (.cells #[] 5))
    have HA := Lib.hid hA
    clear hs hl hA
    go_enter Tryd.func11, Tryd.ntmps11
    go_wp2_with (at_builtin; refine wpList_append_sl rfl (.tmp 12) (.tmp 13) _ rfl w.heap.size 5 i0 _ 1 1 Tryd.underlying22 Hi.out Hz0.out Hz1.out Hz2.out rfl (by omega) (.slice (some ⟨w.heap.size, 0, none⟩) 0 0) 0 [] rfl Hown.out B A l.length c HA.out (bv l) rfl HR.out (bv_one _) HM.out HN.out (by simp) ?_; intro A1 c1 w1 hown1 hg1 hat1; have Hown1 := Lib.hid hown1; have Hg1 := Lib.hid hg1; clear hown1 hg1 hat1)
    go_ret
    have hb : Below w.heap.size w w1 := ((Below.refl _ _).alloc (Nat.le_refl _) _).trans (below_grown Hg1.out (by simp) (by simp [Value.ownBlock]))
    have ho := Hown1.out
    rw [Nat.zero_add, List.nil_append] at ho
    exact own_ret (v := .slice A1 l.length c1) (l := l) ho hb

/-- a number's lowest bytes, so many -/
def bigv (n : Nat) : Nat → List UInt8
  | 0 => []
  | k + 1 => byteOf ((n / 256 ^ k : Nat) : Int) :: bigv n k
theorem bigv_len (n k : Nat) : (bigv n k).length = k := by induction k with | zero => rfl | succ k ih => simp [bigv, ih]

end Go.Proofs.YthoclemgiopjpaaDoor.octet
