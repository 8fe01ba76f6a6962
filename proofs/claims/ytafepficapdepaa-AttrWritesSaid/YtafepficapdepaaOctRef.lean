/- What confluenceref06's Num and Big, and confluencelaw06's Bytes, return. Conditions: at most 2^40 bytes; of Num: at most four. -/
import Derived.Test.YtafepficapdepaaReader2
import Derived.Test.YtafepficapdepaaWriter
namespace Go.Proofs.Ytafepficapdepaa.octet
open Go.RowKit Go.Proofs.Ytafepficapdepaa.kit Go.Proofs.Ytafepficapdepaa.mem
set_option linter.unusedVariables false

theorem Num_any (A : Option Addr) (c B : Nat) (l : List UInt8) (w : World) (hl : l.length ≤ 4) (hs : Bs w B A l) :
    Calls Try.prog 70 #[.slice A l.length c] w fun e w' => e = .returned (.int .u32 (num l : Int)) ∧ w = w' := by
  have HS := Lib.hid hs
  clear hs
  go_enter Try.func70, Try.ntmps70
  go_wp2_with fail
  go_loop [3, 4] (fun v i => ∃ k : Nat, k ≤ l.length ∧ i = .int .i64 k ∧ v = .int .u32 (num (l.take k) : Int)) (fun _ i => l.length - (intOf i).toNat)
  case atStart => exact ⟨0, by omega, rfl, rfl⟩
  case round =>
    obtain ⟨k, hk, rfl, rfl⟩ := hrel
    by_cases hlt : k < l.length
    · obtain ⟨b, off, rfl, hb, hc⟩ := HS.out.at_ hlt
      have hl := num_lt (l.take k)
      have hpow : 256 ^ (l.take k).length ≤ 256 ^ 3 := Nat.pow_le_pow_right (by omega) (by simp; omega)
      have hv : num (l.take k) < 16777216 := by omega
      have Hst : Hid (num (l.take (k + 1)) = num (l.take k) * 256 + l[k].toNat) := by
        rw [Hid, List.take_succ_eq_append_getElem hlt, num_snoc]
      have hcl := l[k].toNat_lt
      clear hl hpow
      generalize num (l.take k) = v at *
      generalize l[k].toNat = c at *
      go_wp2_with fail
      go_round
      case rel => exact ⟨k + 1, by omega, by go_num, by rw [Hst.out]; simp⟩
      case measure => simp [intOf]; omega
    · obtain rfl : k = l.length := by omega
      go_wp2_with fail
      go_ret
      exact ⟨by simp, rfl⟩

theorem Bytes_law (A : Option Addr) (c B : Nat) (l : List UInt8) (most : Nat) (w : World) (hl : l.length ≤ 1099511627776 ∨ most ≤ 1099511627776) (hcap : l.length ≤ c) (hm : l.length ≤ maxLen) (hA : A = none → c = 0) (hB : B ≤ w.heap.size) (hs : Bs w B A l) :
    Calls Try.prog 35 #[.slice A l.length c, .int .i64 most] w (RetBytes (l.take most) w) := by
  obtain ⟨i0, hi, hz0, hz1, hz2⟩ := info_parts info_u8
  have Hi := Lib.hid hi
  have Hz0 := Lib.hid hz0
  have Hz1 := Lib.hid hz1
  have Hz2 := Lib.hid hz2
  have Hown := Lib.hid (own_empty w 5 w.heap.size (Nat.le_refl _))
  clear hi hz0 hz1 hz2
  unfold maxLen at hm
  by_cases h : most < l.length
  · have hr := Rd.take hs (k := most) (by omega)
    rw [Nat.mul_one, ← bv_take] at hr
    have hne : A ≠ none := by
      rintro rfl
      obtain ⟨b, off, e, _⟩ := hs.2 (by omega)
      cases e
    have e1 : (l.take most).length = most := by simp; omega
    have HM : Hid (0 + most ≤ maxLen) := by show _ ≤ maxLen; unfold maxLen; omega
    have HN : Hid ((0 + most) * 1 ≤ 140737488355328) := by show _ ≤ _; omega
    have HR := Lib.hid (hr.alloc hB (.cells #[] 5))
    have HL : Hid ((bv (l.take most)).length = most) := by show _ = _; simp [bv]; omega
    obtain ⟨ad, rfl⟩ : ∃ ad, A = some ad := by cases A with | none => exact absurd rfl hne | some ad => exact ⟨ad, rfl⟩
    clear hs hr hne hl hA
    go_enter Try.func35, Try.ntmps35
    go_wp2_with (at_builtin; refine wpList_append_sl rfl (.tmp 12) (.tmp 13) _ rfl w.heap.size 5 i0 _ 1 1 Try.underlying32 Hi.out Hz0.out Hz1.out Hz2.out rfl (by omega) (.slice (some ⟨w.heap.size, 0, none⟩) 0 0) 0 [] rfl Hown.out B (some ad) most c (by intro h; cases h) (bv (l.take most)) rfl HR.out (bv_one _) HM.out HN.out (by simp) ?_; intro A1 c1 w1 hown1 hg1 hat1; have Hown1 := Lib.hid hown1; have Hg1 := Lib.hid hg1; clear hown1 hg1 hat1)
    go_ret
    have hb : Below w.heap.size w w1 := ((Below.refl _ _).alloc (Nat.le_refl _) _).trans (below_grown Hg1.out (by simp) (by simp [Value.ownBlock]))
    have ho := Hown1.out
    rw [Nat.zero_add, List.nil_append] at ho
    refine own_ret (v := .slice A1 most c1) (l := l.take most) ?_ hb
    rw [e1]; exact ho
  · have e1 : l.take most = l := List.take_of_length_le (by omega)
    rw [e1]
    have hl' : l.length ≤ 1099511627776 := by omega
    have d1 : decide ((most : Int) < (l.length : Int)) = false := by simp; omega
    have HM : Hid (0 + l.length ≤ maxLen) := by show _ ≤ maxLen; unfold maxLen; omega
    have HN : Hid ((0 + l.length) * 1 ≤ 140737488355328) := by show _ ≤ _; omega
    have HR := Lib.hid (hs.alloc hB (.cells #[] 5))
    have HA := Lib.hid hA
    clear hs hl hA
    go_enter Try.func35, Try.ntmps35
    go_wp2_with (at_builtin; refine wpList_append_sl rfl (.tmp 12) (.tmp 13) _ rfl w.heap.size 5 i0 _ 1 1 Try.underlying32 Hi.out Hz0.out Hz1.out Hz2.out rfl (by omega) (.slice (some ⟨w.heap.size, 0, none⟩) 0 0) 0 [] rfl Hown.out B A l.length c HA.out (bv l) rfl HR.out (bv_one _) HM.out HN.out (by simp) ?_; intro A1 c1 w1 hown1 hg1 hat1; have Hown1 := Lib.hid hown1; have Hg1 := Lib.hid hg1; clear hown1 hg1 hat1)
    go_ret
    have hb : Below w.heap.size w w1 := ((Below.refl _ _).alloc (Nat.le_refl _) _).trans (below_grown Hg1.out (by simp) (by simp [Value.ownBlock]))
    have ho := Hown1.out
    rw [Nat.zero_add, List.nil_append] at ho
    exact own_ret (v := .slice A1 l.length c1) (l := l) ho hb

/-- a number's lowest bytes, so many -/
def bigv (n : Nat) : Nat → List UInt8
  | 0 => []
  | k + 1 => byteOf ((n / 256 ^ k : Nat) : Int) :: bigv n k
theorem bigv_len (n k : Nat) : (bigv n k).length = k := by induction k with | zero => rfl | succ k ih => simp [bigv, ih]

set_option maxRecDepth 100000 in
theorem Big_any (n many : Nat) (w : World) (hn : n < 18446744073709551616) (hm : many ≤ 8) :
    Calls Try.prog 84 #[.int .u64 n, .int .i64 many] w (RetBytes (bigv n many) w) := by
  obtain ⟨i0, hi, hz0, hz1, hz2⟩ := info_parts info_u8
  have Hi := Lib.hid hi
  have Hz0 := Lib.hid hz0
  have Hz1 := Lib.hid hz1
  have Hz2 := Lib.hid hz2
  have Hn := Lib.hid hn
  clear hi hz0 hz1 hz2 hn
  go_enter Try.func84, Try.ntmps84
  go_wp2_with fail
  go_loopw [0, 5, 6] (fun u o i wr => ∃ (k : Nat) (A : Option Addr) (c : Nat), k ≤ many ∧ i = .int .i64 k ∧ u = .int .u64 ((n / 256 ^ k : Nat) : Int) ∧ o = .slice A k c ∧ RetBytes (bigv n k) w (.returned (.slice A k c)) wr) (fun _ _ i _ => many - (intOf i).toNat)
  case atStart => exact ⟨0, some ⟨w.heap.size, 0, none⟩, 0, by omega, rfl, by simp, rfl, some ⟨w.heap.size, 0, none⟩, 0, rfl, (fun h => by cases h), Nat.le_refl _, by unfold maxLen; omega, Rd.nil _ _ _ _, (Below.refl _ _).alloc (Nat.le_refl _) _, (fun ad h => by cases h; exact Nat.le_refl _)⟩
  case round =>
    obtain ⟨k, A, c, hk, rfl, rfl, rfl, hret⟩ := hrel
    by_cases hlt : k < many
    · have hlen := bigv_len n k
      obtain ⟨A', c', e, hA, h3, h4, h5, h6, h7⟩ := hret
      simp only [Ending.returned.injEq, Value.slice.injEq] at e
      obtain ⟨rfl, he2, rfl⟩ := e
      clear he2
      have hdiv : n / 256 ^ k ≤ n := Nat.div_le_self _ _
      have Hd : Hid (n / 256 ^ (k + 1) = n / 256 ^ k / 256) := by rw [Hid, Nat.div_div_eq_div_mul, Nat.pow_succ]
      have hu : ((n / 256 ^ k : Nat) : Int) ≤ 18446744073709551615 := by have := Hn.out; omega
      have Hb : Hid (bigv n (k + 1) = byteOf ((n / 256 ^ k : Nat) : Int) :: bigv n k) := rfl
      clear hdiv
      generalize n / 256 ^ k = u at *
      have HR : Hid (Rd (wr.alloc (.cells #[.int .u8 ((u : Int) % 256)] 5)) wr.heap.size 1 A k (bv (bigv n k))) := by
        have := h5.alloc (Nat.le_refl _) (.cells #[.int .u8 ((u : Int) % 256)] 5)
        unfold Bs at this; rw [hlen] at this; exact this
      have HA := Lib.hid hA
      have HB := Lib.hid h6
      have HO : Hid ((wr.alloc (.cells #[.int .u8 ((u : Int) % 256)] 5)).ownsRow w.heap.size 5 1 (.slice (some ⟨wr.heap.size, 0, none⟩) 1 1) 1 (bv [byteOf (u : Int)])) :=
        ⟨rfl, .inr ⟨wr.heap.size, 1, _, rfl, h6.size, heap_alloc_new wr _, Nat.le_refl _, by unfold maxLen; omega, rfl, by simp [bv, byteOf_nat]⟩⟩
      have HM : Hid (1 + k ≤ maxLen) := by show _ ≤ maxLen; unfold maxLen; omega
      have HN : Hid ((1 + k) * 1 ≤ 140737488355328) := by show _ ≤ _; omega
      clear hA h3 h4 h5 h6 h7 hlen
      go_wp2_with (at_builtin; refine wpList_append_sl rfl (.tmp 16) (.tmp 17) _ rfl w.heap.size 5 i0 _ 1 1 Try.underlying32 Hi.out Hz0.out Hz1.out Hz2.out rfl (by omega) (.slice (some ⟨wr.heap.size, 0, none⟩) 1 1) 1 (bv [byteOf (u : Int)]) rfl HO.out wr.heap.size A k c HA.out (bv (bigv n k)) rfl HR.out (bv_one _) HM.out HN.out (by have := HB.out.size; simp; omega) ?_; intro A1 c1 w1 hown1 hg1 hat1; have Hown1 := Lib.hid hown1; have Hg1 := Lib.hid hg1; clear hown1 hg1 hat1)
      go_roundw
      case rel =>
        refine ⟨k + 1, A1, c1, by omega, by go_num, by rw [Hd.out]; simp, by rw [Nat.add_comm], ?_⟩
        have hb : Below w.heap.size w w1 := (HB.out.alloc HB.out.size _).trans (below_grown Hg1.out (by have := HB.out.size; simp; omega) (by simp [Value.ownBlock]; exact HB.out.size))
        have ho := Hown1.out
        rw [← bv_app] at ho
        rw [Hb.out, Nat.add_comm k 1]
        refine own_ret (l := byteOf (u : Int) :: bigv n k) (v := .slice A1 (1 + k) c1) ?_ hb
        rw [List.length_cons, bigv_len, Nat.add_comm k 1]; exact ho
      case measure => simp [intOf]; omega
    · obtain rfl : k = many := by omega
      have HT := Lib.hid hret
      clear hret
      go_wp2_with fail
      go_ret
      exact HT.out

end Go.Proofs.Ytafepficapdepaa.octet
