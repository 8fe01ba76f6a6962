/- What octet's Reader does beyond take: number, U8, U16, U32, Take, Part, Rest, Left, Bad, New. Condition: at most 2^40 bytes. What confluenceref06's Num and Big, and confluencelaw06's Bytes, return. Conditions: at most 2^40 bytes; of Num: at most four. -/
import Derived.Test.YtaeeeinpelfppaaGreatReader
import Derived.Laws.BitsAllLaws
import Derived.Test.YtaeeeinpelfppaaGreatWriter
namespace Go.Proofs.YtaeeeinpelfppaaGreat.octet
open Go.RowKit Go.Proofs.YtaeeeinpelfppaaGreat.kit Go.Proofs.YtaeeeinpelfppaaGreat.mem
set_option linter.unusedVariables false

/-- are there so many bytes left? -/
def rok (l : List UInt8) (bad : Bool) (n : Int) : Bool := !bad && decide (0 ≤ n) && decide (n ≤ (l.length : Int))
def rget (l : List UInt8) (bad : Bool) (n : Int) : List UInt8 := if rok l bad n = true then l.take n.toNat else []
def rleft (l : List UInt8) (bad : Bool) (n : Int) : List UInt8 := if rok l bad n = true then l.drop n.toNat else []

theorem rok_iff (l : List UInt8) (bad : Bool) (n : Int) : rok l bad n = true ↔ bad = false ∧ 0 ≤ n ∧ n ≤ (l.length : Int) := by
  unfold rok; cases bad <;> simp
theorem rget_len (l : List UInt8) (bad : Bool) (n : Int) : (rget l bad n).length ≤ l.length := by
  unfold rget; split <;> simp; omega
theorem rleft_len (l : List UInt8) (bad : Bool) (n : Int) : (rleft l bad n).length ≤ l.length := by
  unfold rleft; split <;> simp
theorem rget_le (l : List UInt8) (bad : Bool) (n : Nat) : (rget l bad n).length ≤ n := by
  unfold rget; split <;> simp; omega

theorem take_any (r : Nat) (l : List UInt8) (bad : Bool) (n : Int) (w : World) (hr : Rdr w r l bad) :
    Calls Tryz.prog 53 #[.pointer (some ⟨r, 0, none⟩), .int .i64 n] w fun e w' => Taken (rget l bad n) (rok l bad n) r w e w' ∧ Rdr w' r (rleft l bad n) (!rok l bad n) ∧ w.grownBy w' (some r) := by
  by_cases h : rok l bad n = true
  · obtain ⟨rfl, h1, h2⟩ := (rok_iff l bad n).1 h
    obtain ⟨k, rfl⟩ := Int.eq_ofNat_of_zero_le h1
    unfold rget rleft
    rw [if_pos h, if_pos h, h, Int.toNat_natCast]
    exact take_yes r l k w hr (by omega)
  · have h' : rok l bad n = false := by simpa using h
    unfold rget rleft
    rw [if_neg h, if_neg h, h']
    refine take_no r l bad n w hr ?_
    cases bad
    · have := fun a b => h ((rok_iff l false n).2 ⟨rfl, a, b⟩)
      by_cases h0 : n < 0
      · exact .inr (.inl h0)
      · by_cases h1 : n ≤ (l.length : Int)
        · exact absurd h1 (this (by omega))
        · exact .inr (.inr (by omega))
    · exact .inl rfl

/-- the number of bytes, the highest first -/
def num (l : List UInt8) : Nat := l.foldl (fun v c => v * 256 + c.toNat) 0
theorem num_snoc (l : List UInt8) (c : UInt8) : num (l ++ [c]) = num l * 256 + c.toNat := by simp [num]
theorem num_acc (l : List UInt8) : ∀ v : Nat, l.foldl (fun v c => v * 256 + c.toNat) v < (v + 1) * 256 ^ l.length := by
  induction l with
  | nil => intro v; simp
  | cons c l ih =>
    intro v
    have h := ih (v * 256 + c.toNat)
    have hc := c.toNat_lt
    rw [List.foldl_cons, List.length_cons, Nat.pow_succ, Nat.mul_comm (256 ^ l.length), ← Nat.mul_assoc]
    exact Nat.lt_of_lt_of_le h (Nat.mul_le_mul_right _ (by omega))
theorem num_lt (l : List UInt8) : num l < 256 ^ l.length := by have := num_acc l 0; simpa [num] using this

theorem or_byte (v c : Nat) (hv : v < 16777216) (hc : c < 256) : bits .or .u32 ((v : Int) * 256) (c : Int) = (v : Int) * 256 + c := by
  have e : ((v : Int) * 256) = ((v * 256 : Nat) : Int) := by omega
  rw [e, u32_or_nat _ _ (by omega) (by omega)]
  have := Nat.shiftLeft_add_eq_or_of_lt (i := 8) (b := c) (by omega) v
  rw [Nat.shiftLeft_eq] at this
  rw [show v * 256 = v * 2 ^ 8 from rfl, ← this]
  omega

theorem number_any (r : Nat) (l : List UInt8) (bad : Bool) (n : Nat) (w : World) (hr : Rdr w r l bad) (hn : n ≤ 4) :
    Calls Tryz.prog 54 #[.pointer (some ⟨r, 0, none⟩), .int .i64 n] w fun e w' => e = .returned (.int .u32 (num (rget l bad n) : Int)) ∧ Rdr w' r (rleft l bad n) (!rok l bad n) ∧ w.grownBy w' (some r) := by
  have HT := Lib.hid (take_any r l bad n w hr)
  have hg := rget_le l bad n
  clear hr
  generalize hq : rget l bad n = q at *
  go_enter Tryz.func54, Tryz.ntmps54
  go_wp2_with fail
  refine HT.out.mono ?_
  rintro e w1 ⟨⟨A, rfl, hA, hs⟩, hR, hG⟩
  have HR := Lib.hid hR
  have HG := Lib.hid hG
  have HS := Lib.hid hs
  have HA := Lib.hid hA
  clear hR hG hs hA
  go_wp2_with fail
  go_loop [5, 9, 18] (fun v _ i => ∃ k : Nat, k ≤ q.length ∧ i = .int .i64 k ∧ v = .int .u32 (num (q.take k) : Int)) (fun _ _ i => q.length - (intOf i).toNat)
  case atStart => exact ⟨0, by omega, rfl, rfl⟩
  case round =>
    obtain ⟨k, hk, rfl, rfl⟩ := hrel
    by_cases hlt : k < q.length
    · obtain ⟨b, off, rfl, hb, hc⟩ := HS.out.at_ hlt
      have hl := num_lt (q.take k)
      have hpow : 256 ^ (q.take k).length ≤ 256 ^ 3 := Nat.pow_le_pow_right (by omega) (by simp; omega)
      have hv : num (q.take k) < 16777216 := by omega
      have Hst : Hid (num (q.take (k + 1)) = num (q.take k) * 256 + q[k].toNat) := by
        rw [Hid, List.take_succ_eq_append_getElem hlt, num_snoc]
      have hcl := q[k].toNat_lt
      clear hl hpow
      generalize num (q.take k) = v at *
      generalize q[k].toNat = c at *
      have hor := or_byte v c hv hcl
      go_wp2_with fail
      go_round
      case rel => exact ⟨k + 1, by omega, by go_num, by rw [Hst.out]; simp⟩
      case measure => simp [intOf]; omega
    · obtain rfl : k = q.length := by omega
      go_wp2_with fail
      go_ret
      exact ⟨rfl, HR.out, HG.out⟩

theorem number_lt (l : List UInt8) (bad : Bool) (n : Nat) (hn : n ≤ 4) : num (rget l bad n) < 4294967296 := by
  have h1 := num_lt (rget l bad n)
  have h2 := rget_le l bad n
  have : 256 ^ (rget l bad n).length ≤ 256 ^ 4 := Nat.pow_le_pow_right (by omega) (by omega)
  omega

theorem u8_any (r : Nat) (l : List UInt8) (bad : Bool) (w : World) (hr : Rdr w r l bad) :
    Calls Tryz.prog 90 #[.pointer (some ⟨r, 0, none⟩)] w fun e w' => e = .returned (.int .i64 (num (rget l bad 1) : Int)) ∧ Rdr w' r (rleft l bad 1) (!rok l bad 1) ∧ w.grownBy w' (some r) := by
  have HT := Lib.hid (number_any r l bad 1 w hr (by omega))
  have hl := number_lt l bad 1 (by omega)
  clear hr
  simp only [show ((1 : Nat) : Int) = 1 from rfl] at HT hl
  generalize num (rget l bad 1) = v at *
  go_enter Tryz.func90, Tryz.ntmps90
  go_wp2_with fail
  refine HT.out.mono ?_
  rintro e w1 ⟨rfl, hR, hG⟩
  have HR := Lib.hid hR
  have HG := Lib.hid hG
  clear hR hG
  go_wp2_with fail
  go_ret
  exact ⟨rfl, HR.out, HG.out⟩

theorem u16_any (r : Nat) (l : List UInt8) (bad : Bool) (w : World) (hr : Rdr w r l bad) :
    Calls Tryz.prog 21 #[.pointer (some ⟨r, 0, none⟩)] w fun e w' => e = .returned (.int .i64 (num (rget l bad 2) : Int)) ∧ Rdr w' r (rleft l bad 2) (!rok l bad 2) ∧ w.grownBy w' (some r) := by
  have HT := Lib.hid (number_any r l bad 2 w hr (by omega))
  have hl := number_lt l bad 2 (by omega)
  clear hr
  simp only [show ((2 : Nat) : Int) = 2 from rfl] at HT hl
  generalize num (rget l bad 2) = v at *
  go_enter Tryz.func21, Tryz.ntmps21
  go_wp2_with fail
  refine HT.out.mono ?_
  rintro e w1 ⟨rfl, hR, hG⟩
  have HR := Lib.hid hR
  have HG := Lib.hid hG
  clear hR hG
  go_wp2_with fail
  go_ret
  exact ⟨rfl, HR.out, HG.out⟩

theorem u32_any (r : Nat) (l : List UInt8) (bad : Bool) (w : World) (hr : Rdr w r l bad) :
    Calls Tryz.prog 91 #[.pointer (some ⟨r, 0, none⟩)] w fun e w' => e = .returned (.int .u32 (num (rget l bad 4) : Int)) ∧ Rdr w' r (rleft l bad 4) (!rok l bad 4) ∧ w.grownBy w' (some r) := by
  have HT := Lib.hid (number_any r l bad 4 w hr (by omega))
  clear hr
  simp only [show ((4 : Nat) : Int) = 4 from rfl] at HT
  generalize num (rget l bad 4) = v at *
  go_enter Tryz.func91, Tryz.ntmps91
  go_wp2_with fail
  refine HT.out.mono ?_
  rintro e w1 ⟨rfl, hR, hG⟩
  have HR := Lib.hid hR
  have HG := Lib.hid hG
  clear hR hG
  go_wp2_with fail
  go_ret
  exact ⟨rfl, HR.out, HG.out⟩

/-- bytes handed back, and the reader gone on -/
def Got (l : List UInt8) (r : Nat) (q : List UInt8) (bad : Bool) (w : World) (e : Ending) (w' : World) : Prop :=
  ∃ A c, e = .returned (.slice A l.length c) ∧ (A = none → c = 0) ∧ l.length ≤ c ∧ c ≤ maxLen ∧ Bs w' w'.heap.size A l ∧ Rdr w' r q bad ∧ w.grownBy w' (some r)

theorem got_of {l q : List UInt8} {bad : Bool} {r : Nat} {w w1 w2 : World} {e : Ending} (h : RetBytes l w1 e w2) (hR : Rdr w1 r q bad) (hG : w.grownBy w1 (some r)) : Got l r q bad w e w2 := by
  obtain ⟨A, c, h1, h2, h3, h4, h5, h6, _⟩ := h
  exact ⟨A, c, h1, h2, h3, h4, h5, hR.below h6 hR.lt, grown_trans hG (grown_below h6 _)⟩

theorem Take_any (r : Nat) (l : List UInt8) (bad : Bool) (n : Int) (w : World) (hl : l.length ≤ 1099511627776) (hr : Rdr w r l bad) :
    Calls Tryz.prog 20 #[.pointer (some ⟨r, 0, none⟩), .int .i64 n] w (Got (rget l bad n) r (rleft l bad n) (!rok l bad n) w) := by
  have HT := Lib.hid (take_any r l bad n w hr)
  have hg := rget_len l bad n
  clear hr
  go_enter Tryz.func20, Tryz.ntmps20
  go_wp2_with fail
  refine HT.out.mono ?_
  rintro e w1 ⟨⟨A, rfl, hA, hs⟩, hR, hG⟩
  have HC := Lib.hid (clone_any A (rget l bad n).length r (rget l bad n) w1 (by omega) hA (Nat.le_of_lt hR.lt) hs)
  have HR := Lib.hid hR
  have HG := Lib.hid hG
  clear hR hG hs hA
  go_wp2_with fail
  refine HC.out.mono ?_
  rintro e w2 ⟨A', c', rfl, h2, h3, h4, h5, h6, h7⟩
  have HF : Hid (Got (rget l bad n) r (rleft l bad n) (!rok l bad n) w (.returned (.slice A' (rget l bad n).length c')) w2) := got_of ⟨A', c', rfl, h2, h3, h4, h5, h6, h7⟩ HR.out HG.out
  clear h2 h3 h4 h5 h6 h7
  go_wp2_with fail
  go_ret
  exact HF.out

theorem left_any (r : Nat) (l : List UInt8) (bad : Bool) (w : World) (hr : Rdr w r l bad) :
    Calls Tryz.prog 59 #[.pointer (some ⟨r, 0, none⟩)] w fun e w' => e = .returned (.int .i64 (l.length : Int)) ∧ w = w' := by
  obtain ⟨A, c, hk, hA, hlc, hcm, hs⟩ := hr
  have k0 := hk.cell 0
  simp at k0
  clear hk hs hA
  go_enter Tryz.func59, Tryz.ntmps59
  go_wp2_with fail
  go_ret
  exact ⟨rfl, rfl⟩

theorem Left_any (r : Nat) (l : List UInt8) (bad : Bool) (w : World) (hr : Rdr w r l bad) :
    Calls Tryz.prog 25 #[.pointer (some ⟨r, 0, none⟩)] w fun e w' => e = .returned (.int .i64 (l.length : Int)) ∧ w = w' := by
  have H := Lib.hid (left_any r l bad w hr)
  clear hr
  go_enter Tryz.func25, Tryz.ntmps25
  go_wp2_with fail
  refine H.out.mono ?_; rintro e w' ⟨rfl, rfl⟩
  go_wp2_with fail
  go_ret
  exact ⟨rfl, rfl⟩

theorem Bad_any (r : Nat) (l : List UInt8) (bad : Bool) (w : World) (hr : Rdr w r l bad) :
    Calls Tryz.prog 22 #[.pointer (some ⟨r, 0, none⟩)] w fun e w' => e = .returned (.bool bad) ∧ w = w' := by
  obtain ⟨A, c, hk, hA, hlc, hcm, hs⟩ := hr
  have k1 := hk.cell 1
  simp at k1
  clear hk hs hA
  go_enter Tryz.func22, Tryz.ntmps22
  go_wp2_with fail
  go_ret
  exact ⟨rfl, rfl⟩

theorem Rest_any (r : Nat) (l : List UInt8) (bad : Bool) (w : World) (hl : l.length ≤ 1099511627776) (hr : Rdr w r l bad) :
    Calls Tryz.prog 27 #[.pointer (some ⟨r, 0, none⟩)] w (Got (rget l bad l.length) r (rleft l bad l.length) (!rok l bad l.length) w) := by
  have HL := Lib.hid (left_any r l bad w hr)
  have HT := Lib.hid (take_any r l bad l.length w hr)
  have hg := rget_len l bad l.length
  clear hr
  go_enter Tryz.func27, Tryz.ntmps27
  go_wp2_with fail
  refine HL.out.mono ?_; rintro e w' ⟨rfl, rfl⟩
  go_wp2_with fail
  refine HT.out.mono ?_
  rintro e w1 ⟨⟨A, rfl, hA, hs⟩, hR, hG⟩
  have HC := Lib.hid (clone_any A (rget l bad l.length).length r (rget l bad l.length) w1 (by omega) hA (Nat.le_of_lt hR.lt) hs)
  have HR := Lib.hid hR
  have HG := Lib.hid hG
  clear hR hG hs hA
  go_wp2_with fail
  refine HC.out.mono ?_
  rintro e w2 ⟨A', c', rfl, h2, h3, h4, h5, h6, h7⟩
  have HF : Hid (Got (rget l bad l.length) r (rleft l bad l.length) (!rok l bad l.length) w (.returned (.slice A' (rget l bad l.length).length c')) w2) := got_of ⟨A', c', rfl, h2, h3, h4, h5, h6, h7⟩ HR.out HG.out
  clear h2 h3 h4 h5 h6 h7
  go_wp2_with fail
  go_ret
  exact HF.out

/-- a new reader handed back -/
def NewRdr (l : List UInt8) (bad : Bool) (w : World) (e : Ending) (w' : World) : Prop :=
  ∃ r, e = .returned (.pointer (some ⟨r, 0, none⟩)) ∧ w.heap.size ≤ r ∧ Rdr w' r l bad

theorem rdr_new {w : World} {A : Option Addr} {c : Nat} {l : List UInt8} {bad : Bool} (hA : A = none → c = 0) (h3 : l.length ≤ c) (h4 : c ≤ maxLen) (hs : Bs w w.heap.size A l) :
    Rdr (w.alloc (.cells #[.slice A l.length c, .bool bad] 83)) w.heap.size l bad :=
  ⟨A, c, Bk.new w _ _, hA, h3, h4, hs.alloc (Nat.le_refl _) _⟩

theorem New_any (A : Option Addr) (c B : Nat) (l : List UInt8) (w : World) (hl : l.length ≤ 1099511627776) (hA : A = none → c = 0) (hB : B ≤ w.heap.size) (hr : Bs w B A l) :
    Calls Tryz.prog 18 #[.slice A l.length c] w fun e w' => NewRdr l false w e w' ∧ Below w.heap.size w w' := by
  have HC := Lib.hid (clone_any A c B l w hl hA hB hr)
  clear hr hA
  go_enter Tryz.func18, Tryz.ntmps18
  go_wp2_with fail
  refine HC.out.mono ?_
  rintro e w2 ⟨A', c', rfl, h2, h3, h4, h5, h6, h7⟩
  have HF := Lib.hid (rdr_new (bad := false) h2 h3 h4 h5)
  have HB := Lib.hid h6
  clear h2 h3 h4 h5 h6 h7
  go_wp2_with fail
  go_ret
  exact ⟨⟨_, rfl, HB.out.size, HF.out⟩, HB.out.alloc HB.out.size _⟩

end Go.Proofs.YtaeeeinpelfppaaGreat.octet

namespace Go.Proofs.YtaeeeinpelfppaaGreat.octet
open Go.RowKit Go.Proofs.YtaeeeinpelfppaaGreat.kit Go.Proofs.YtaeeeinpelfppaaGreat.mem
set_option linter.unusedVariables false

/-- a number's lowest bytes, so many -/
def bigv (n : Nat) : Nat → List UInt8
  | 0 => []
  | k + 1 => byteOf ((n / 256 ^ k : Nat) : Int) :: bigv n k
theorem bigv_len (n k : Nat) : (bigv n k).length = k := by induction k with | zero => rfl | succ k ih => simp [bigv, ih]

set_option maxRecDepth 100000 in
theorem Big_any (n many : Nat) (w : World) (hn : n < 18446744073709551616) (hm : many ≤ 8) :
    Calls Tryz.prog 50 #[.int .u64 n, .int .i64 many] w (RetBytes (bigv n many) w) := by
  obtain ⟨i0, hi, hz0, hz1, hz2⟩ := info_parts info_u8
  have Hi := Lib.hid hi
  have Hz0 := Lib.hid hz0
  have Hz1 := Lib.hid hz1
  have Hz2 := Lib.hid hz2
  have Hn := Lib.hid hn
  clear hi hz0 hz1 hz2 hn
  go_enter Tryz.func50, Tryz.ntmps50
  go_wp2_with fail
  go_loopw [0, 5, 6] (fun u o i wr => ∃ (k : Nat) (A : Option Addr) (c : Nat), k ≤ many ∧ i = .int .i64 k ∧ u = .int .u64 ((n / 256 ^ k : Nat) : Int) ∧ o = .slice A k c ∧ RetBytes (bigv n k) w (.returned (.slice A k c)) wr) (fun _ _ i _ => many - (intOf i).toNat)
  case atStart => exact ⟨0, some ⟨w.heap.size, 0, none⟩, 0, by omega, rfl, by simp, rfl, some ⟨w.heap.size, 0, none⟩, 0, rfl, (fun h => by cases h), Nat.le_refl _, by unfold maxLen; omega, Rd.nil _ _ _ _, (Below.refl _ _).alloc (Nat.le_refl _) _, (fun ad h => by cases h; exact Nat.le_refl _)⟩
  case round =>
    obtain ⟨k, A, c, hk, rfl, rfl, rfl, hret⟩ := hrel
    by_cases hlt : k < many
    · have hlen := bigv_len n k
      obtain ⟨A', c', e, hA, h3, h4, h5, h6, h7⟩ := hret
      simp only [Ending.returned.injEq, Value.slice.injEq] at e
      obtain ⟨rfl, he2, rfl⟩ := e
      clear he2
      have hdiv : n / 256 ^ k ≤ n := Nat.div_le_self _ _
      have Hd : Hid (n / 256 ^ (k + 1) = n / 256 ^ k / 256) := by rw [Hid, Nat.div_div_eq_div_mul, Nat.pow_succ]
      have hu : ((n / 256 ^ k : Nat) : Int) ≤ 18446744073709551615 := by have := Hn.out; omega
      have Hb : Hid (bigv n (k + 1) = byteOf ((n / 256 ^ k : Nat) : Int) :: bigv n k) := rfl
      clear hdiv
      generalize n / 256 ^ k = u at *
      have HR : Hid (Rd (wr.alloc (.cells #[.int .u8 ((u : Int) % 256)] 5)) wr.heap.size 1 A k (bv (bigv n k))) := by
        have := h5.alloc (Nat.le_refl _) (.cells #[.int .u8 ((u : Int) % 256)] 5)
        unfold Bs at this; rw [hlen] at this; exact this
      have HA := Lib.hid hA
      have HB := Lib.hid h6
      have HO : Hid ((wr.alloc (.cells #[.int .u8 ((u : Int) % 256)] 5)).ownsRow w.heap.size 5 1 (.slice (some ⟨wr.heap.size, 0, none⟩) 1 1) 1 (bv [byteOf (u : Int)])) :=
        ⟨rfl, .inr ⟨wr.heap.size, 1, _, rfl, h6.size, heap_alloc_new wr _, Nat.le_refl _, by unfold maxLen; omega, rfl, by simp [bv, byteOf_nat]⟩⟩
      have HM : Hid (1 + k ≤ maxLen) := by show _ ≤ maxLen; unfold maxLen; omega
      have HN : Hid ((1 + k) * 1 ≤ 140737488355328) := by show _ ≤ _; omega
      clear hA h3 h4 h5 h6 h7 hlen
      go_wp2_with (at_builtin; refine wpList_append_sl rfl (.tmp 16) (.tmp 17) _ rfl w.heap.size 5 i0 _ 1 1 Tryz.underlying22 Hi.out Hz0.out Hz1.out Hz2.out rfl (by omega) (.slice (some ⟨wr.heap.size, 0, none⟩) 1 1) 1 (bv [byteOf (u : Int)]) rfl HO.out wr.heap.size A k c HA.out (bv (bigv n k)) rfl HR.out (bv_one _) HM.out HN.out (by have := HB.out.size; simp; omega) ?_; intro A1 c1 w1 hown1 hg1 hat1; have Hown1 := Lib.hid hown1; have Hg1 := Lib.hid hg1; clear hown1 hg1 hat1)
      go_roundw
      case rel =>
        refine ⟨k + 1, A1, c1, by omega, by go_num, by rw [Hd.out]; simp, by rw [Nat.add_comm], ?_⟩
        have hb : Below w.heap.size w w1 := (HB.out.alloc HB.out.size _).trans (below_grown Hg1.out (by have := HB.out.size; simp; omega) (by simp [Value.ownBlock]; exact HB.out.size))
        have ho := Hown1.out
        rw [← bv_app] at ho
        rw [Hb.out, Nat.add_comm k 1]
        refine own_ret (l := byteOf (u : Int) :: bigv n k) (v := .slice A1 (1 + k) c1) ?_ hb
        rw [List.length_cons, bigv_len, Nat.add_comm k 1]; exact ho
      case measure => simp [intOf]; omega
    · obtain rfl : k = many := by omega
      have HT := Lib.hid hret
      clear hret
      go_wp2_with fail
      go_ret
      exact HT.out

end Go.Proofs.YtaeeeinpelfppaaGreat.octet
