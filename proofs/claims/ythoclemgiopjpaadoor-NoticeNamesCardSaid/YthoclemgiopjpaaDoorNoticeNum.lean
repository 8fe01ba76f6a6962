/- A number's digits by the document (confluenceref01.Num). No condition but that it is a uint64. -/
import Derived.Test.YthoclemgiopjpaaDoorNoticeJudge
import Derived.Lib.ItoaLen
namespace Go.Proofs.YthoclemgiopjpaaDoor.notice
open Go.RowKit Go.Proofs.YthoclemgiopjpaaDoor.kit Go.Proofs.YthoclemgiopjpaaDoor.mem Go.Proofs.YthoclemgiopjpaaDoor.foot Go.Proofs.YthoclemgiopjpaaDoor.octet Go.Proofs.YthoclemgiopjpaaDoor.told
set_option linter.unusedVariables false
set_option linter.unusedSimpArgs false

set_option maxRecDepth 100000 in
theorem Num_small (n : Nat) (w : World) (h : n < 10) : Calls Tryd.prog 31 #[.int .u64 n] w fun e w' => e = .returned (.string ⟨(Lib.decDigits n).toArray⟩) ∧ w = w' := by
  have : n = 0 ∨ n = 1 ∨ n = 2 ∨ n = 3 ∨ n = 4 ∨ n = 5 ∨ n = 6 ∨ n = 7 ∨ n = 8 ∨ n = 9 := by omega
  rcases this with rfl | rfl | rfl | rfl | rfl | rfl | rfl | rfl | rfl | rfl
  all_goals
    go_enter Tryd.func31, Tryd.ntmps31
    go_wp2_with fail
    go_ret
    exact ⟨by rw [Lib.decDigits_one (by omega)]; rfl, rfl⟩

theorem str_app (a b : List UInt8) : (⟨a.toArray⟩ ++ ⟨b.toArray⟩ : ByteArray) = ⟨(a ++ b).toArray⟩ := ByteArray.ext (by simp [ByteArray.data_append])
theorem digits_len (u : Nat) (h : u < 18446744073709551616) : (Lib.decDigits u).length ≤ 20 := by rw [Lib.decDigits_length]; exact Lib.nDigits_le20 u h
theorem digits_cut (n : Nat) (h : ¬ n < 10) : Lib.decDigits n = Lib.decDigits (n / 10) ++ Lib.decDigits (n % 10) := by
  rw [Lib.decDigits, dif_neg h, Lib.decDigits_one (show n % 10 < 10 by omega)]

set_option maxRecDepth 100000 in
theorem Num_any : ∀ (n : Nat) (w : World), n < 18446744073709551616 → Calls Tryd.prog 31 #[.int .u64 n] w fun e w' => e = .returned (.string ⟨(Lib.decDigits n).toArray⟩) ∧ w = w' := by
  intro n
  induction n using Nat.strongRecOn with
  | _ n ih =>
  intro w hn
  by_cases h : n < 10
  · refine (Num_small n w h).mono ?_
    rintro e w' ⟨rfl, rfl⟩
    exact ⟨rfl, rfl⟩
  · have HD : Hid (Lib.decDigits n = Lib.decDigits (n / 10) ++ Lib.decDigits (n % 10)) := digits_cut n h
    have HI : Hid (∀ w, Calls Tryd.prog 31 #[.int .u64 ((n : Int) / 10)] w fun e w' => e = .returned (.string ⟨(Lib.decDigits (n / 10)).toArray⟩) ∧ w = w') := fun w => ih (n / 10) (by omega) w (by omega)
    have HS : Hid (∀ w, Calls Tryd.prog 31 #[.int .u64 ((n : Int) % 10)] w fun e w' => e = .returned (.string ⟨(Lib.decDigits (n % 10)).toArray⟩) ∧ w = w') := fun w => Num_small (n % 10) w (by omega)
    have q1 := digits_len (n / 10) (by omega)
    have q2 := digits_len (n % 10) (by omega)
    clear ih
    go_enter Tryd.func31, Tryd.ntmps31
    go_wp2_with fail
    refine (HI.out w).mono ?_; rintro e w1 ⟨rfl, rfl⟩
    go_wp2_with fail
    refine (HS.out w).mono ?_; rintro e w1 ⟨rfl, rfl⟩
    go_wp2_with fail
    go_ret
    exact ⟨by rw [HD.out, ← str_app]; rfl, rfl⟩

theorem u64_pos (n : Nat) (h : n < 18446744073709551616) : IntKind.u64.wrap (n : Int) = n := by show (n : Int) % 18446744073709551616 = n; omega

/-- a number's digits by the document -/
theorem Int_any (n : Int) (w : World) (h0 : -9223372036854775808 ≤ n) (h1 : n ≤ 9223372036854775807) :
    Calls Tryd.prog 20 #[.int .i64 n] w fun e w' => e = .returned (.string ⟨(Lib.itoa n).toArray⟩) ∧ w = w' := by
  by_cases h : n < 0
  · have HD : Hid (Lib.itoa n = 45 :: Lib.decDigits n.natAbs) := by unfold Lib.itoa; rw [Hid, if_pos h]
    have HI := Lib.hid (fun w => Num_any n.natAbs w (by omega))
    have q1 := digits_len n.natAbs (by omega)
    have hw : IntKind.u64.wrap (-(n + 1)) = -(n + 1) := by show (-(n + 1)) % 18446744073709551616 = -(n + 1); omega
    have hx : (-(n + 1) + 1 : Int) = (n.natAbs : Int) := by omega
    go_enter Tryd.func20, Tryd.ntmps20
    go_wp2_with fail
    refine (HI.out w).mono ?_; rintro e w1 ⟨rfl, rfl⟩
    go_wp2_with fail
    go_ret
    exact ⟨by rw [HD.out, show 45 :: Lib.decDigits n.natAbs = [45] ++ Lib.decDigits n.natAbs from rfl, ← str_app]; rfl, rfl⟩
  · obtain ⟨m, rfl⟩ := Int.eq_ofNat_of_zero_le (show 0 ≤ n by omega)
    have HD : Hid (Lib.itoa (m : Int) = Lib.decDigits m) := by unfold Lib.itoa; rw [Hid, if_neg h]; simp
    have HI := Lib.hid (fun w => Num_any m w (by omega))
    have hw := u64_pos m (by omega)
    go_enter Tryd.func20, Tryd.ntmps20
    go_wp2_with fail
    refine (HI.out w).mono ?_; rintro e w1 ⟨rfl, rfl⟩
    go_wp2_with fail
    go_ret
    exact ⟨by rw [HD.out]; rfl, rfl⟩
end Go.Proofs.YthoclemgiopjpaaDoor.notice
