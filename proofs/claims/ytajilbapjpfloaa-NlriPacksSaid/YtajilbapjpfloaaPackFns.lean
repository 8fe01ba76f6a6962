/- What nlri.fits, Fits and Pack return. Conditions as each lemma states. -/
import Derived.Test.YtajilbapjpfloaaPackMath
import Derived.Test.YtajilbapjpfloaaRefSort
import Derived.Test.YtajilbapjpfloaaNlriFns
namespace Go.Proofs.Ytajilbapjpfloaa.nlri
open Go.RowKit Go.Proofs.Ytajilbapjpfloaa.kit Go.Proofs.Ytajilbapjpfloaa.mem Go.Proofs.Ytajilbapjpfloaa.foot Go.Proofs.Ytajilbapjpfloaa.octet Go.Proofs.Ytajilbapjpfloaa.pfx Go.Proofs.Ytajilbapjpfloaa.srt
set_option linter.unusedVariables false
set_option linter.unusedSimpArgs false

theorem sizeP_le (p : Pf) : sizeP p ≤ 5 := by
  unfold sizeP
  split
  · rename_i h
    obtain ⟨h0, h1, _⟩ := (goodB_iff p.1 p.2).1 h
    have := bodyN_le p.2.toNat (by omega)
    omega
  · omega

set_option maxRecDepth 100000 in
set_option maxHeartbeats 1000000 in
theorem fits_any {G : Foot} (A : Option Addr) (c : Nat) (l : List Pf) (room : Int) (w : World) (hn : l.length ≤ 1000000000) (hr : -1 ≤ room) (hr2 : room ≤ 9223372036854775807) (hw : ∀ x ∈ l, x.1 < 4294967296) (h : Rg w G 2 A l.length (fv l)) :
    Calls Try.prog 77 #[.slice A l.length c, .int .i64 room] w fun e w' => e = .returned (.int .i64 (fitI room l : Int)) ∧ Below w.heap.size w w' := by
  have HR := Lib.hid h
  have HW := Lib.hid hw
  clear h hw
  go_enter Try.func77, Try.ntmps77
  go_wp2_with fail
  go_loopw [1, 5, 6, 9] (fun v1 _ _ v9 wr => ∃ (i : Nat) (r : Int), i ≤ l.length ∧ v9 = .int .i64 (i : Int) ∧ v1 = .int .i64 r ∧ r = room - (sumP (l.take i) : Int) ∧ i ≤ fitI room l ∧ -1 ≤ r ∧ r ≤ 9223372036854775807 ∧ Below w.heap.size w wr) (fun _ _ _ v9 _ => l.length - (intOf v9).toNat)
  case atStart => exact ⟨0, room, Nat.zero_le _, rfl, rfl, by simp [sumP], Nat.zero_le _, hr, hr2, Below.refl _ _⟩
  case round =>
    obtain ⟨i, r, hi, rfl, rfl, hrs, hif, hr3, hr4, hb⟩ := hrel
    have HB := Lib.hid hb
    have HS := Lib.hid (And.intro hrs hif)
    clear hb hrs hif
    by_cases hlt : i < l.length
    · obtain ⟨p, hp⟩ : ∃ p, l[i]? = some p := ⟨l[i], List.getElem?_eq_getElem hlt⟩
      obtain ⟨b, off, rfl⟩ : ∃ b off, A = some ⟨b, off, none⟩ := by
        obtain ⟨b, off, e, _⟩ := HR.out.2 (by omega)
        exact ⟨b, off, e⟩
      have x0 := fv_two (HR.out.bel HB.out) hp (by omega)
      have p0 := x0.1
      have p1 := x0.2.1
      have hpw := HW.out p (List.mem_of_getElem? hp)
      have HSz := Lib.hid (fun w => size_any p.1 p.2 hpw w)
      have hs5 := sizeP_le p
      have hat := fitI_at l room i HS.out.2
      have hsn : (sumP (l.take (i + 1)) : Int) = (sumP (l.take i) : Int) + (sizeP p : Int) := by
        rw [List.take_add_one, hp]
        show (sumP (l.take i ++ [p]) : Int) = _
        rw [sumP_snoc]; push_cast; rfl
      have HAt : Hid (i = fitI room l ↔ r - (sizeP p : Int) < 0) := by
        rw [Hid, hat, HS.out.1]
        constructor
        · intro hh; exact hh p hp
        · intro hh q hq; rw [hp] at hq; cases hq; exact hh
      have HSn := Lib.hid hsn
      have HBa : Hid (Below w.heap.size w (wr.alloc (.cells #[.int .u32 (p.1 : Int), .int .i64 p.2] 69))) := HB.out.alloc HB.out.size _
      have HKa : Hid (Bk (wr.alloc (.cells #[.int .u32 (p.1 : Int), .int .i64 p.2] 69)) wr.heap.size 69 #[.int .u32 (p.1 : Int), .int .i64 p.2]) := Bk.new wr _ _
      obtain ⟨z, hz⟩ : ∃ z, z = sizeP p := ⟨_, rfl⟩
      rw [show sizeP (p.1, p.2) = sizeP p from rfl, ← hz] at HSz
      rw [← hz] at hs5 HAt HSn
      clear hp x0 hpw hat hsn hz
      go_wp2_with fail
      refine (HSz.out _).mono ?_; rintro e w3 ⟨rfl, hb3⟩
      have HB3 := Lib.hid (HBa.out.trans (hb3.mono HBa.out.size))
      clear hb3 p0 p1 HSz
      by_cases hneg : r - (z : Int) < 0
      · have HE : Hid (fitI room l = i) := (HAt.out.2 hneg).symm
        go_wp2_with fail
        go_ret
        exact ⟨by rw [HE.out]; rfl, HB3.out⟩
      · have HNg : Hid (¬ r - (z : Int) < 0) := hneg
        go_wp2_with fail
        go_roundw
        case rel =>
          have h1 := HS.out
          have h2 := HSn.out
          have h3 : i ≠ fitI room l := fun e => by have := HAt.out.1 e; have := HNg.out; omega
          have h4 := HNg.out
          exact ⟨i + 1, r - (z : Int), by omega, by go_num, rfl, by omega, by omega, by omega, by omega, HB3.out⟩
        case measure => simp [intOf]; omega
    · obtain rfl : i = l.length := by omega
      have HE : Hid (fitI room l = l.length) := Nat.le_antisymm (fitI_le room l) HS.out.2
      go_wp2_with fail
      go_ret
      exact ⟨by rw [HE.out]; rfl, HB.out⟩
set_option maxRecDepth 100000 in
theorem Fits_any {G : Foot} (A : Option Addr) (c : Nat) (l : List Pf) (room : Int) (w : World) (hn : l.length ≤ 1000000000) (hr2 : room ≤ 9223372036854775807) (hw : ∀ x ∈ l, x.1 < 4294967296) (h : Rg w G 2 A l.length (fv l)) :
    Calls Try.prog 56 #[.slice A l.length c, .int .i64 room] w fun e w' => e = .returned (.int .i64 (fitI (max room (-1)) l : Int)) ∧ Below w.heap.size w w' := by
  have HF := Lib.hid (fits_any A c l (max room (-1)) w hn (by omega) (by omega) hw h)
  clear h hw hr2 hn
  obtain ⟨z, hz⟩ : ∃ z, z = fitI (max room (-1)) l := ⟨_, rfl⟩
  rw [← hz] at HF ⊢
  clear hz
  go_enter Try.func56, Try.ntmps56
  go_wp2_with fail
  refine HF.out.mono ?_; rintro e w1 ⟨rfl, hb⟩
  have HB := Lib.hid hb
  clear hb
  go_wp2_with fail
  go_ret
  exact ⟨rfl, HB.out⟩
end Go.Proofs.Ytajilbapjpfloaa.nlri
