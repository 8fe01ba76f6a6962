/- What a tally's Sum returns. Condition: at most 10000 keys. -/
import Derived.Test.YtafepficapdepaaTally
import Derived.Test.YtafepficapdepaaMapRange
namespace Go.Proofs.Ytafepficapdepaa.tally
open Go.RowKit Go.Proofs.Ytafepficapdepaa.flt Go.Proofs.Ytafepficapdepaa.kit Go.Proofs.Ytafepficapdepaa.mem Go.Proofs.Ytafepficapdepaa.foot Go.Proofs.Ytafepficapdepaa.maps
set_option linter.unusedVariables false
set_option linter.unusedSimpArgs false

/-- all counts together -/
def sumV (rs : List TR) : Int × Int := ((rs.map fun r => r.2.2.1).sum, (rs.map fun r => r.2.2.2).sum)
theorem sumV_snoc (rs : List TR) (r : TR) : sumV (rs ++ [r]) = ((sumV rs).1 + r.2.2.1, (sumV rs).2 + r.2.2.2) := by simp [sumV]
theorem sum_perm {l l' : List Int} (h : l.Perm l') : l.sum = l'.sum := by
  induction h with
  | nil => rfl
  | cons x _ ih => simp [ih]
  | swap x y l => simp; omega
  | trans _ _ h1 h2 => rw [h1, h2]
theorem sumV_perm {rs rs' : List TR} (h : rs.Perm rs') : sumV rs = sumV rs' := by
  unfold sumV
  rw [sum_perm (h.map fun r => r.2.2.1), sum_perm (h.map fun r => r.2.2.2)]
theorem sumV_bd : ∀ (rs : List TR), (∀ r ∈ rs, Sound r) → 0 ≤ (sumV rs).1 ∧ (sumV rs).1 ≤ rs.length * 549755813888 ∧ 0 ≤ (sumV rs).2 ∧ (sumV rs).2 ≤ rs.length * 549755813888
  | [], _ => by simp [sumV]
  | r :: rs, h => by
    have ih := sumV_bd rs fun x hx => h x (List.mem_cons_of_mem _ hx)
    have hr := h r (by simp)
    have h1 := hr.lo
    have h2 := hr.hi
    simp only [sumV, List.map_cons, List.sum_cons, List.length_cons] at ih ⊢
    omega

set_option maxRecDepth 100000 in
set_option maxHeartbeats 1000000 in
theorem Sum_any {F : Foot} {t : Nat} {rs : List TR} (w : World) (hn : rs.length ≤ 10000) (h : Tl w F t rs) :
    Calls Try.prog 28 #[.pointer (some ⟨t, 0, none⟩)] w fun e w' => e = .returned (.tuple #[.int .i64 (sumV rs).1, .int .i64 (sumV rs).2]) ∧ Below w.heap.size w w' := by
  have hsound := h.sound
  obtain ⟨⟨b, n, hb, hmp, hFb, htb⟩, _⟩ := h
  have hb0 := hb.cell 0
  simp at hb0
  have HMp := Lib.hid hmp
  have HSo := Lib.hid hsound
  clear hb hmp hsound
  go_enter Try.func28, Try.ntmps28
  go_wp2_with (at_range; refine wpList_range_mp (E := cE) rfl (.tmp 12) _ (by rfl) 112 Try.underlying22 Try.underlying109 (by rfl) HMp.out ?_; intro w1 hr1 hb1)
  have HR1 := Lib.hid hr1
  have HB1 := Lib.hid hb1
  clear hr1 hb1
  go_frame
  go_loopw [4, 6] (fun z _ wr => ∃ (x y : Nat) (dn rm : List TR), z = .complex .f64 x y ∧ IsF x (sumV dn).1 2200 ∧ IsF y (sumV dn).2 2200 ∧ rs.Perm (dn ++ rm) ∧ MpR cE Try.prog 22 .u32 wr b w.heap.size n (raw rs) (raw dn) (raw rm) ∧ Below w.heap.size w wr) (fun _ _ wr => wr.rangeLeft b w.heap.size)
  case atStart => exact ⟨0, 0, [], rs, rfl, isF_zero, isF_zero, by simp, HR1.out, HB1.out⟩
  case round =>
    obtain ⟨x, y, dn, rm, rfl, hx, hy, hp, hm, hbw⟩ := hrel
    have HM := Lib.hid hm
    have HX := Lib.hid hx
    have HY := Lib.hid hy
    have HP := Lib.hid hp
    have HBW := Lib.hid hbw
    clear hm hx hy hp hbw HR1 HB1
    go_wp2_with (at_next; refine wpList_next_mp (E := cE) rfl (.tmp 13) (by rfl) Try.underlying22 (by rfl) HM.out ?_ ?_)
    · intro h0
      have hrm : rm = [] := by simpa [raw] using h0
      have hp := HP.out
      rw [hrm, List.append_nil] at hp
      have HV := Lib.hid (sumV_perm hp)
      have hbd := sumV_bd rs HSo.out
      rw [sumV_perm hp] at hbd
      have hx := HX.out
      have hy := HY.out
      have HPa := Lib.hid (parts_any _ _ _ _ hx hy (by omega) (by omega))
      clear h0 hrm hp hx hy hbd
      generalize sumV dn = v0 at *
      go_wp2_with (go_at_call 57; refine (HPa.out _).mono ?_; rintro e w' ⟨rfl, rfl⟩)
      go_ret2
      exact ⟨by rw [HV.out]; rfl, HBW.out⟩
    · intro k0 x0 y0 r1 r2 w2 hr hm2 hl hc hen
      obtain ⟨m1, m2', rfl, e1, e2⟩ := List.map_eq_append_iff.1 (show List.map (fun r : TR => (r.1, r.2.1)) rm = r1 ++ (k0, x0, y0) :: r2 from hr)
      obtain ⟨r, m2, rfl, e3, e4⟩ := List.map_eq_cons_iff.1 e2
      subst e1 e4
      have hp2 : rs.Perm ((dn ++ [r]) ++ (m1 ++ m2)) := by
        refine HP.out.trans ?_
        rw [List.append_assoc]
        refine List.Perm.append_left _ ?_
        rw [List.singleton_append]
        exact List.perm_middle
      have hso : Sound r := HSo.out r (hp2.mem_iff.2 (by simp))
      have hbd := sumV_bd (dn ++ [r]) fun z hz => HSo.out z (hp2.mem_iff.2 (List.mem_append_left _ hz))
      have hbd0 := sumV_bd dn fun z hz => HSo.out z (hp2.mem_iff.2 (List.mem_append_left _ (List.mem_append_left _ hz)))
      have hlen : (dn ++ [r]).length ≤ rs.length := by have := hp2.length_eq; rw [List.length_append] at this; omega
      rw [sumV_snoc] at hbd
      have hre := hso.re
      have him := hso.im
      obtain ⟨k1, ⟨x1, y1⟩, a1, b1⟩ := r
      simp only [Prod.mk.injEq] at e3
      obtain ⟨rfl, rfl, rfl⟩ := e3
      dsimp only at hre him hbd
      obtain ⟨re, im, hadd, hre2, him2⟩ := csum_exact HX.out HY.out hre him (by omega) (by omega)
      have q1 := fun w => run_complex_sum (P := Try.prog) w .add (.inl rfl) 112 .f64 _ _ _ _ re im hadd
      have HRe := Lib.hid hre2
      have HIm := Lib.hid him2
      have HP2 := Lib.hid hp2
      have HM2 := Lib.hid hm2
      have HL := Lib.hid hl
      have HBW2 : Hid (Below w.heap.size w w2) := HBW.out.trans (hc.below (fun j e => by have e' : j = w.heap.size := e; omega) HBW.out.size)
      clear hr hm2 hl hc e2 hp2 hso hbd hbd0 hlen hre him hadd hre2 him2
      replace hen : (Instr.entry (.pointer (some ⟨w.heap.size, 0, none⟩))).run Try.prog w2 = .ok (.tuple #[.int .u32 k1, .complex .f64 x1 y1]) w2 := hen
      rw [show cE.mkv (x1, y1) = .complex .f64 x1 y1 from rfl]
      go_wp2_with fail
      go_roundw
      case measure => exact HL.out
      case rel => exact ⟨re, im, dn ++ [(k1, (x1, y1), a1, b1)], m1 ++ m2, rfl, by rw [sumV_snoc]; exact HRe.out, by rw [sumV_snoc]; exact HIm.out, HP2.out, by simpa [raw] using HM2.out, HBW2.out⟩
end Go.Proofs.Ytafepficapdepaa.tally
