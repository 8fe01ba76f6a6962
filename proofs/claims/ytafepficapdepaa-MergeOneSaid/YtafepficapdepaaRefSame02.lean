/- What confluenceref02.Same returns. Condition: at most 10^6 numbers. -/
import Derived.Test.YtafepficapdepaaSeg
import Derived.Deep.RegionHeld3
namespace Go.Proofs.Ytafepficapdepaa.pth
open Go.RowKit Go.Proofs.Ytafepficapdepaa.kit Go.Proofs.Ytafepficapdepaa.mem Go.Proofs.Ytafepficapdepaa.foot Go.Proofs.Ytafepficapdepaa.nums Go.Proofs.Ytafepficapdepaa.asn
set_option linter.unusedVariables false
set_option linter.unusedSimpArgs false
/-- a number of a slice read -/
theorem us_at {w : World} {G : Foot} {A : Option Addr} {l : List Nat} (h : Us w G A l) {i : Nat} (hi : i < l.length) : ∃ b off, A = some ⟨b, off, none⟩ ∧ b < w.heap.size ∧ w.cell? ⟨b, off + i, none⟩ = some (.int .u32 (l[i] : Int)) := by
  obtain ⟨b, off, rfl, _, hb, hc⟩ := h.2 (by omega)
  exact ⟨b, off, rfl, hb, hc i _ (by simp [uv, hi])⟩
/-- only answers were drawn -/
def Draws (w w' : World) : Prop := ∃ n, w' = w.drewN n
theorem Draws.refl (w : World) : Draws w w := ⟨0, rfl⟩
theorem Draws.drew {w w' : World} (h : Draws w w') : Draws w w'.drew := by
  obtain ⟨n, rfl⟩ := h
  exact ⟨n + 1, rfl⟩
theorem Draws.drewN {w w' : World} (h : Draws w w') (m : Nat) : Draws w (w'.drewN m) := by
  obtain ⟨n, rfl⟩ := h
  exact ⟨n + m, by simp [World.drewN, Nat.add_assoc]⟩
theorem Draws.cell {w w' : World} (h : Draws w w') (p : Addr) : w'.cell? p = w.cell? p := by
  obtain ⟨n, rfl⟩ := h
  rfl
theorem Draws.bel {w w' : World} (h : Draws w w') : Below w.heap.size w w' := by
  obtain ⟨n, rfl⟩ := h
  exact ⟨rfl, rfl, rfl, Nat.le_refl _, fun _ _ => rfl⟩
set_option maxRecDepth 100000 in
set_option maxHeartbeats 2000000 in
theorem refSame02_q (A B : Option Addr) (c d : Nat) (l r : List Nat) (G H : Foot) (w : World) (hl : l.length ≤ 1000000) (h1 : Us w G A l) (h2 : Us w H B r) :
    Calls Try.prog 61 #[.slice A l.length c, .slice B r.length d] w fun e w' => e = .returned (.bool (decide (l = r))) ∧ Draws w w' := by
  have H1 := Lib.hid h1
  have H2 := Lib.hid h2
  obtain ⟨z, hz⟩ : ∃ z, z = decide (l = r) := ⟨_, rfl⟩
  have HZ := Lib.hid hz
  rw [← hz]
  clear h1 h2 hz
  by_cases hlen : l.length = r.length
  · have HEq : Hid (∀ i, (∀ j, j < i → l[j]? = r[j]?) → i = l.length → z = true) := fun i h e => by
      rw [HZ.out, decide_eq_true_iff]
      subst e
      refine List.ext_getElem? fun j => ?_
      rcases Nat.lt_or_ge j l.length with hj | hj
      · exact h j hj
      · rw [List.getElem?_eq_none hj, List.getElem?_eq_none (by omega)]
    have HNe : Hid (∀ i (hi : i < l.length) (hi2 : i < r.length), l[i] ≠ r[i] → z = false) := fun i hi hi2 hne => by
      rw [HZ.out, decide_eq_false_iff_not]
      intro e; subst e; exact hne rfl
    clear HZ
    go_enter Try.func61, Try.ntmps61
    rw [← hlen]
    have HLen := Lib.hid hlen
    clear hlen
    go_wp2_with fail
    go_loopw [5] (fun v5 wr => ∃ i : Nat, i ≤ l.length ∧ v5 = .int .i64 i ∧ (∀ j, j < i → l[j]? = r[j]?) ∧ Draws w wr) (fun v5 _ => l.length - (intOf v5).toNat)
    case atStart => exact ⟨0, by omega, rfl, fun j h => by omega, Draws.refl _⟩
    case round =>
      obtain ⟨i, hi, rfl, hE, hb⟩ := hrel
      have HE := Lib.hid hE
      have HB := Lib.hid hb
      clear hE hb
      by_cases hlt : i < l.length
      · have hlt2 : i < r.length := by have := HLen.out; omega
        obtain ⟨b, off, rfl, hb1, c1⟩ := us_at H1.out hlt
        obtain ⟨b2, off2, rfl, hb2, c2⟩ := us_at H2.out hlt2
        have q0 := (HB.out.cell ⟨b, off + i, none⟩).trans c1
        have q1 := (HB.out.cell ⟨b2, off2 + i, none⟩).trans c2
        have hi1 : (i : Int) < (l.length : Int) := by omega
        have HE2 : Hid (l[i] = r[i] → ∀ j, j < i + 1 → l[j]? = r[j]?) := fun hs j hj => by
          by_cases e : j = i
          · subst e; rw [List.getElem?_eq_getElem hlt, List.getElem?_eq_getElem hlt2, hs]
          · exact HE.out j (by omega)
        have HZf := Lib.hid (HNe.out i hlt hlt2)
        clear c1 c2 hb1 hb2
        generalize l[i] = x at *
        generalize r[i] = y at *
        by_cases hs : x = y
        · subst hs
          have d1 : ((x : Int) != (x : Int)) = false := by simp
          go_wp2_with fail
          go_region_held3 (fun w' => w'.cell? ⟨b, off + i, none⟩ = some (.int .u32 (x : Int)) ∧ w'.cell? ⟨b2, off2 + i, none⟩ = some (.int .u32 (x : Int))) (exact ⟨by go_simp, by go_simp⟩) (fail)
          go_wp2_with fail
          go_roundw
          case rel => exact ⟨i + 1, by omega, by go_num, HE2.out (by simp), by first | exact HB.out | exact HB.out.drew⟩
          case measure => simp [intOf]; omega
        · have d1 : ((x : Int) == (y : Int)) = false := by rw [beq_eq_false_iff_ne]; omega
          have HZg := Lib.hid (HZf.out hs)
          go_wp2_with fail
          go_region_held3 (fun w' => w'.cell? ⟨b, off + i, none⟩ = some (.int .u32 (x : Int)) ∧ w'.cell? ⟨b2, off2 + i, none⟩ = some (.int .u32 (y : Int))) (exact ⟨by go_simp, by go_simp⟩) (fail)
          go_wp2_with fail
          go_ret
          exact ⟨by rw [HZg.out]; rfl, by first | exact HB.out | exact HB.out.drew⟩
      · have HZt := Lib.hid (HEq.out i HE.out (by omega))
        obtain rfl : i = l.length := by omega
        go_wp2_with fail
        go_ret
        exact ⟨by rw [HZt.out]; rfl, HB.out⟩
  · have HZf : Hid (z = false) := by
      rw [Hid, HZ.out, decide_eq_false_iff_not]
      intro e; subst e; exact hlen rfl
    have d1 : ((l.length : Int) == (r.length : Int)) = false := by rw [beq_eq_false_iff_ne]; omega
    clear HZ
    go_enter Try.func61, Try.ntmps61
    go_wp2_with fail
    go_ret
    exact ⟨by rw [HZf.out]; rfl, Draws.refl _⟩
theorem refSame02_any (A B : Option Addr) (c d : Nat) (l r : List Nat) (G H : Foot) (w : World) (hl : l.length ≤ 1000000) (h1 : Us w G A l) (h2 : Us w H B r) :
    Calls Try.prog 61 #[.slice A l.length c, .slice B r.length d] w fun e w' => e = .returned (.bool (decide (l = r))) ∧ Below w.heap.size w w' :=
  (refSame02_q A B c d l r G H w hl h1 h2).mono fun _ _ h => ⟨h.1, h.2.bel⟩
end Go.Proofs.Ytafepficapdepaa.pth
