/- What tally's Join with a tally of one key returns and leaves. Condition: the sums are not too great. -/
import Derived.Test.YtafepficapdepaaTallyActs
import Derived.Test.YtafepficapdepaaSplice
import Derived.LaidEqlPtr
namespace Go.Proofs.Ytafepficapdepaa.tally
open Go.RowKit Go.Proofs.Ytafepficapdepaa.flt Go.Proofs.Ytafepficapdepaa.kit Go.Proofs.Ytafepficapdepaa.mem Go.Proofs.Ytafepficapdepaa.foot Go.Proofs.Ytafepficapdepaa.maps Go.Proofs.Ytafepficapdepaa.nums
set_option linter.unusedVariables false
set_option linter.unusedSimpArgs false
/-- what adding leaves where the sums are not too great -/
def Added (rs : List TR) (k u v : Int) (F : Foot) (t : Nat) (w w' : World) : Prop := (∃ p, Tl w' F t ((k, p, ((valOf rs k).1 + u, (valOf rs k).2 + v)) :: without rs k)) ∧ Chg F w w'
theorem info_tally : (Try.prog.info? 111).map (·.size) = some 1 := by kernel_rfl
theorem one_key {L : List Nat} {k : Int} {q : (Nat × Nat) × (Int × Int)} (hp : (L.map fun n : Nat => (n : Int)).Perm ([((k, q.1, q.2) : TR)].map (·.1))) : L = [k.toNat] ∧ (k.toNat : Int) = k := by
  have h1 := hp.length_eq
  simp at h1
  obtain ⟨a, rfl⟩ := List.length_eq_one_iff.1 h1
  simp at hp
  subst hp
  simp
set_option maxRecDepth 100000 in
set_option maxHeartbeats 2000000 in
theorem Join_any {F G : Foot} {t o : Nat} {rs : List TR} {p0 : Nat × Nat} (k u v : Int) (w : World) (hk : (Lit.int .u32 k).wf = true) (hu : 0 ≤ u ∧ u ≤ 1073741824) (hv : 0 ≤ v ∧ v ≤ 1073741824) (hn : rs.length < 10000)
    (h : Tl w F t rs) (ho : Tl w G o [(k, p0, (u, v))]) (hfg : ∀ j, F j → ¬ G j) (hf : fullB ((valOf rs k).1 + u) ((valOf rs k).2 + v) = false) :
    Calls Try.prog 24 #[.pointer (some ⟨t, 0, none⟩), .pointer (some ⟨o, 0, none⟩)] w fun e w' => e = .returned (.int .i64 0) ∧ Added rs k u v F t w w' := by
  have hto : t ≠ o := fun e => hfg t h.mem (by rw [e]; exact ho.mem)
  have h0 : 0 ≤ k := (wf_u32 hk).1
  have HK := Lib.hid (keys_any w (by simp) (by simpa using h0) ho)
  have HA : Hid (∀ w1 x y, Below w.heap.size w w1 → IsF x u 2200 → IsF y v 2200 → Calls Try.prog 54 #[.pointer (some ⟨t, 0, none⟩), .int .u32 k, .complex .f64 x y] w1 (fun e w' => e = .returned (.int .i64 0) ∧ Added rs k u v F t w w')) := fun w1 x y hb hx hy => by
    refine (add_any k u v x y w1 hk hx hy (by omega) (by omega) hn (h.bel hb)).mono ?_
    rintro e w' hp
    obtain ⟨h1, h2, h3⟩ := hp.2 hf
    exact ⟨h1, h2, (Chg.of_below hb F).trans h3 fun _ _ e => e⟩
  have HL : Hid (∀ w1, Below w.heap.size w w1 → ∃ b, Bk w1 o 111 #[.map (some b)] ∧ ∃ x y, (Instr.lookup 109 (.map (some b)) (.int .u32 k) false).run Try.prog w1 = .ok (.complex .f64 x y) w1 ∧ IsF x u 2200 ∧ IsF y v 2200) := fun w1 hb => by
    obtain ⟨b, g1, g2, g3, g4, g5, _⟩ := (ho.bel hb).look hk
    have e : valOf [(k, p0, (u, v))] k = (u, v) := by simp [valOf]
    rw [e] at g4 g5
    exact ⟨b, g1, _, _, g2, g4, g5⟩
  have HKp := Lib.hid hk
  have hpo : (binOp .eql 50 (.pointer (some ⟨t, 0, none⟩)) (.pointer (some ⟨o, 0, none⟩))).run Try.prog w = .ok (.bool false) w := by
    obtain ⟨⟨b1, n1, hb1, _⟩, _⟩ := h
    obtain ⟨⟨b2, n2, hb2, _⟩, _⟩ := ho
    rcases hj : Try.prog.info? 111 with _ | j
    · have := info_tally; rw [hj] at this; cases this
    · have hs := info_tally
      rw [hj] at hs
      simp at hs
      exact run_eql_ptr_other w Try.underlying50 hj (by omega) (by intro e; cases e; exact hto rfl) hb1 hb2
  clear hk hu hv hn h ho hfg hf h0
  go_enter Try.func24, Try.ntmps24
  go_wp2_with (go_at_call 56; refine HK.out.mono ?_; rintro e w1 ⟨L, hp, hr, A, c, rfl, hO, hlo, hb⟩; go_must (obtain ⟨hL, hkk⟩ := one_key (k := k) (q := (p0, (u, v))) hp); subst hL; have HP := Lib.hid (And.intro hO hb); clear hp hr hO hlo hb)
  have hO : foot.Own w1 22 1 A [k.toNat].length c (uv [k.toNat]) := HP.out.1
  obtain ⟨g, off, rfl⟩ := foot.Own.form hO (by simp)
  obtain ⟨q0, qf, ql⟩ := foot.Own.at_ hO 0 (u := .int .u32 k) (by simp [uv, hkk])
  rw [Nat.add_zero] at q0
  have HB1 := Lib.hid HP.out.2
  clear hO
  go_loopw [22] (fun v22 wr => (v22 = .int .i64 0 ∧ wr = w1) ∨ (v22 = .int .i64 1 ∧ Added rs k u v F t w wr)) (fun v22 _ => 1 - (intOf v22).toNat)
  case atStart => exact .inl ⟨rfl, rfl⟩
  case round =>
    rcases hrel with ⟨rfl, rfl⟩ | ⟨rfl, hA⟩
    · obtain ⟨b, g1, x, y, g2, g3, g4⟩ := HL.out _ HB1.out
      have hb0 := g1.cell 0
      simp at hb0
      have HAd := Lib.hid (HA.out _ x y HB1.out g3 g4)
      clear g1 g3 g4 HP HL HA
      go_wp2_with (go_at_call 54; refine HAd.out.mono ?_; rintro e w2 ⟨rfl, ha⟩; have HE := Lib.hid ha; clear ha)
      go_roundw
      case rel => exact .inr ⟨rfl, HE.out⟩
      case measure => simp [intOf]
    · have HE := Lib.hid hA
      clear hA
      go_wp2_with fail
      go_ret
      exact ⟨rfl, HE.out⟩
end Go.Proofs.Ytafepficapdepaa.tally
