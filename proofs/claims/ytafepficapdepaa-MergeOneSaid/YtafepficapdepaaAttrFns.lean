/- What attr.has, hop, flags and ways return. Conditions as each lemma states. -/
import Derived.Test.YtafepficapdepaaAttr
import Derived.Test.YtafepficapdepaaAttrBits
import Derived.Test.YtafepficapdepaaPathLead
namespace Go.Proofs.Ytafepficapdepaa.attr
open Go.RowKit Go.Proofs.Ytafepficapdepaa.kit Go.Proofs.Ytafepficapdepaa.mem Go.Proofs.Ytafepficapdepaa.foot Go.Proofs.Ytafepficapdepaa.nums Go.Proofs.Ytafepficapdepaa.asn Go.Proofs.Ytafepficapdepaa.pth
set_option linter.unusedVariables false
set_option linter.unusedSimpArgs false
theorem has_any (a : Atr) (Ap Ac : Option Addr) (cp cc : Nat) (k : Nat) (hk : k ≤ 8) (w : World) :
    Calls Try.prog 120 #[.agg (atc a Ap cp Ac cc).toArray, .int .i64 (k : Int)] w fun e w' => e = .returned (.bool (bitI a.has k)) ∧ Below w.heap.size w w' := by
  have HB : Hid (Below w.heap.size w (w.alloc (.cells (atc a Ap cp Ac cc).toArray 76))) := (Below.refl _ _).alloc (Nat.le_refl _) _
  have HK : Hid (Bk (w.alloc (.cells (atc a Ap cp Ac cc).toArray 76)) w.heap.size 76 (atc a Ap cp Ac cc).toArray) := Bk.new w _ _
  have q0 : (w.alloc (.cells (atc a Ap cp Ac cc).toArray 76)).cell? ⟨w.heap.size, 0, none⟩ = some (.int .i64 a.has) := by rw [HK.out.cell]; rfl
  obtain ⟨b, hb⟩ : ∃ b, b = bitI a.has k := ⟨_, rfl⟩
  have hp := i64_and_pow a.has k (by omega)
  have hsh : wrap64 (2 ^ min k 64 : Int) = 2 ^ k := by
    have : ∀ k : Fin 9, wrap64 (2 ^ min k.val 64 : Int) = 2 ^ k.val := by decide +kernel
    exact this ⟨k, by omega⟩
  have hpos : ¬ (2 : Int) ^ k = 0 := by
    have : ∀ k : Fin 9, ¬ (2 : Int) ^ k.val = 0 := by decide +kernel
    exact this ⟨k, by omega⟩
  rw [← hb] at hp ⊢
  clear hb hk
  generalize atc a Ap cp Ac cc = cs at *
  generalize a.has = h at *
  obtain ⟨w1, hw1⟩ : ∃ w1, w1 = w.alloc (.cells cs.toArray 76) := ⟨_, rfl⟩
  rw [← hw1] at HB HK q0
  have hb2 : (bits BinOp.and IntKind.i64 h (2 ^ k) != 0) = b := by
    rw [hp]
    cases b <;> simp [hpos]
  have HE : Hid ((bits BinOp.and IntKind.i64 h (wrap64 (2 ^ min k 64)) != 0) = b) := by rw [Hid, hsh]; exact hb2
  clear hp hpos hsh hb2
  go_enter Try.func120, Try.ntmps120
  go_upto_region 1 with fail
  rw [← hw1]
  clear hw1
  go_quiet (fail)
  go_wp2_with fail
  go_ret
  exact ⟨by rw [← HE.out]; rfl, below_drewN HB.out _⟩
def hopB (n : Int) : Bool := (n != 0) && (n != 4294967295) && (n / 268435456 != 14)
theorem hop_any (n : Int) (hn : (Lit.int .u32 n).wf = true) (w : World) : Calls Try.prog 126 #[.int .u32 n] w fun e w' => e = .returned (.bool (hopB n)) ∧ w = w' := by
  have hw := wf_u32 hn
  obtain ⟨b, hb⟩ : ∃ b, b = hopB n := ⟨_, rfl⟩
  rw [← hb]
  unfold hopB at hb
  by_cases h0 : n = 0
  · subst h0
    simp at hb
    subst hb
    go_enter Try.func126, Try.ntmps126
    go_wp2_with fail
    go_ret
    exact ⟨rfl, rfl⟩
  · have d0 : (n == 0) = false := by rw [beq_eq_false_iff_ne]; exact h0
    have d1 : (n != 0) = true := by simp [h0]
    by_cases h1 : n = 4294967295
    · subst h1
      simp at hb
      subst hb
      go_enter Try.func126, Try.ntmps126
      go_wp2_with fail
      go_ret
      exact ⟨rfl, rfl⟩
    · have e0 : (n == 4294967295) = false := by rw [beq_eq_false_iff_ne]; exact h1
      have e1 : (n != 4294967295) = true := by simp [h1]
      have HBb : Hid (b = (n / 268435456 != 14)) := by rw [Hid, hb, d1, e1]; rfl
      clear hb
      go_enter Try.func126, Try.ntmps126
      go_wp2_with fail
      go_ret
      exact ⟨by rw [HBb.out]; rfl, rfl⟩
/-- a type's flags -/
def flg (k : Int) : Int := if k = 4 then 128 else if k = 7 ∨ k = 8 then 192 else if 1 ≤ k ∧ k ≤ 6 then 64 else 0
set_option maxHeartbeats 1000000 in
theorem flags_any (k : Int) (w : World) : Calls Try.prog 116 #[.int .i64 k] w fun e w' => e = .returned (.int .i64 (flg k)) ∧ w = w' := by
  by_cases hk : 1 ≤ k ∧ k ≤ 8
  · have h : k = 1 ∨ k = 2 ∨ k = 3 ∨ k = 4 ∨ k = 5 ∨ k = 6 ∨ k = 7 ∨ k = 8 := by omega
    clear hk
    rcases h with rfl | rfl | rfl | rfl | rfl | rfl | rfl | rfl
    all_goals
      go_enter Try.func116, Try.ntmps116
      go_wp2_with fail
      go_ret
      exact ⟨rfl, rfl⟩
  · have hz : flg k = 0 := by unfold flg; rw [if_neg (by omega), if_neg (by omega), if_neg (by omega)]
    rw [hz]
    have d1 : (k == 1) = false := by rw [beq_eq_false_iff_ne]; omega
    have d2 : (k == 2) = false := by rw [beq_eq_false_iff_ne]; omega
    have d3 : (k == 3) = false := by rw [beq_eq_false_iff_ne]; omega
    have d4 : (k == 4) = false := by rw [beq_eq_false_iff_ne]; omega
    have d5 : (k == 5) = false := by rw [beq_eq_false_iff_ne]; omega
    have d6 : (k == 6) = false := by rw [beq_eq_false_iff_ne]; omega
    have d7 : (k == 7) = false := by rw [beq_eq_false_iff_ne]; omega
    have d8 : (k == 8) = false := by rw [beq_eq_false_iff_ne]; omega
    clear hz hk
    go_enter Try.func116, Try.ntmps116
    go_wp2_with fail
    go_ret
    exact ⟨rfl, rfl⟩
/-- a path may be told -/
def WaysS (l : List Sg) : Prop := GoodS l ∧ (allP l).length ≤ 2000
set_option maxRecDepth 100000 in
set_option maxHeartbeats 2000000 in
theorem ways_any (A : Option Addr) (c : Nat) (l : List Sg) (G : Foot) (w : World) (z : Bool) (hz : z = true ↔ WaysS l) (hl : nsz l ≤ 100000) (hs : Els 2 rSeg w G A l) :
    Calls Try.prog 127 #[.slice A l.length c] w fun e w' => e = .returned (.bool z) ∧ Below w.heap.size w w' := by
  have HS := Lib.hid hs
  have HZ := Lib.hid hz
  have hll := nsz_len l
  have HG : Hid (∀ (g : Bool) (w' : World), (g = true ↔ GoodS l) → Below w.heap.size w w' → Calls Try.prog 160 #[.slice A l.length c] w' fun e w2 => e = .returned (.bool g) ∧ Below w'.heap.size w' w2) := fun g w' hg hb => Good_any A c l G w' g hg hl (hs.bel keeps_seg hb)
  obtain ⟨g, hg⟩ : ∃ g : Bool, g = true ↔ GoodS l := by
    rcases Classical.em (GoodS l) with h | h
    · exact ⟨true, by simp [h]⟩
    · exact ⟨false, by simp [h]⟩
  have HGg := Lib.hid hg
  have hal := allP_sz l
  clear hs hz hg
  go_enter Try.func127, Try.ntmps127
  go_wp2_with fail
  go_loopw [3, 8] (fun v3 v8 wr => ∃ i n : Nat, i ≤ l.length ∧ v8 = .int .i64 i ∧ v3 = .int .i64 n ∧ n = (allP (l.take i)).length ∧ Below w.heap.size w wr) (fun _ v8 _ => l.length - (intOf v8).toNat)
  case atStart => exact ⟨0, 0, by omega, rfl, rfl, rfl, Below.refl _ _⟩
  case round =>
    obtain ⟨i, n, hi, rfl, rfl, hn, hb⟩ := hrel
    have HB := Lib.hid hb
    have HN := Lib.hid hn
    have hn1 := allP_sz (l.take i)
    have hn2 := nsz_take l i
    have hn3 : n ≤ 100000 := by omega
    clear hb hn hn1 hn2
    by_cases hlt : i < l.length
    · have hsz := nsz_at hlt
      obtain ⟨b, off, cs, rfl, _, hbl, hrr, hc⟩ := HS.out.at_ keeps_seg hlt
      obtain ⟨A1, c1, rfl, _, _, _, _, _, _⟩ := seg_at hrr
      have q0 := (HB.out.cell (p := ⟨b, off + i * 2 + 0, none⟩) hbl).trans (hc 0 _ rfl)
      have q1 := (HB.out.cell (p := ⟨b, off + i * 2 + 1, none⟩) hbl).trans (hc 1 _ rfl)
      rw [Nat.add_zero] at q0
      have hi1 : (i : Int) < (l.length : Int) := by omega
      have HBa : Hid (Below w.heap.size w (wr.alloc (.cells #[.int .i64 l[i].1, .slice A1 l[i].2.length c1] 122))) := HB.out.alloc HB.out.size _
      have HN2 : Hid (n + l[i].2.length = (allP (l.take (i + 1))).length) := by rw [Hid, allP_take hlt, List.length_append, HN.out]
      have hn4 : l[i].2.length ≤ 100000 := by omega
      clear hc hrr hbl hsz hal
      generalize l[i].1 = k1 at *
      generalize l[i].2.length = m at *
      go_wp2_with fail
      go_roundw
      case rel => exact ⟨i + 1, n + m, by omega, by go_num, by go_num, HN2.out, HBa.out⟩
      case measure => simp [intOf]; omega
    · obtain rfl : i = l.length := by omega
      rw [List.take_length] at HN
      have HGa := Lib.hid (HG.out g wr HGg.out HB.out)
      by_cases h2 : n ≤ 2000
      · have d2 : decide ((n : Int) ≤ 2000) = true := by rw [decide_eq_true_iff]; omega
        have HZg : Hid (z = g) := by
          rw [Hid, Bool.eq_iff_iff, HZ.out, HGg.out]
          exact ⟨fun h => h.1, fun h => ⟨h, by rw [← HN.out]; exact h2⟩⟩
        have hcs : g = true ∨ g = false := by cases g <;> simp
        rcases hcs with rfl | rfl
        all_goals
          go_wp2_with (go_at_call 160; refine HGa.out.mono ?_; rintro e w2 ⟨rfl, hb2⟩; have HB2 := Lib.hid (HB.out.trans (hb2.mono HB.out.size)); clear hb2)
          go_ret
          exact ⟨by rw [HZg.out]; rfl, HB2.out⟩
      · have d2 : decide ((n : Int) ≤ 2000) = false := by rw [decide_eq_false_iff_not]; omega
        have HZf : Hid (z = false) := by
          rw [Hid, ← Bool.not_eq_true, HZ.out]
          intro h
          have := h.2
          rw [← HN.out] at this
          omega
        have hcs : g = true ∨ g = false := by cases g <;> simp
        rcases hcs with rfl | rfl
        all_goals
          go_wp2_with (go_at_call 160; refine HGa.out.mono ?_; rintro e w2 ⟨rfl, hb2⟩; have HB2 := Lib.hid (HB.out.trans (hb2.mono HB.out.size)); clear hb2)
          go_ret
          exact ⟨by rw [HZf.out]; rfl, HB2.out⟩
end Go.Proofs.Ytafepficapdepaa.attr
