/- What nlri.Encode, confluenceref07's Good and confluencelaw07.lives return. Conditions as each lemma states. -/
import Derived.Test.YtbljhjfaimnieaaGreatNlriRef
import Derived.Test.YtbljhjfaimnieaaGreatOctLives
import Derived.Test.YtbljhjfaimnieaaGreatSlice
import Derived.Deep.DeepCutAuto
import Derived.Deep.RegionHeld3
namespace Go.Proofs.YtbljhjfaimnieaaGreat.nlri
open Go.RowKit Go.Proofs.YtbljhjfaimnieaaGreat.kit Go.Proofs.YtbljhjfaimnieaaGreat.mem Go.Proofs.YtbljhjfaimnieaaGreat.octet Go.Proofs.YtbljhjfaimnieaaGreat.pfx
set_option linter.unusedVariables false

/-- all prefixes are good -/
def goodL (l : List (Nat × Int)) : Bool := l.all fun p => goodB p.1 p.2
theorem goodL_iff (l : List (Nat × Int)) : goodL l = true ↔ ∀ p ∈ l, goodB p.1 p.2 = true := by simp [goodL]
theorem goodL_no (l : List (Nat × Int)) (k : Nat) (h : k < l.length) (hg : goodB l[k].1 l[k].2 = false) : goodL l = false := by
  rw [Bool.eq_false_iff, Ne, goodL_iff]
  intro h2
  have := h2 l[k] (List.getElem_mem h)
  rw [hg] at this
  cases this

theorem Good_any (A : Option Addr) (c B : Nat) (l : List (Nat × Int)) (w : World) (hl : l.length ≤ maxLen) (hB : B ≤ w.heap.size) (h : Ps w B A l) (hw : ∀ q ∈ l, q.1 < 4294967296) :
    Calls Tryz.prog 45 #[.slice A l.length c] w fun e w' => e = .returned (.bool (goodL l)) ∧ Below w.heap.size w w' := by
  have H := Lib.hid h
  have Hw := Lib.hid hw
  clear h hw
  unfold maxLen at hl
  go_enter Tryz.func45, Tryz.ntmps45
  go_wp2_with fail
  go_loopw [3] (fun i wr => ∃ k : Nat, k ≤ l.length ∧ i = .int .i64 k ∧ Below w.heap.size w wr ∧ ∀ p ∈ l.take k, goodB p.1 p.2 = true) (fun i _ => l.length - (intOf i).toNat)
  case atStart => exact ⟨0, by omega, rfl, Below.refl _ _, by simp⟩
  case round =>
    obtain ⟨k, hk, rfl, hb, hg⟩ := hrel
    have HB := Lib.hid hb
    have Hg := Lib.hid hg
    clear hb hg
    by_cases hlt : k < l.length
    · obtain ⟨b, off, rfl, hbl, c0, c1⟩ := Ps.at_ (Rd.below H.out (HB.out.mono hB) (Nat.le_refl _)) hlt
      have hki : (k : Int) < (l.length : Int) := by omega
      have HG := Lib.hid (ref_Good l[k].1 l[k].2 (Hw.out _ (List.getElem_mem hlt)) wr)
      have Hno := Lib.hid (goodL_no l k hlt)
      have Hyes : Hid (goodB l[k].1 l[k].2 = true → ∀ p ∈ l.take (k + 1), goodB p.1 p.2 = true) := by
        intro h p hp
        rw [List.take_succ_eq_append_getElem hlt, List.mem_append] at hp
        rcases hp with hp | hp
        · exact Hg.out p hp
        · simp at hp; subst hp; exact h
      generalize l[k] = p at *
      rcases hgb : goodB p.1 p.2 with _ | _
      · rw [hgb] at HG
        have HE := Lib.hid (Hno.out hgb)
        clear hgb Hno Hyes
        go_wp2_with (go_at_call 34; refine (HG.out).mono ?_; rintro e w2 ⟨rfl, hb2⟩; have HB2 := Lib.hid (HB.out.trans (hb2.mono HB.out.size)); clear hb2)
        go_ret
        exact ⟨ret_bool HE.out.symm, HB2.out⟩
      · rw [hgb] at HG
        have HE := Lib.hid (Hyes.out hgb)
        clear hgb Hno Hyes
        go_wp2_with (go_at_call 34; refine (HG.out).mono ?_; rintro e w2 ⟨rfl, hb2⟩; have HB2 := Lib.hid (HB.out.trans (hb2.mono HB.out.size)); clear hb2)
        go_roundw
        case rel => exact ⟨k + 1, by omega, by go_num, HB2.out, HE.out⟩
        case measure => simp [intOf]; omega
    · obtain rfl : k = l.length := by omega
      have HE : Hid (goodL l = true) := by
        rw [Hid, goodL_iff]
        have := Hg.out
        rw [List.take_length] at this
        exact this
      go_wp2_with fail
      go_ret
      exact ⟨ret_bool HE.out.symm, HB.out⟩

end Go.Proofs.YtbljhjfaimnieaaGreat.nlri
