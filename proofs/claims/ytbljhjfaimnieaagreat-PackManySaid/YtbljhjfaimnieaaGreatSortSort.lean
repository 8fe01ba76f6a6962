/- What slices.SortFunc by prefix.Cmp leaves in a row of good prefixes of the call's own. Condition: at most 10^9 elements. -/
import Derived.Test.YtbljhjfaimnieaaGreatSortCompact
import Derived.Test.YtbljhjfaimnieaaGreatShSortPf
namespace Go.Proofs.YtbljhjfaimnieaaGreat.srt
open Go.Sort (SWO PermIn SortedIn HoldsK flatK)
open Go.RowKit Go.Proofs.YtbljhjfaimnieaaGreat.kit Go.Proofs.YtbljhjfaimnieaaGreat.pfx Go.Proofs.YtbljhjfaimnieaaGreat.mem Go.Proofs.YtbljhjfaimnieaaGreat.foot
set_option linter.unusedVariables false
set_option linter.unusedSimpArgs false

def gdP (x : Pf) : Bool := decide (x.1 < 4294967296) && goodB x.1 x.2
abbrev Gp := {x : Pf // gdP x = true}
instance : Inhabited Gp := ⟨⟨(0, 0), by unfold gdP; rw [Bool.and_eq_true]; exact ⟨by decide, (goodB_iff 0 0).2 (by simp)⟩⟩⟩
def encP (x : Gp) : List Value := [.int .u32 (x.1.1 : Int), .int .i64 x.1.2]
def cmpP (x y : Gp) : Int := pcmp x.1 y.1
theorem ltP (x y : Gp) : ltOf cmpP x y = decide (plt x.1 y.1) := by
  unfold ltOf cmpP
  rw [Bool.eq_iff_iff]
  simp only [decide_eq_true_eq]
  exact pcmp_lt _ _
theorem swoP : SWO (ltOf cmpP) where
  irrefl x := by rw [ltP]; simp [plt_irrefl]
  trans x y z h1 h2 := by
    rw [ltP] at *
    simp only [decide_eq_true_eq] at *
    exact plt_trans h1 h2
  ntrans x y z h1 h2 := by
    rw [ltP] at *
    simp only [decide_eq_false_iff_not] at *
    unfold plt at *
    omega

theorem gdP_iff (x : Pf) : gdP x = true ↔ x.1 < 4294967296 ∧ goodB x.1 x.2 = true := by simp [gdP]
theorem enters_Cmp : ∀ args w, (callFunc 68 args).run Tryz.prog w = .ok (.enter 68 args) w := enters_of Tryz.func68 (by kernel_rfl) rfl
theorem cmpLays (blk off size : Nat) (w : World) : CmpLays Tryz.prog 68 #[] encP 2 cmpP blk off size w := fun _ _ _ _ x y => by
  have hx := (gdP_iff x.1).1 x.2
  have hy := (gdP_iff y.1).1 y.2
  exact Cmp_gr x.1 y.1 hx.1 hy.1 hx.2 hy.2 _

/-- the flat row is the prefixes' cells -/
theorem flat_fv (d : Array Gp) : (flatK encP 2 d).toList = fv (d.toList.map (·.1)) := by
  apply List.ext_getElem?
  intro t
  rcases Nat.lt_or_ge t (d.size * 2) with h | h
  · have hk : t / 2 < d.size := by omega
    obtain ⟨x, hx⟩ : ∃ x, d[t / 2]? = some x := ⟨d[t / 2], Array.getElem?_eq_getElem hk⟩
    have h1 := fv_at (d.toList.map (·.1)) (t / 2) x.1 (by simp [hx])
    have h2 : (flatK encP 2 d).toList[t]? = some ((encP x)[t % 2]!) := by
      have hg := Go.Sort.get_flatK encP 2 d t h
      rw [getElem!_pos (flatK encP 2 d) t (by simpa using h)] at hg
      rw [Array.getElem?_toList, Array.getElem?_eq_getElem (by simpa using h), hg]
      have : d[t / 2]! = x := by rw [getElem!_pos d (t / 2) hk]; rw [Array.getElem?_eq_getElem hk] at hx; exact Option.some.inj hx
      rw [this]
    rw [h2]
    rcases (show t % 2 = 0 ∨ t % 2 = 1 from by omega) with e | e
    · rw [e]
      have e2 : t / 2 * 2 = t := by omega
      rw [e2] at h1
      rw [h1.1]
      rfl
    · rw [e]
      have e2 : t / 2 * 2 + 1 = t := by omega
      rw [e2] at h1
      rw [h1.2]
      rfl
  · rw [List.getElem?_eq_none (by simpa using h), List.getElem?_eq_none (by rw [fv_len]; simpa using h)]

theorem SortFunc_own {g off n c : Nat} (l : List Pf) (w : World) (hn : n ≤ 1000000000) (hg : ∀ x ∈ l, gdP x = true) (h : foot.Own w 56 2 (some ⟨g, off, none⟩) n c (fv l)) :
    Calls Tryz.prog 67 #[.slice (some ⟨g, off, none⟩) n c, .func (.func 68) #[] #[]] w fun e w' => e = .returned (.tuple #[]) ∧ ∃ l', l'.Perm l ∧ l'.Pairwise ple ∧ foot.Own w' 56 2 (some ⟨g, off, none⟩) n c (fv l') ∧ Chg (sf (some ⟨g, off, none⟩)) w w' := by
  have hl := own_len h
  obtain ⟨d, hd⟩ : ∃ d : Array Gp, d.toList.map (·.1) = l := ⟨(l.pmap (fun x h => (⟨x, h⟩ : Gp)) hg).toArray, by simp [List.map_pmap]⟩
  have hds : d.size = n := by rw [← hl, ← hd]; simp
  have hlt := own_lt h
  have hH : HoldsK encP 2 w g off d := by
    intro j hj
    have hj' : j < d.size * 2 := by simpa using hj
    refine ⟨?_, by rw [h.free]⟩
    obtain ⟨b, o, e, _, _, hc⟩ := h.rg.2 (by omega)
    cases e
    have e1 : (fv l)[j]? = some ((flatK encP 2 d)[j]!) := by
      rw [← hd, ← flat_fv, Array.getElem?_toList, Array.getElem?_eq_getElem hj, getElem!_pos (flatK encP 2 d) j hj]
    exact hc j _ e1
  have hcon := AnyQ.slices_SortFunc Tryz.sortPf 2 Tryz.isAgg56 Tryz.sizeOf56 encP (fun _ => rfl) (fun x v hv => by simp [encP] at hv; rcases hv with rfl | rfl <;> rfl) cmpP swoP 68 #[] g off c d w enters_Cmp (cmpLays g off d.size w) hH hlt (by omega)
  rw [hds] at hcon
  change Calls Tryz.prog 67 _ _ _ at hcon
  refine hcon.mono ?_
  rintro e w' ⟨rfl, d', m, os, hp, hs, rfl⟩
  refine ⟨rfl, d'.toList.map (·.1), ?_, ?_, ?_, ?_⟩
  · have h3 := hp.2.2
    rw [← hds] at h3
    have e1 : d'.extract 0 d.size = d' := by rw [← hp.1]; exact Array.extract_size
    have e2 : d.extract 0 d.size = d := Array.extract_size
    rw [e1, e2] at h3
    rw [← hd]
    exact h3.map _
  · rw [List.pairwise_map, List.pairwise_iff_getElem]
    intro i j hi hj hij
    have hj' : j < d'.size := by simpa using hj
    have hi' : i < d'.size := by simpa using hi
    have := hs i j (Nat.zero_le _) hij (by rw [← hds, ← hp.1]; exact hj')
    rw [ltP, decide_eq_false_iff_not, getElem!_pos d' j hj', getElem!_pos d' i hi'] at this
    simpa [ple] using this
  · rcases h.2 with ⟨h0, _⟩ | ⟨g', off', cur, h0, hb, h1, h2, h3, h4⟩
    · cases h0
    · cases h0
      have hds' : d'.size = n := by rw [hp.1, hds]
      refine ⟨by rw [fv_len]; simp [hds'], .inr ⟨g, off, Go.Sort.putCells id off (flatK encP 2 d') cur, rfl, ?_, h1, h2, by simpa [Go.Sort.putCells] using h3, fun j u hu => ?_⟩⟩
      · unfold Bk at hb ⊢
        simp only [sortWorldK, Go.Sort.grow, Go.Sort.putRowK, Go.Sort.putRow, Go.Sort.mapBlock, Go.Sort.ahead]
        rw [Array.getElem?_append_left (by simpa using hlt), Array.getElem?_modify, hb]
        simp [Go.Sort.onCells]
      · rw [← flat_fv] at hu
        have hj : j < (flatK encP 2 d').size := by
          have := (List.getElem?_eq_some_iff.1 hu).1
          simpa using this
        have hj2 : j < n * 2 := by rw [← hds']; simpa using hj
        rw [Array.getElem?_toList, Array.getElem?_eq_getElem hj] at hu
        have hu' := Option.some.inj hu
        subst hu'
        have hcur : off + j < cur.size := by omega
        simp only [Go.Sort.putCells, Array.getElem?_mapIdx]
        rw [Array.getElem?_eq_getElem hcur]
        have : off ≤ off + j ∧ off + j < off + (flatK encP 2 d').size := by omega
        simp only [Option.map_some, if_pos this, id, Nat.add_sub_cancel_left]
        rw [getElem!_pos (flatK encP 2 d') j hj]
  · refine ⟨rfl, rfl, rfl, by simp [sortWorldK, Go.Sort.grow, Go.Sort.putRowK, Go.Sort.putRow, Go.Sort.mapBlock, Go.Sort.ahead], fun k hk hf => ?_⟩
    rw [sf_some] at hf
    simp only [sortWorldK, Go.Sort.grow, Go.Sort.putRowK, Go.Sort.putRow, Go.Sort.mapBlock, Go.Sort.ahead]
    rw [Array.getElem?_append_left (by simpa using hk), Array.getElem?_modify]
    simp [hf]
end Go.Proofs.YtbljhjfaimnieaaGreat.srt
