/- What nlri.Sort returns: the good prefixes, each once, in order. Condition: at most 10^9 prefixes. -/
import Derived.Test.YtbljhjfaimnieaaGreatSortSort
import Derived.Test.YtbljhjfaimnieaaGreatSortDel
import Derived.Test.YtbljhjfaimnieaaGreatSortCompact
import Derived.Shelf.SlSortCmp.NoneTotal
namespace Go.Proofs.YtbljhjfaimnieaaGreat.srt
open Go.RowKit Go.Proofs.YtbljhjfaimnieaaGreat.kit Go.Proofs.YtbljhjfaimnieaaGreat.pfx Go.Proofs.YtbljhjfaimnieaaGreat.mem Go.Proofs.YtbljhjfaimnieaaGreat.foot
set_option linter.unusedVariables false
set_option linter.unusedSimpArgs false

theorem SortFunc_none (c : Nat) (w : World) : Calls Tryz.prog 67 #[.slice none 0 c, .func (.func 68) #[] #[]] w fun e w' => e = .returned (.tuple #[]) ∧ w' = w := by
  have h := AnyF.slices_SortFunc_none Tryz.sortPf none c (.func (.func 68) #[] #[]) w
  change Calls Tryz.prog 67 _ _ _ at h
  exact h
theorem SortFunc_any {A : Option Addr} {n c : Nat} (l : List Pf) (w : World) (hn : n ≤ 1000000000) (hg : ∀ x ∈ l, gdP x = true) (h : foot.Own w 56 2 A n c (fv l)) :
    Calls Tryz.prog 67 #[.slice A n c, .func (.func 68) #[] #[]] w fun e w' => e = .returned (.tuple #[]) ∧ ∃ l', l'.Perm l ∧ l'.Pairwise ple ∧ foot.Own w' 56 2 A n c (fv l') ∧ Chg (sf A) w w' := by
  rcases h.2 with ⟨rfl, rfl, rfl⟩ | ⟨g, off, cur, rfl, _⟩
  · have hl := own_len h
    have hl0 : l = [] := List.length_eq_zero_iff.1 hl
    subst hl0
    refine (SortFunc_none 0 w).mono ?_
    rintro e w' ⟨rfl, rfl⟩
    exact ⟨rfl, [], List.Perm.refl _, List.Pairwise.nil, h, Chg.refl _ _⟩
  · exact SortFunc_own l w hn hg h

theorem enters_Sort1 : ∀ args w, (callFunc 66 args).run Tryz.prog w = .ok (.enter 66 args) w := enters_of Tryz.func66 (by kernel_rfl) rfl
theorem Sort1_any (x : Pf) (hx : x.1 < 4294967296) (w : World) : Calls Tryz.prog 66 (#[.agg #[.int .u32 (x.1 : Int), .int .i64 x.2]] ++ #[]) w fun e w' => e = .returned (.bool (!goodB x.1 x.2)) ∧ Below w.heap.size w w' := by
  have HG := Lib.hid (good_any x.1 x.2 hx)
  have HB : Hid (Below w.heap.size w (w.alloc (.cells #[.int .u32 (x.1 : Int), .int .i64 x.2] 56))) := (Below.refl _ _).alloc (Nat.le_refl _) _
  show Calls _ _ #[.agg #[.int .u32 (x.1 : Int), .int .i64 x.2]] _ _
  go_enter Tryz.func66, Tryz.ntmps66
  go_wp2_with fail
  refine (HG.out _).mono ?_; rintro e w1 ⟨rfl, hb⟩
  have HB1 := Lib.hid (HB.out.trans (hb.mono (by simp)))
  clear hb
  go_wp2_with fail
  go_ret
  exact ⟨rfl, HB1.out⟩

theorem Sort_any {G : Foot} (A : Option Addr) (n c : Nat) (l : List Pf) (w : World) (hn : n ≤ 1000000000) (hA : A = none → c = 0) (hl : l.length = n) (hw : ∀ x ∈ l, x.1 < 4294967296) (h : Rg w G 2 A n (fv l)) :
    Calls Tryz.prog 36 #[.slice A n c] w fun e w' => ∃ A' c' s, e = .returned (.slice A' s.length c') ∧ IsSort gdP l s ∧ foot.Own w' 56 2 A' s.length c' (fv s) ∧ (∀ k, sf A' k → w.heap.size ≤ k) ∧ Below w.heap.size w w' := by
  have HCl := Lib.hid (Clone_any A n c l w hn hA hl h)
  have HL := Lib.hid (And.intro hl hw)
  clear h hA hl hw
  go_enter Tryz.func36, Tryz.ntmps36
  go_wp2_with fail
  refine HCl.out.mono ?_; rintro e w1 ⟨A1, c1, rfl, ho1, hlo1, hb1⟩
  have HD := Lib.hid (DeleteFunc_any (fun x => !goodB x.1 x.2) 66 #[] enters_Sort1 hn ho1 fun x hx w' _ => Sort1_any x (HL.out.2 x hx) w')
  have H1 := Lib.hid (And.intro hlo1 hb1)
  clear ho1 hlo1 hb1 HCl
  go_wp2_with fail
  refine HD.out.mono ?_; rintro e w2 ⟨rfl, ho2, hc2⟩
  obtain ⟨f, hf⟩ : ∃ f, f = l.filter fun x => !!goodB x.1 x.2 := ⟨_, rfl⟩
  rw [← hf] at ho2 ⊢
  have hfg : f = l.filter gdP := by
    rw [hf]
    refine List.filter_congr fun x hx => ?_
    have := HL.out.2 x hx
    simp [gdP, this]
  have hfl : f.length ≤ n := by rw [hfg, ← HL.out.1]; exact List.length_filter_le _ _
  have hfm : ∀ x ∈ f, gdP x = true := fun x hx => by rw [hfg] at hx; exact (List.mem_filter.1 hx).2
  have HSo := Lib.hid (SortFunc_any f w2 (Nat.le_trans hfl hn) hfm ho2)
  have H2 := Lib.hid (And.intro hfg hc2)
  have HFl : Hid (f.length ≤ 1000000000) := Nat.le_trans hfl hn
  obtain ⟨m, hm⟩ : ∃ m, m = f.length := ⟨_, rfl⟩
  rw [← hm] at HSo ⊢
  have HM := Lib.hid hm
  clear hf hfg hc2 ho2 hfl hfm hm HD
  go_wp2_with fail
  refine HSo.out.mono ?_; rintro e w3 ⟨rfl, d, hp, hs, ho3, hc3⟩
  have HCo := Lib.hid (Compact_any (by rw [HM.out]; exact HFl.out) ho3)
  have HIs := Lib.hid (IsSort.of (l := l) (g := gdP) (by rw [← H2.out.1]; exact hp) hs)
  have H3 := Lib.hid hc3
  clear hp hs ho3 hc3 HSo
  go_wp2_with fail
  refine HCo.out.mono ?_; rintro e w4 ⟨rfl, ho4, hc4⟩
  obtain ⟨s, hsd⟩ : ∃ s, s = once d := ⟨_, rfl⟩
  rw [← hsd] at HIs ho4 ⊢
  have H4 := Lib.hid (And.intro ho4 hc4)
  clear hsd ho4 hc4 HCo
  go_wp2_with fail
  go_ret
  obtain ⟨ho4, hc4⟩ := H4.out
  have hc : Chg (sf A1) w1 w4 := (H2.out.2.trans H3.out fun _ _ e => e).trans hc4 fun _ _ e => e
  exact ⟨A1, c1, s, rfl, HIs.out, ho4, H1.out.1, H1.out.2.trans (hc.below H1.out.1 H1.out.2.size)⟩
end Go.Proofs.YtbljhjfaimnieaaGreat.srt
