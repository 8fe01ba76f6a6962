/- What slices.IndexFunc and slices.DeleteFunc do to rows of prefixes, whatever function is handed in that only lays blocks. Conditions as each lemma states. -/
import Derived.Test.YtbljhjfaimnieaaGreatSortCompact
import Derived.Shelf.Abstract
namespace Go.Proofs.YtbljhjfaimnieaaGreat.srt
open Go.RowKit Go.Proofs.YtbljhjfaimnieaaGreat.kit Go.Proofs.YtbljhjfaimnieaaGreat.pfx Go.Proofs.YtbljhjfaimnieaaGreat.mem Go.Proofs.YtbljhjfaimnieaaGreat.foot
set_option linter.unusedVariables false
set_option linter.unusedSimpArgs false

/-- where the first one stands -/
def FirstAt (p : Pf → Bool) (l : List Pf) (k : Nat) : Prop := k ≤ l.length ∧ (∀ j x, j < k → l[j]? = some x → p x = false) ∧ ∀ x, l[k]? = some x → p x = true
theorem FirstAt.take {p : Pf → Bool} {l : List Pf} {k : Nat} (h : FirstAt p l k) : (l.take k).filter (fun x => !p x) = l.take k := by
  refine List.filter_eq_self.2 fun x hx => ?_
  obtain ⟨j, hj, e⟩ := List.getElem_of_mem hx
  have hj' : j < k := by simp at hj; omega
  rw [h.2.1 j x hj' (by rw [← e, List.getElem_take, ← List.getElem?_eq_getElem])]
  rfl

set_option maxHeartbeats 1000000 in
theorem IndexFunc_any {A : Option Addr} {n c : Nat} {l : List Pf} {w : World} (p : Pf → Bool) (g : Nat) (lb : Array Value) (eg : ∀ args w, (callFunc g args).run Tryz.prog w = .ok (.enter g args) w) (hn : n ≤ 1000000000)
    (ho : foot.Own w 56 2 A n c (fv l)) (hcall : ∀ x ∈ l, ∀ w', Chg (sf A) w w' → Calls Tryz.prog g (#[.agg #[.int .u32 (x.1 : Int), .int .i64 x.2]] ++ lb) w' fun e w'' => e = .returned (.bool (p x)) ∧ Below w'.heap.size w' w'') :
    Calls Tryz.prog 86 #[.slice A n c, .func (.func g) #[] lb] w fun e w' => ∃ k, FirstAt p l k ∧ e = .returned (.int .i64 (if k = l.length then -1 else (k : Int))) ∧ Below w.heap.size w w' := by
  have hl := own_len ho
  have HO := Lib.hid ho
  have HC := Lib.hid hcall
  have HL := Lib.hid hl
  clear ho hcall hl
  go_enter Tryz.func86, Tryz.ntmps86
  go_wp2_with fail
  go_loopw [5, 8] (fun _ v8 wr => ∃ k : Nat, k ≤ n ∧ v8 = .int .i64 k ∧ (∀ j x, j < k → l[j]? = some x → p x = false) ∧ Below w.heap.size w wr) (fun _ v8 _ => n - (intOf v8).toNat)
  case atStart => exact ⟨0, Nat.zero_le _, rfl, fun j x hj => absurd hj (Nat.not_lt_zero _), Below.refl _ _⟩
  case round =>
    obtain ⟨k, hk, rfl, hp, hb⟩ := hrel
    have HP := Lib.hid hp
    have HB := Lib.hid hb
    clear hp hb
    by_cases hlt : k < n
    · obtain ⟨x, hx⟩ : ∃ x, l[k]? = some x := ⟨l[k]'(by have := HL.out; omega), List.getElem?_eq_getElem _⟩
      obtain ⟨b, off, rfl⟩ : ∃ b off, A = some ⟨b, off, none⟩ := by
        obtain ⟨b, off, e, _⟩ := HO.out.rg.2 (by omega)
        exact ⟨b, off, e⟩
      have hcell := own_cells (HO.out.bel HB.out) k x hx
      have k0 := hcell.1
      have k1 := hcell.2
      have hcl := HC.out x (List.mem_of_getElem? hx)
      have HX := Lib.hid hx
      rcases hq : p x with _ | _
      · rw [hq] at hcl
        have HCl := Lib.hid (fun w' hw => hcl w' hw)
        have HQ := Lib.hid hq
        clear hcl hcell hx hq HC
        go_wp2_with (go_at_fn g; refine (HCl.out _ (Chg.of_below HB.out _)).mono ?_; rintro e w' ⟨rfl, hb2⟩; have HB2 := Lib.hid (HB.out.trans (hb2.mono HB.out.size)); clear hb2)
        go_roundw
        case rel =>
          refine ⟨k + 1, by omega, by go_num, fun j y hj hy => ?_, HB2.out⟩
          rcases Nat.lt_or_ge j k with h | h
          · exact HP.out j y h hy
          · obtain rfl : j = k := by omega
            rw [HX.out] at hy
            cases hy
            exact HQ.out
        case measure => simp [intOf]; omega
      · rw [hq] at hcl
        have HCl := Lib.hid (fun w' hw => hcl w' hw)
        have HQ := Lib.hid hq
        clear hcl hcell hx hq HC
        go_wp2_with (go_at_fn g; refine (HCl.out _ (Chg.of_below HB.out _)).mono ?_; rintro e w' ⟨rfl, hb2⟩; have HB2 := Lib.hid (HB.out.trans (hb2.mono HB.out.size)); clear hb2)
        go_ret
        refine ⟨k, ⟨by have := HL.out; omega, HP.out, fun y hy => ?_⟩, ?_, HB2.out⟩
        · rw [HX.out] at hy; cases hy; exact HQ.out
        · rw [if_neg (by have := HL.out; omega)]; rfl
    · obtain rfl : k = n := by omega
      go_wp2_with fail
      go_ret
      refine ⟨k, ⟨by have := HL.out; omega, HP.out, fun y hy => ?_⟩, ?_, HB.out⟩
      · have := (List.getElem?_eq_some_iff.1 hy).1
        have := HL.out
        omega
      · rw [if_pos HL.out.symm]; rfl

/-- the rows while they are struck -/
structure DI (p : Pf → Bool) (l : List Pf) (i j : Nat) (r : List Pf) : Prop where
  lt : i < j
  front : r.take i = (l.take j).filter fun x => !p x
  back : ∀ t, j ≤ t → r[t]? = l[t]?
theorem DI.start {p : Pf → Bool} {l : List Pf} {k : Nat} (h : FirstAt p l k) (hk : k < l.length) : DI p l k (k + 1) l := by
  obtain ⟨x, hx⟩ : ∃ x, l[k]? = some x := ⟨l[k], List.getElem?_eq_getElem hk⟩
  refine ⟨by omega, ?_, fun _ _ => rfl⟩
  rw [List.take_add_one, List.filter_append, h.take, hx]
  simp [h.2.2 x hx]
theorem DI.keep {p : Pf → Bool} {l r : List Pf} {i j : Nat} {x : Pf} (h : DI p l i j r) (hx : l[j]? = some x) (hp : p x = false) (hr : r.length = l.length) : DI p l (i + 1) (j + 1) (r.set i x) := by
  have hj := (List.getElem?_eq_some_iff.1 hx).1
  have hlt := h.lt
  refine ⟨by omega, ?_, fun t ht => ?_⟩
  · rw [List.take_add_one, List.take_add_one (l := l), List.filter_append, ← h.front, List.take_set_of_le (Nat.le_refl i), hx]
    simp [hp, List.getElem?_set]
    omega
  · rw [List.getElem?_set_ne (by omega)]
    exact h.back t (by omega)
theorem DI.skip {p : Pf → Bool} {l r : List Pf} {i j : Nat} {x : Pf} (h : DI p l i j r) (hx : l[j]? = some x) (hp : p x = true) : DI p l i (j + 1) r := by
  have hlt := h.lt
  refine ⟨by omega, ?_, fun t ht => h.back t (by omega)⟩
  rw [List.take_add_one (l := l), List.filter_append, ← h.front, hx]
  simp [hp]

set_option maxHeartbeats 2000000 in
theorem DeleteFunc_any {A : Option Addr} {n c : Nat} {l : List Pf} {w : World} (p : Pf → Bool) (g : Nat) (lb : Array Value) (eg : ∀ args w, (callFunc g args).run Tryz.prog w = .ok (.enter g args) w) (hn : n ≤ 1000000000)
    (ho : foot.Own w 56 2 A n c (fv l)) (hcall : ∀ x ∈ l, ∀ w', Chg (sf A) w w' → Calls Tryz.prog g (#[.agg #[.int .u32 (x.1 : Int), .int .i64 x.2]] ++ lb) w' fun e w'' => e = .returned (.bool (p x)) ∧ Below w'.heap.size w' w'') :
    Calls Tryz.prog 61 #[.slice A n c, .func (.func g) #[] lb] w fun e w' => e = .returned (.slice A (l.filter fun x => !p x).length c) ∧ foot.Own w' 56 2 A (l.filter fun x => !p x).length c (fv (l.filter fun x => !p x)) ∧ Chg (sf A) w w' := by
  have hl := own_len ho
  have HI := Lib.hid (IndexFunc_any p g lb eg hn ho hcall)
  have HO := Lib.hid ho
  have HC := Lib.hid hcall
  have HL := Lib.hid hl
  clear ho hcall hl
  go_enter Tryz.func61, Tryz.ntmps61
  go_wp2_with fail
  refine HI.out.mono ?_
  rintro e w1 ⟨k, hf, rfl, hb1⟩
  have HF := Lib.hid hf
  have HB1 := Lib.hid hb1
  clear hf hb1 HI
  by_cases hk : k = l.length
  · rw [if_pos hk]
    go_wp2_with fail
    go_ret
    have e1 : (l.filter fun x => !p x) = l := by have := HF.out.take; rwa [hk, List.take_length] at this
    rw [e1]
    exact ⟨by rw [HL.out]; rfl, by rw [HL.out]; exact HO.out.bel HB1.out, Chg.of_below HB1.out _⟩
  · rw [if_neg hk]
    have hkl : k < n := by have := HF.out.1; have := HL.out; omega
    have e1 : ((k : Int) == -1) = false := by rw [beq_eq_false_iff_ne]; omega
    obtain ⟨b, off, rfl⟩ : ∃ b off, A = some ⟨b, off, none⟩ := by
      obtain ⟨b, off, e, _⟩ := HO.out.rg.2 (by omega)
      exact ⟨b, off, e⟩
    have HK := Lib.hid hk
    clear hk
    go_wp2_with fail
    go_loopw [5, 6, 7] (fun v5 v6 _ wr => ∃ (i j : Nat) (r : List Pf), j ≤ n ∧ v5 = .int .i64 i ∧ v6 = .int .i64 j ∧ DI p l i j r ∧ foot.Own wr 56 2 (some ⟨b, off, none⟩) n c (fv r) ∧ Chg (sf (some ⟨b, off, none⟩)) w wr) (fun _ v6 _ _ => n - (intOf v6).toNat)
    case atStart => exact ⟨k, k + 1, l, by omega, rfl, by go_num, DI.start HF.out (by have := HL.out; omega), HO.out.bel HB1.out, Chg.of_below HB1.out _⟩
    case round =>
      obtain ⟨i, j, r, hj, rfl, rfl, hd, ho, hc⟩ := hrel
      have hij := hd.lt
      have HD := Lib.hid hd
      have HOr := Lib.hid ho
      have HCr := Lib.hid hc
      have hrl := own_len ho
      have HRl := Lib.hid hrl
      clear hd ho hc hrl
      by_cases hlt : j < n
      · obtain ⟨x, hx⟩ : ∃ x, l[j]? = some x := ⟨l[j]'(by have := HL.out; omega), List.getElem?_eq_getElem _⟩
        have hrx : r[j]? = some x := by rw [HD.out.back j (Nat.le_refl _)]; exact hx
        have hcell := own_cells HOr.out j x hrx
        have k0 := hcell.1
        have k1 := hcell.2
        have HX := Lib.hid hx
        have hcl := HC.out x (List.mem_of_getElem? hx)
        have HBa : Hid (Below wr.heap.size wr (wr.alloc (.cells #[.int .u32 (x.1 : Int), .int .i64 x.2] 56))) := (Below.refl _ _).alloc (Nat.le_refl _) _
        have HKa : Hid (Bk (wr.alloc (.cells #[.int .u32 (x.1 : Int), .int .i64 x.2] 56)) wr.heap.size 56 #[.int .u32 (x.1 : Int), .int .i64 x.2]) := Bk.new wr _ _
        rcases hq : p x with _ | _
        · rw [hq] at hcl
          have HCl := Lib.hid (fun w' hw => hcl w' hw)
          have HQ := Lib.hid hq
          clear hcl hcell hx hq hrx
          go_wp2_with (go_at_fn g; refine (HCl.out _ (HCr.out.trans (Chg.of_below HBa.out _) fun _ _ e => e)).mono ?_; rintro e w2 ⟨rfl, hb2⟩; have hbb := HBa.out.trans (hb2.mono (by simp)); have hk2 := HKa.out.below hb2 (by simp); have ho2 := HOr.out.bel hbb; have HO2 := Lib.hid ho2; have HC2 := Lib.hid (HCr.out.trans (Chg.of_below hbb _) fun _ _ e => e); clear k0 k1; have ka := fun t => hk2.cell t; have kl := hk2.lt; have q0 := (own_cells ho2 i (r[i]'(by have := HRl.out; omega)) (List.getElem?_eq_getElem _)).1; have q1 := (own_cells ho2 i (r[i]'(by have := HRl.out; omega)) (List.getElem?_eq_getElem _)).2; have qf := fun t => ho2.free t; have ql := own_lt ho2; clear hb2 hbb hk2 ho2)
          go_roundw
          case rel =>
            refine ⟨i + 1, j + 1, r.set i x, by omega, by go_num, by go_num, HD.out.keep HX.out HQ.out (by rw [HRl.out, HL.out]), own_set HO2.out i (by have := HRl.out; omega) x, ?_⟩
            exact (HC2.out.put (p := ⟨b, off + i * 2, none⟩) (.inl ⟨_, rfl, rfl⟩) _).put (p := ⟨b, off + i * 2 + 1, none⟩) (.inl ⟨_, rfl, rfl⟩) _
          case measure => simp [intOf]; omega
        · rw [hq] at hcl
          have HCl := Lib.hid (fun w' hw => hcl w' hw)
          have HQ := Lib.hid hq
          clear hcl hcell hx hq hrx
          go_wp2_with (go_at_fn g; refine (HCl.out _ (HCr.out.trans (Chg.of_below HBa.out _) fun _ _ e => e)).mono ?_; rintro e w2 ⟨rfl, hb2⟩; have hbb := HBa.out.trans (hb2.mono (by simp)); have HO2 := Lib.hid (HOr.out.bel hbb); have HC2 := Lib.hid (HCr.out.trans (Chg.of_below hbb _) fun _ _ e => e); clear hb2 hbb k0 k1)
          go_roundw
          case rel => exact ⟨i, j + 1, r, by omega, rfl, by go_num, HD.out.skip HX.out HQ.out, HO2.out, HC2.out⟩
          case measure => simp [intOf]; omega
      · obtain rfl : j = n := by omega
        have hcap := HOr.out.cap
        obtain ⟨w9, hrun, ho9, hc9⟩ : ∃ w9, (∀ ty, (Builtin.clear_ #[38] ty #[.slice (some ⟨b, off + i * 2, none⟩) (j - i) (c - i)]).run Tryz.prog wr = .ok (.tuple #[]) w9) ∧ foot.Own w9 56 2 (some ⟨b, off, none⟩) i c (fv (r.take i)) ∧ Chg (fun k => k = b) wr w9 := run_clear2 HOr.out i hij (j - i) (c - i) (by omega)
        have H9 := Lib.hid (And.intro ho9 hc9)
        clear ho9 hc9
        go_wp2_with fail
        go_ret
        have e2 : r.take i = l.filter fun x => !p x := by
          have h := HD.out.front
          rwa [List.take_of_length_le (l := l) (by have := HL.out; omega)] at h
        have e3 : (l.filter fun x => !p x).length = i := by rw [← e2, List.length_take]; have := HRl.out; omega
        obtain ⟨ho9, hc9⟩ := H9.out
        rw [e2] at ho9
        rw [e3]
        exact ⟨rfl, ho9, HCr.out.trans hc9 fun _ _ e => ⟨_, rfl, e.symm⟩⟩
end Go.Proofs.YtbljhjfaimnieaaGreat.srt
