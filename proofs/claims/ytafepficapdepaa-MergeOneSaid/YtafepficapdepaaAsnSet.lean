/- slices.Clone, slices.Compact, slices.Equal of numbers of 32 bits, and asn.Set: the set of any numbers, in new memory. Conditions as each lemma states. -/
import Derived.Test.YtafepficapdepaaSuSort
import Derived.Test.YtafepficapdepaaShU32
import Derived.Test.YtafepficapdepaaAsnMath
namespace Go.Proofs.Ytafepficapdepaa.nums
open Go.RowKit Go.Proofs.Ytafepficapdepaa.kit Go.Proofs.Ytafepficapdepaa.mem Go.Proofs.Ytafepficapdepaa.foot Go.Proofs.Ytafepficapdepaa.su Go.Proofs.Ytafepficapdepaa.asn
set_option linter.unusedVariables false
set_option linter.unusedSimpArgs false
/-- numbers as integers -/
abbrev zs (l : List Nat) : List Int := l.map fun n : Nat => (n : Int)
theorem own_put {w : World} {g off n c : Nat} {l s : List Nat} (h : Own w 22 1 (some ⟨g, off, none⟩) n c (uv l)) (hs : s.length = l.length) (q : Nat) (os : Array Obj) :
    Own (Go.Sort.grow (Go.Sort.putRow eu (Go.Sort.ahead w q) g off (zs s).toArray) os) 22 1 (some ⟨g, off, none⟩) n c (uv s) ∧ Chg (sf (some ⟨g, off, none⟩)) w (Go.Sort.grow (Go.Sort.putRow eu (Go.Sort.ahead w q) g off (zs s).toArray) os) := by
  have hn : l.length = n := by have := h.1; simpa [uv] using this
  obtain ⟨hlen, hr⟩ := h
  rcases hr with ⟨h0, _⟩ | ⟨g', off', cur, h0, hb, h1, h2, h3, h4⟩
  · cases h0
  · cases h0
    have hg : g < w.heap.size := hb.lt
    refine ⟨⟨by simp [uv, hs, hn], .inr ⟨g, off, Go.Sort.putCells eu off (zs s).toArray cur, rfl, ?_, h1, h2, by simpa [Go.Sort.putCells] using h3, fun j u hu => ?_⟩⟩, ⟨rfl, rfl, rfl, by simp, fun k hk hf => ?_⟩⟩
    · unfold Bk at hb ⊢
      simp only [Go.Sort.grow, Go.Sort.putRow, Go.Sort.mapBlock, Go.Sort.ahead]
      rw [Array.getElem?_append_left (by simpa using hg), Array.getElem?_modify, hb]
      simp [Go.Sort.onCells]
    · have hj : j < s.length := by
        have := (List.getElem?_eq_some_iff.1 hu).1
        simpa [uv] using this
      have e1 : u = .int .u32 (s[j] : Int) := by
        unfold uv at hu
        rw [List.getElem?_map, List.getElem?_eq_getElem hj] at hu
        exact (Option.some.inj hu).symm
      have hcur : off + j < cur.size := by omega
      subst e1
      simp only [Go.Sort.putCells, Array.getElem?_mapIdx]
      rw [Array.getElem?_eq_getElem hcur]
      simp [hj]
    · simp only [Go.Sort.grow, Go.Sort.putRow, Go.Sort.mapBlock, Go.Sort.ahead]
      rw [Array.getElem?_append_left (by simpa using hk), Array.getElem?_modify]
      rw [sf_some] at hf
      simp [hf]
/-- rising numbers, each once -/
theorem compact_set (s : List Nat) (hs : s.Pairwise (· ≤ ·)) : ∀ m, m ≤ s.length → ∃ t : List Nat, Go.Lib.compactUpTo (zs s).toArray m = zs t ∧ StN t ∧ (∀ x, x ∈ t ↔ x ∈ s.take m) ∧ t.length ≤ m
  | 0, _ => ⟨[], rfl, List.Pairwise.nil, by simp, Nat.le_refl _⟩
  | m + 1, hm => by
    obtain ⟨t, h1, h2, h3, h4⟩ := compact_set s hs m (by omega)
    have hm' : m < s.length := hm
    have e : (zs s).toArray[m]! = (s[m] : Int) := by simp [hm']
    have et : s.take (m + 1) = s.take m ++ [s[m]] := by rw [List.take_add_one, List.getElem?_eq_getElem hm']; rfl
    rw [Go.Lib.compactUpTo_succ, h1, et]
    by_cases h0 : m = 0
    · subst h0
      have hk : Go.Lib.keeps (zs s).toArray 0 = true := by simp [Go.Lib.keeps]
      rw [hk, if_pos rfl, e]
      have ht : t = [] := List.length_eq_zero_iff.1 (by omega)
      subst ht
      exact ⟨[s[0]], by simp, List.pairwise_singleton _ _, by simp, by simp⟩
    · have e' : (zs s).toArray[m - 1]! = (s[m - 1] : Int) := by simp [show m - 1 < s.length by omega]
      have hle : ∀ x ∈ s.take m, x ≤ s[m - 1] := fun x hx => by
        obtain ⟨i, hi, rfl⟩ := List.mem_iff_getElem.1 hx
        rw [List.length_take] at hi
        rw [List.getElem_take]
        rcases Nat.lt_or_ge i (m - 1) with h | h
        · exact List.pairwise_iff_getElem.1 hs i (m - 1) (by omega) (by omega) h
        · have : i = m - 1 := by omega
          subst this; exact Nat.le_refl _
      have hmem : s[m - 1] ∈ s.take m := by
        rw [List.mem_iff_getElem]
        exact ⟨m - 1, by rw [List.length_take]; omega, by rw [List.getElem_take]⟩
      by_cases hq : s[m] = s[m - 1]
      · have hk : Go.Lib.keeps (zs s).toArray m = false := Go.Lib.keeps_neg (by omega) (by rw [e, e', hq])
        rw [hk]
        refine ⟨t, by simp, h2, fun x => ?_, by omega⟩
        rw [h3, List.mem_append, List.mem_singleton, hq]
        exact ⟨.inl, fun h => h.elim id fun h => h ▸ hmem⟩
      · have hk : Go.Lib.keeps (zs s).toArray m = true := Go.Lib.keeps_pos (by rw [e, e']; omega)
        rw [hk, if_pos rfl, e]
        have hlt : s[m - 1] < s[m] := by
          have := List.pairwise_iff_getElem.1 hs (m - 1) m (by omega) hm' (by omega)
          omega
        refine ⟨t ++ [s[m]], by simp, ?_, fun x => by rw [List.mem_append, List.mem_append, h3], by simp; omega⟩
        unfold StN
        rw [List.pairwise_append]
        refine ⟨h2, List.pairwise_singleton _ _, fun x hx y hy => ?_⟩
        rw [List.mem_singleton] at hy
        subst hy
        exact Nat.lt_of_le_of_lt (hle x ((h3 x).1 hx)) hlt
theorem u32_cell : OneCell eu := fun _ => rfl
set_option maxHeartbeats 1000000 in
theorem Compact_any (A : Option Addr) (n c : Nat) (s : List Nat) (w : World) (hn : n < 1152921504606846976) (hs : s.Pairwise (· ≤ ·)) (h : Own w 22 1 A n c (uv s)) :
    Calls Try.prog 151 #[.slice A n c] w fun e w' => ∃ t : List Nat, e = .returned (.slice A t.length c) ∧ IsSet s t ∧ t.length ≤ s.length ∧ Own w' 22 1 A t.length c (uv t) ∧ Chg (sf A) w w' := by
  have hl : s.length = n := by have := h.1; simpa [uv] using this
  subst hl
  rcases Nat.eq_zero_or_pos s.length with h0 | h0
  · have hz : s = [] := List.length_eq_zero_iff.1 h0
    subst hz
    have HO := Lib.hid h
    clear h h0
    go_enter Try.func151, Try.ntmps151
    go_wp2_with fail
    go_ret
    exact ⟨[], rfl, IsSet.nil, Nat.le_refl _, HO.out, Chg.refl _ _⟩
  · obtain ⟨g, off, rfl⟩ : ∃ g off, A = some ⟨g, off, none⟩ := by
      obtain ⟨b, off, e, _⟩ := h.rg.2 h0
      exact ⟨b, off, e⟩
    have hH : Go.Sort.Holds eu w g off (zs s).toArray := by
      rcases h.2 with ⟨h0, _⟩ | ⟨g', off', cur, h0, hb, _, _, _, h4⟩
      · cases h0
      · cases h0
        intro j hj
        have hj' : j < s.length := by simpa using hj
        refine ⟨?_, by rw [hb.free]⟩
        rw [hb.cell, h4 j (.int .u32 (s[j] : Int)) (by simp [uv, hj'])]
        simp [hj']
    have hcap := h.cap
    obtain ⟨t, h1, h2, h3, h4⟩ := compact_set s hs s.length (Nat.le_refl _)
    have hd : (zs s).toArray.size = s.length := by simp
    have hc := AnyE.slices_Compact Try.compactU eu u32_cell (.intD _ _ .u32) (.intD _ _ .u32) 0 (fun w => Try.zeroValue22 w) g off c (zs s).toArray w hH (by rw [hd]; omega) (by rw [hd]; exact hcap)
    rw [hd, h1] at hc
    refine hc.mono ?_
    rintro e w' ⟨rfl, q, rfl⟩
    have hlt : (zs t).length = t.length := by simp
    have hrow : (zs t ++ List.replicate (s.length - (zs t).length) (0 : Int)).toArray = (zs (t ++ List.replicate (s.length - t.length) 0)).toArray := by simp
    have hsz : (t ++ List.replicate (s.length - t.length) 0).length = s.length := by simp; omega
    obtain ⟨k1, k2⟩ := own_put h hsz q #[]
    rw [Go.Sort.grow_empty, ← hrow] at k1 k2
    refine ⟨t, by rw [hlt], ⟨h2, fun x => by rw [h3, List.take_length]⟩, h4, ?_, k2⟩
    have := k1.take (k := t.length) h4
    rw [Nat.mul_one, uv_app, List.take_left' (uv_len t)] at this
    exact this
set_option maxRecDepth 100000 in
set_option maxHeartbeats 1000000 in
theorem Clone_any (A : Option Addr) (c : Nat) (l : List Nat) (G : Foot) (w : World) (hl : l.length ≤ 1099511627776) (hA : A = none → c = 0) (hc : l.length ≤ c) (hcm : c ≤ maxLen) (hs : Us w G A l) :
    Calls Try.prog 150 #[.slice A l.length c] w (RetNums l w) := by
  obtain ⟨i0, hi, hz0, hz1, hz2⟩ := info_parts info_u32
  have Hi := Lib.hid hi
  have Hz0 := Lib.hid hz0
  have Hz1 := Lib.hid hz1
  have Hz2 := Lib.hid hz2
  have HA := Lib.hid hA
  have HL1 : Hid (0 + l.length ≤ maxLen) := by show _ ≤ _; unfold maxLen; omega
  have HL2 : Hid ((0 + l.length) * 4 ≤ 140737488355328) := by show _ ≤ _; omega
  have HO0 : Hid (Own (w.alloc (.cells #[] 22)) 22 1 (some ⟨w.heap.size, 0, none⟩) 0 0 []) := Own.made w 22 1 0 0 #[] [] (Nat.le_refl _) (Nat.zero_le _) rfl rfl rfl
  have hb0 : Below w.heap.size w (w.alloc (.cells #[] 22)) := (Below.refl _ _).alloc (Nat.le_refl _) _
  have HFin : Hid (∀ (A' : Option Addr) (c' : Nat) (w' : World), Own w' 22 1 A' (0 + l.length) c' ([] ++ uv l) → Chg (sf (some ⟨w.heap.size, 0, none⟩)) (w.alloc (.cells #[] 22)) w' → Fresh (w.alloc (.cells #[] 22)) (sf (some ⟨w.heap.size, 0, none⟩)) (sf A') → RetNums l w (.returned (.slice A' l.length c')) w') := fun A' c' w' h1 h2 h3 => by
    rw [Nat.zero_add, List.nil_append] at h1
    refine ⟨A', c', rfl, h1, fun k hk => ?_, hb0.trans (h2.below (fun k hk => by rw [sf_some] at hk; exact Nat.le_of_eq hk) hb0.size)⟩
    rcases h3 k hk with e | e
    · rw [sf_some] at e; exact Nat.le_of_eq e
    · exact Nat.le_trans hb0.size e
  have hq := fun (w : World) (a : Option Addr) (n c : Nat) => Lib.run_eql_slice_nil (P := Try.prog) w 67 22 a n c 0 0 Try.underlying67
  rcases A with _ | ad
  · have h0 := hA rfl
    subst h0
    have hz : l = [] := List.length_eq_zero_iff.1 (by omega)
    subst hz
    clear hs hA hi hz0 hz1 hz2 hb0 HO0 HFin HA hl hc hcm HL1 HL2
    go_enter Try.func150, Try.ntmps150
    go_wp2_with fail
    go_ret
    exact ⟨none, 0, rfl, Own.none_ _ _ _, fun k hk => absurd hk (sf_none k), Below.refl _ _⟩
  · have HR := Lib.hid (hs.bel hb0)
    clear hs hA hi hz0 hz1 hz2 hb0 hl hc hcm
    go_enter Try.func150, Try.ntmps150
    go_wp2_with (at_builtin; refine wpList_app _ rfl (.tmp 5) (.tmp 6) _ rfl 22 i0 _ 1 4 Try.underlying67 Hi.out Hz0.out Hz1.out Hz2.out rfl (by omega) _ 0 0 [] rfl HO0.out _ (some ad) l.length c HA.out (uv l) rfl HR.out (uv_one _) HL1.out HL2.out ?_; intro A' c' w' ho hc' hf; have HE := Lib.hid (HFin.out _ _ _ ho hc' hf); clear ho hc' hf)
    go_ret
    exact HE.out
theorem RetNums.at_ {l : List Nat} {w : World} {e : Ending} {w' : World} (h : RetNums l w e w') : ∃ A c, e = .returned (.slice A l.length c) ∧ Own w' 22 1 A l.length c (uv l) ∧ (∀ k, sf A k → w.heap.size ≤ k) ∧ Below w.heap.size w w' := h
set_option maxHeartbeats 1000000 in
/-- asn.Set -/
theorem Set_any (A : Option Addr) (c : Nat) (l : List Nat) (G : Foot) (w : World) (hl : l.length ≤ 1099511627776) (hA : A = none → c = 0) (hc : l.length ≤ c) (hcm : c ≤ maxLen) (hs : Us w G A l) :
    Calls Try.prog 103 #[.slice A l.length c] w fun e w' => ∃ t : List Nat, IsSet l t ∧ t.length ≤ l.length ∧ RetNums t w e w' := by
  have HC := Lib.hid (Clone_any A c l G w hl hA hc hcm hs)
  have HSort : Hid (∀ (A : Option Addr) (c : Nat) (w : World), Own w 22 1 A l.length c (uv l) → Calls Try.prog 140 #[.slice A l.length c] w fun e w' => e = .returned (.tuple #[]) ∧ ∃ s : List Nat, s.Perm l ∧ s.Pairwise (· ≤ ·) ∧ Own w' 22 1 A l.length c (uv s) ∧ Chg (sf A) w w') := fun A c w h => Sort_any A l.length c l w rfl (by omega) h
  have HComp : Hid (∀ (A : Option Addr) (c : Nat) (s : List Nat) (w : World), s.Pairwise (· ≤ ·) → Own w 22 1 A l.length c (uv s) → Calls Try.prog 151 #[.slice A l.length c] w fun e w' => ∃ t : List Nat, e = .returned (.slice A t.length c) ∧ IsSet s t ∧ t.length ≤ s.length ∧ Own w' 22 1 A t.length c (uv t) ∧ Chg (sf A) w w') := fun A c s w h1 h2 => Compact_any A l.length c s w (by omega) h1 h2
  clear hA hc hcm hs hl
  go_enter Try.func103, Try.ntmps103
  go_wp2_with (go_at_call 150; refine HC.out.mono ?_; rintro e w1 ⟨A1, c1, rfl, ho, hlo, hb⟩; have HO1 := Lib.hid ho; have HB1 := Lib.hid (And.intro hlo hb); clear ho hlo hb)
  go_wp2_with (go_at_call 140; refine (HSort.out A1 c1 _ HO1.out).mono ?_; rintro e w2 ⟨rfl, s, hp, hle, ho, hch⟩; have HP := Lib.hid (And.intro hp hle); have HO2 := Lib.hid (And.intro ho hch); clear hp hle ho hch)
  go_wp2_with (go_at_call 151; refine (HComp.out A1 c1 s _ HP.out.2 HO2.out.1).mono ?_; rintro e w3 ⟨t, rfl, ht, hlt, ho, hch⟩; have HT := Lib.hid (And.intro ht hlt); have HO3 := Lib.hid (And.intro ho hch); clear ht hlt ho hch)
  go_ret
  refine ⟨t, ⟨HT.out.1.strict, fun x => (HT.out.1.mem x).trans HP.out.1.mem_iff⟩, ?_, A1, c1, rfl, HO3.out.1, HB1.out.1, ?_⟩
  · have := HP.out.1.length_eq
    have := HT.out.2
    omega
  · exact (HB1.out.2.trans (HO2.out.2.below HB1.out.1 HB1.out.2.size)).trans (HO3.out.2.below HB1.out.1 (Nat.le_trans HB1.out.2.size HO2.out.2.size))
theorem allEq_nums : ∀ (l r : List Nat), Go.Lib.allEq (fun x y : Int => decide (x = y)) (zs l) (zs r) = decide (l = r)
  | [], [] => rfl
  | [], _ :: _ => by simp [Go.Lib.allEq]
  | _ :: _, [] => by simp [Go.Lib.allEq]
  | x :: l, y :: r => by
    have := allEq_nums l r
    simp only [zs, List.map_cons, Go.Lib.allEq] at this ⊢
    rw [this]
    by_cases h1 : x = y
    · by_cases h2 : l = r <;> simp [h1, h2]
    · have : ¬ (x : Int) = (y : Int) := by omega
      simp [h1, this]
set_option maxHeartbeats 1000000 in
/-- slices.Equal: two rows, nil or not -/
theorem Equal_any (A B : Option Addr) (c d : Nat) (l r : List Nat) (G H : Foot) (w : World) (hl : l.length ≤ 1099511627776) (hr : r.length ≤ 1099511627776) (h1 : Us w G A l) (h2 : Us w H B r) :
    Calls Try.prog 159 #[.slice A l.length c, .slice B r.length d] w fun e w' => e = .returned (.bool (decide (l = r))) ∧ ∃ q, w' = w.drewN q := by
  by_cases he : l.length = r.length
  · rcases Nat.eq_zero_or_pos l.length with h0 | h0
    · have hz : l = [] := List.length_eq_zero_iff.1 h0
      have hz2 : r = [] := List.length_eq_zero_iff.1 (by omega)
      subst hz hz2
      clear h1 h2 he h0 hl hr
      go_enter Try.func159, Try.ntmps159
      go_wp2_with fail
      go_loopw [5, 13] (fun _ v wr => v = .int .i64 0 ∧ wr = w) (fun _ _ _ => 0)
      case atStart => exact ⟨rfl, rfl⟩
      case round =>
        obtain ⟨rfl, rfl⟩ := hrel
        go_wp2_with fail
        go_ret
        exact ⟨rfl, 0, rfl⟩
    · obtain ⟨b1, o1, rfl, _, _, c1⟩ := h1.2 h0
      obtain ⟨b2, o2, rfl, _, _, c2⟩ := h2.2 (by omega)
      have hc := AnyE.slices_Equal Try.equalU eu (fun x y => decide (x = y)) (.intD _ _ .u32) b1 o1 l.length c b2 o2 r.length d (zs l) (zs r) w (by simp) (by simp) (by omega) (by omega)
        (fun j hj => by have hj' : j < l.length := by simpa using hj
                        rw [c1 j (.int .u32 (l[j] : Int)) (by simp [uv, hj'])]; simp [hj'])
        (fun j hj => by have hj' : j < r.length := by simpa using hj
                        rw [c2 j (.int .u32 (r[j] : Int)) (by simp [uv, hj'])]; simp [hj'])
      refine hc.mono ?_
      rintro e w' ⟨rfl, q, rfl⟩
      have e1 : (zs l).take l.length = zs l := List.take_of_length_le (by simp)
      have e2 : (zs r).take r.length = zs r := List.take_of_length_le (by simp)
      exact ⟨by rw [e1, e2, allEq_nums], q, rfl⟩
  · clear h1 h2
    have hne : ¬ l = r := fun e => he (by rw [e])
    have hd : decide (l = r) = false := by simp [hne]
    rw [hd]
    clear hne hd hl hr
    have hq : ((l.length : Int) == (r.length : Int)) = false := by simp; omega
    generalize l.length = n at *
    generalize r.length = m at *
    go_enter Try.func159, Try.ntmps159
    go_wp2_with fail
    go_ret
    exact ⟨rfl, 0, rfl⟩
end Go.Proofs.Ytafepficapdepaa.nums
