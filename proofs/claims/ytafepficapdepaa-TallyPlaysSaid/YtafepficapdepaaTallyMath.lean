/- Rows of keys and counts beside a tally: plain laws. -/
import Derived.Test.YtafepficapdepaaTallySum
namespace Go.Proofs.Ytafepficapdepaa.tally
open Go.Proofs.Ytafepficapdepaa.foot Go.Proofs.Ytafepficapdepaa.maps
set_option linter.unusedVariables false
set_option linter.unusedSimpArgs false
/-- keys and their counts -/
abbrev KC := List (Int × Int × Int)
/-- rising keys -/
def Rising (R : KC) : Prop := R.Pairwise fun a b => a.1 < b.1
def rIdx (R : KC) (k : Int) : Option Nat := R.findIdx? fun r => r.1 == k
def rAt (R : KC) (k : Int) : Int := match rIdx R k with | some i => (i : Int) | none => -1
def rCut (R : KC) (k : Int) : KC := R.filter fun r => r.1 != k
def rSpot (R : KC) (k : Int) : Nat := (R.takeWhile fun r => decide (r.1 < k)).length
def rSet (R : KC) (k : Int) (n : Int × Int) : KC := (rCut R k).take (rSpot (rCut R k) k) ++ (k, n) :: (rCut R k).drop (rSpot (rCut R k) k)
theorem rAt_pos (R : KC) (k : Int) : (rIdx R k).isSome = decide (0 ≤ rAt R k) := by
  unfold rAt
  rcases rIdx R k with _ | i <;> simp
theorem rIdx_lt {R : KC} {k : Int} {i : Nat} (h : rIdx R k = some i) : ∃ hi : i < R.length, R[i].1 = k ∧ ∀ j (hj : j < i), R[j].1 ≠ k := by
  obtain ⟨h1, h2, h3⟩ := List.findIdx?_eq_some_iff_getElem.1 h
  exact ⟨h1, by simpa using h2, fun j hj => by have := h3 j hj; simpa using this⟩
theorem rCut_none {R : KC} {k : Int} (h : rIdx R k = none) : rCut R k = R := by
  unfold rCut
  rw [List.filter_eq_self]
  intro r hr
  have := List.findIdx?_eq_none_iff.1 h r hr
  simpa using this
theorem rCut_some {R : KC} {k : Int} {i : Nat} (hR : Rising R) (h : rIdx R k = some i) : rCut R k = R.take i ++ R.drop (i + 1) := by
  obtain ⟨hi, h2, h3⟩ := rIdx_lt h
  have e : R = R.take i ++ R[i] :: R.drop (i + 1) := by rw [← List.drop_eq_getElem_cons hi, List.take_append_drop]
  have hp : Rising (R.take i ++ R[i] :: R.drop (i + 1)) := by rw [← e]; exact hR
  obtain ⟨p1, p2, p3⟩ := List.pairwise_append.1 hp
  have p4 := (List.pairwise_cons.1 p2).1
  unfold rCut
  conv => lhs; rw [e]
  rw [List.filter_append, List.filter_cons]
  have e1 : (R[i].1 != k) = false := by simp [h2]
  rw [e1]
  simp only [Bool.false_eq_true, if_false]
  congr 1
  · rw [List.filter_eq_self]
    intro r hr
    have := p3 r hr R[i] List.mem_cons_self
    simp; omega
  · rw [List.filter_eq_self]
    intro r hr
    have := p4 r hr
    simp; omega
theorem Rising.cut {R : KC} (h : Rising R) (k : Int) : Rising (rCut R k) := h.filter _
theorem rCut_len (R : KC) (k : Int) : (rCut R k).length ≤ R.length := List.length_filter_le _ _
theorem rCut_ne {R : KC} {k : Int} : ∀ r ∈ rCut R k, r.1 ≠ k := fun r hr => by simpa using (List.mem_filter.1 hr).2

theorem take_while_len {α : Type} (p : α → Bool) : ∀ l : List α, l.take (l.takeWhile p).length = l.takeWhile p ∧ l.drop (l.takeWhile p).length = l.dropWhile p
  | [] => by simp
  | x :: l => by
    by_cases h : p x = true
    · have ih := take_while_len p l
      rw [List.takeWhile_cons_of_pos h, List.dropWhile_cons_of_pos h]
      simp [ih]
    · rw [List.takeWhile_cons_of_neg h, List.dropWhile_cons_of_neg h]
      simp
theorem drop_ge {R : KC} (hR : Rising R) (k : Int) : ∀ r ∈ R.dropWhile (fun r => decide (r.1 < k)), k ≤ r.1 := by
  induction R with
  | nil => simp
  | cons x R ih =>
    obtain ⟨h1, h2⟩ := List.pairwise_cons.1 hR
    by_cases h : x.1 < k
    · rw [List.dropWhile_cons_of_pos (by simpa using h)]
      exact ih h2
    · rw [List.dropWhile_cons_of_neg (by simpa using h)]
      intro r hr
      rcases List.mem_cons.1 hr with rfl | hr
      · omega
      · have := h1 r hr; omega
theorem take_lt (R : KC) (k : Int) : ∀ r ∈ R.takeWhile (fun r => decide (r.1 < k)), r.1 < k := by
  induction R with
  | nil => simp
  | cons x R ih =>
    by_cases h : x.1 < k
    · rw [List.takeWhile_cons_of_pos (by simpa using h)]
      intro r hr
      rcases List.mem_cons.1 hr with rfl | hr
      · exact h
      · exact ih r hr
    · rw [List.takeWhile_cons_of_neg (by simpa using h)]
      simp
theorem Rising.set {R : KC} (h : Rising R) (k : Int) (n : Int × Int) : Rising (rSet R k n) := by
  unfold rSet rSpot
  obtain ⟨e1, e2⟩ := take_while_len (fun r : Int × Int × Int => decide (r.1 < k)) (rCut R k)
  rw [e1, e2]
  have hc := h.cut k
  have hp : Rising ((rCut R k).takeWhile (fun r => decide (r.1 < k)) ++ (rCut R k).dropWhile (fun r => decide (r.1 < k))) := by rw [List.takeWhile_append_dropWhile]; exact hc
  obtain ⟨p1, p2, p3⟩ := List.pairwise_append.1 hp
  have hge : ∀ r ∈ (rCut R k).dropWhile (fun r => decide (r.1 < k)), k < r.1 := by
    intro r hr
    have h1 := drop_ge hc k r hr
    have h2 := rCut_ne r ((List.dropWhile_sublist _).mem hr)
    omega
  refine List.pairwise_append.2 ⟨p1, List.pairwise_cons.2 ⟨fun r hr => hge r hr, p2⟩, fun a ha b hb => ?_⟩
  rcases List.mem_cons.1 hb with rfl | hb
  · exact take_lt _ _ a ha
  · exact p3 a ha b hb
theorem rSet_len (R : KC) (k : Int) (n : Int × Int) : (rSet R k n).length ≤ R.length + 1 := by
  have := rCut_len R k
  unfold rSet
  simp
  omega
theorem rAt_found {R : KC} {k : Int} {i : Nat} (hi : i < R.length) (he : R[i].1 = k) (hn : ∀ j (h : j < i), R[j].1 ≠ k) : rAt R k = i := by
  have h : rIdx R k = some i := List.findIdx?_eq_some_iff_getElem.2 ⟨hi, by simpa using he, fun j hj => by simpa using hn j hj⟩
  unfold rAt
  rw [h]
theorem rAt_miss {R : KC} {k : Int} (hn : ∀ j (h : j < R.length), R[j].1 ≠ k) : rAt R k = -1 := by
  have h : rIdx R k = none := by
    unfold rIdx
    rw [List.findIdx?_eq_none_iff]
    intro x hx
    obtain ⟨j, hj, rfl⟩ := List.getElem_of_mem hx
    simpa using hn j hj
  unfold rAt
  rw [h]
theorem spot_le (R : KC) (k : Int) : rSpot R k ≤ R.length := (List.takeWhile_sublist _).length_le
theorem spot_lt (R : KC) (k : Int) {i : Nat} (hi : i < rSpot R k) (h : i < R.length) : R[i].1 < k := by
  obtain ⟨e1, _⟩ := take_while_len (fun r : Int × Int × Int => decide (r.1 < k)) R
  have hm : R[i] ∈ R.takeWhile (fun r => decide (r.1 < k)) := by
    rw [← e1]
    exact List.mem_take_iff_getElem.2 ⟨i, by unfold rSpot at hi; omega, rfl⟩
  exact take_lt R k _ hm
theorem spot_at (R : KC) (k : Int) (h : rSpot R k < R.length) : ¬ R[rSpot R k].1 < k := by
  obtain ⟨_, e2⟩ := take_while_len (fun r : Int × Int × Int => decide (r.1 < k)) R
  have e3 : R.drop (rSpot R k) = R.dropWhile (fun r => decide (r.1 < k)) := e2
  rw [List.drop_eq_getElem_cons h] at e3
  have h4 := List.head?_dropWhile_not (fun r : Int × Int × Int => decide (r.1 < k)) R
  rw [← e3, List.head?_cons] at h4
  simpa using h4


/-- the counts of a key -/
def rVal (R : KC) (k : Int) : Int × Int := match R.find? (fun r => r.1 == k) with | some r => r.2 | none => (0, 0)
theorem rVal_idx {R : KC} {k : Int} {i : Nat} (h : rIdx R k = some i) (hi : i < R.length) : rVal R k = R[i].2 := by
  obtain ⟨h1, h2, h3⟩ := rIdx_lt h
  have hf : R.find? (fun r => r.1 == k) = some R[i] := by
    rw [List.find?_eq_some_iff_getElem]
    exact ⟨by simpa using h2, i, h1, rfl, fun j hj => by have := h3 j hj; simpa using this⟩
  unfold rVal
  rw [hf]
theorem rVal_none {R : KC} {k : Int} (h : rIdx R k = none) : rVal R k = (0, 0) := by
  have hf : R.find? (fun r => r.1 == k) = none := by
    rw [List.find?_eq_none]
    intro r hr
    have := List.findIdx?_eq_none_iff.1 h r hr
    simpa using this
  unfold rVal
  rw [hf]
theorem rSet_perm (R : KC) (k : Int) (n : Int × Int) : (rSet R k n).Perm ((k, n) :: rCut R k) := by
  unfold rSet
  refine List.perm_middle.trans ?_
  rw [List.take_append_drop]
theorem rSet_hit {R : KC} {k : Int} {i : Nat} (hR : Rising R) (h : rIdx R k = some i) (n : Int × Int) : rSet R k n = R.set i (k, n) := by
  obtain ⟨hi, h2, h3⟩ := rIdx_lt h
  have e : R = R.take i ++ R[i] :: R.drop (i + 1) := by rw [← List.drop_eq_getElem_cons hi, List.take_append_drop]
  have hp : Rising (R.take i ++ R[i] :: R.drop (i + 1)) := by rw [← e]; exact hR
  obtain ⟨p1, p2, p3⟩ := List.pairwise_append.1 hp
  have p4 := (List.pairwise_cons.1 p2).1
  have hc := rCut_some hR h
  have hs : rSpot (rCut R k) k = i := by
    unfold rSpot
    rw [hc, List.takeWhile_append_of_pos (fun r hr => by have := p3 r hr R[i] List.mem_cons_self; simp; omega)]
    have : (R.drop (i + 1)).takeWhile (fun r => decide (r.1 < k)) = [] := by
      rcases hd : R.drop (i + 1) with _ | ⟨x, xs⟩
      · rfl
      · rw [List.takeWhile_cons_of_neg]
        have := p4 x (by rw [hd]; simp)
        simp; omega
    rw [this]
    simp; omega
  unfold rSet
  rw [hs, hc]
  have hl : (R.take i).length = i := by simp; omega
  rw [List.take_append_of_le_length (by omega), List.take_of_length_le (by omega), List.drop_append_of_le_length (by omega), List.drop_of_length_le (by omega), List.nil_append]
  rw [List.set_eq_take_append_cons_drop]
  rw [if_pos hi]
theorem rSet_miss {R : KC} {k : Int} (h : rIdx R k = none) (n : Int × Int) : rSet R k n = R.take (rSpot R k) ++ (k, n) :: R.drop (rSpot R k) := by
  unfold rSet
  rw [rCut_none h]
/-- a tally and rows of the same -/
def Sync (rs : List TR) (R : KC) : Prop := (rs.map fun r => (r.1, r.2.2)).Perm R
theorem Sync.val {rs : List TR} {R : KC} (h : Sync rs R) (hR : Rising R) (k : Int) : valOf rs k = rVal R k := by
  have hmem : ∀ r ∈ rs, (r.1, r.2.2) ∈ R := fun r hr => h.subset (List.mem_map.2 ⟨r, hr, rfl⟩)
  rcases hf : rs.find? (fun r => r.1 == k) with _ | r
  · have hn : R.find? (fun r => r.1 == k) = none := by
      rw [List.find?_eq_none]
      intro p hp
      obtain ⟨r, hr, rfl⟩ := List.mem_map.1 (h.symm.subset hp)
      exact List.find?_eq_none.1 hf r hr
    unfold valOf rVal
    rw [hf, hn]
  · have hr := List.mem_of_find?_eq_some hf
    have hk := List.find?_some hf
    rcases hg : R.find? (fun r => r.1 == k) with _ | p
    · exact absurd hk (List.find?_eq_none.1 hg _ (hmem r hr))
    · have hp := List.mem_of_find?_eq_some hg
      have hk2 := List.find?_some hg
      have e : p = (r.1, r.2.2) := by
        have hr2 := hmem r hr
        obtain ⟨i, hi, ei⟩ := List.mem_iff_getElem.1 hp
        obtain ⟨j, hj, ej⟩ := List.mem_iff_getElem.1 hr2
        have e1 : p.1 = r.1 := by simp at hk hk2; omega
        rcases Nat.lt_trichotomy i j with hij | hij | hij
        · have := List.pairwise_iff_getElem.1 hR i j hi hj hij
          rw [ei, ej] at this
          simp at this; omega
        · subst hij; rw [← ei, ← ej]
        · have := List.pairwise_iff_getElem.1 hR j i hj hi hij
          rw [ei, ej] at this
          simp at this; omega
      unfold valOf rVal
      rw [hf, hg, e]
theorem Sync.any {rs : List TR} {R : KC} (h : Sync rs R) (k : Int) : (rs.any fun r => r.1 == k) = (rIdx R k).isSome := by
  unfold rIdx
  rw [List.findIdx?_isSome, Bool.eq_iff_iff, List.any_eq_true, List.any_eq_true]
  constructor
  · rintro ⟨r, hr, hk⟩; exact ⟨(r.1, r.2.2), h.subset (List.mem_map.2 ⟨r, hr, rfl⟩), hk⟩
  · rintro ⟨p, hp, hk⟩
    obtain ⟨r, hr, rfl⟩ := List.mem_map.1 (h.symm.subset hp)
    exact ⟨r, hr, hk⟩
theorem Sync.cut {rs : List TR} {R : KC} (h : Sync rs R) (k : Int) : Sync (without rs k) (rCut R k) := by
  have := List.Perm.filter (fun r : Int × Int × Int => r.1 != k) h
  unfold Sync without rCut
  rw [List.filter_map] at this
  exact this
theorem Sync.set {rs : List TR} {R : KC} (h : Sync rs R) (k : Int) (p : Nat × Nat) (v : Int × Int) : Sync ((k, p, v) :: without rs k) (rSet R k v) := by
  unfold Sync
  rw [List.map_cons]
  exact ((h.cut k).cons _).trans (rSet_perm R k v).symm
theorem Sync.len {rs : List TR} {R : KC} (h : Sync rs R) : rs.length = R.length := by have := h.length_eq; simpa using this
def sumR (R : KC) : Int × Int := ((R.map fun r => r.2.1).sum, (R.map fun r => r.2.2).sum)
theorem Sync.sum {rs : List TR} {R : KC} (h : Sync rs R) : sumV rs = sumR R := by
  unfold sumV sumR
  have h1 := sum_perm (h.map fun r => r.2.1)
  have h2 := sum_perm (h.map fun r => r.2.2)
  simp only [List.map_map, Function.comp_def] at h1 h2
  rw [h1, h2]
theorem Sync.keys {rs : List TR} {R : KC} {L : List Nat} (h : Sync rs R) (hR : Rising R) (hp : (L.map fun n : Nat => (n : Int)).Perm (rs.map (·.1))) (hL : L.Pairwise (· ≤ ·)) : (L.map fun n : Nat => (n : Int)) = R.map (·.1) := by
  have h1 : (L.map fun n : Nat => (n : Int)).Perm (R.map (·.1)) := by
    have := h.map (fun r : Int × Int × Int => r.1)
    rw [List.map_map] at this
    exact hp.trans this
  refine List.Perm.eq_of_pairwise (le := fun x y : Int => x ≤ y) (fun x y _ _ h1 h2 => by omega) ?_ ?_ h1
  · rw [List.pairwise_map]; exact hL.imp fun h => by omega
  · rw [List.pairwise_map]; exact hR.imp fun h => by omega
/-- counts from 0 to so many -/
def Upto (R : KC) (m : Int) : Prop := ∀ r ∈ R, 0 ≤ r.2.1 ∧ r.2.1 ≤ m ∧ 0 ≤ r.2.2 ∧ r.2.2 ≤ m
theorem Upto.mono {R : KC} {m n : Int} (h : Upto R m) (hmn : m ≤ n) : Upto R n := fun r hr => by have := h r hr; omega
theorem Upto.cut {R : KC} {m : Int} (h : Upto R m) (k : Int) : Upto (rCut R k) m := fun r hr => h r (List.mem_filter.1 hr).1
theorem Upto.set {R : KC} {m : Int} (h : Upto R m) (k : Int) {v : Int × Int} (hv : 0 ≤ v.1 ∧ v.1 ≤ m ∧ 0 ≤ v.2 ∧ v.2 ≤ m) : Upto (rSet R k v) m := fun r hr => by
  rcases List.mem_cons.1 ((rSet_perm R k v).subset hr) with rfl | hr
  · exact hv
  · exact h.cut k r hr
theorem Upto.val {R : KC} {m : Int} (h : Upto R m) (hm : 0 ≤ m) (k : Int) : 0 ≤ (rVal R k).1 ∧ (rVal R k).1 ≤ m ∧ 0 ≤ (rVal R k).2 ∧ (rVal R k).2 ≤ m := by
  unfold rVal
  rcases hf : R.find? (fun r => r.1 == k) with _ | r
  · rw [hf]; simp; omega
  · rw [hf]; exact h r (List.mem_of_find?_eq_some hf)
end Go.Proofs.Ytafepficapdepaa.tally
