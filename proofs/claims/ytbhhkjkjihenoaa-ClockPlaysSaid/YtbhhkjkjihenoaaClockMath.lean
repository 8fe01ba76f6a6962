/- The laws that tie a clock's entries to the reference's rows. Conditions as each states. -/
import Derived.Test.YtbhhkjkjihenoaaClockTick
namespace Go.Proofs.Ytbhhkjkjihenoaa.clk
open Go.Proofs.Ytbhhkjkjihenoaa.foot Go.Proofs.Ytbhhkjkjihenoaa.maps
set_option linter.unusedVariables false
set_option linter.unusedSimpArgs false

/-- rows: keys, and what they have left; the entries at a time -/
def ab (now : Int) (R : KV) : KV := R.map fun r => (r.1, r.2 + now)
/-- rising keys -/
def Rising (R : KV) : Prop := R.Pairwise fun a b => a.1 < b.1
/-- what is left is from 1 to 65535 -/
def Lefts (R : KV) : Prop := ∀ r ∈ R, 1 ≤ r.2 ∧ r.2 ≤ 65535
def rIdx (R : KV) (k : Int) : Option Nat := R.findIdx? fun r => r.1 == k
def rAt (R : KV) (k : Int) : Int := match rIdx R k with | some i => (i : Int) | none => -1
def rCut (R : KV) (k : Int) : KV := R.filter fun r => r.1 != k
def rSpot (R : KV) (k : Int) : Nat := (R.takeWhile fun r => decide (r.1 < k)).length
def rSet (R : KV) (k n : Int) : KV := (rCut R k).take (rSpot (rCut R k) k) ++ (k, n) :: (rCut R k).drop (rSpot (rCut R k) k)
def rTick (R : KV) : KV := (R.filter fun r => r.2 != 1).map fun r => (r.1, r.2 - 1)
def rGone (R : KV) : List Int := (R.filter fun r => r.2 == 1).map (·.1)

theorem ab_len (now : Int) (R : KV) : (ab now R).length = R.length := List.length_map _
theorem ab_any (now : Int) (R : KV) (k : Int) : hasK (ab now R) k = (rIdx R k).isSome := by
  unfold hasK ab rIdx
  rw [List.any_map, List.findIdx?_isSome]
  rfl
theorem rAt_pos (R : KV) (k : Int) : (rIdx R k).isSome = decide (0 ≤ rAt R k) := by
  unfold rAt
  rcases rIdx R k with _ | i <;> simp
theorem rIdx_lt {R : KV} {k : Int} {i : Nat} (h : rIdx R k = some i) : ∃ hi : i < R.length, R[i].1 = k ∧ ∀ j (hj : j < i), R[j].1 ≠ k := by
  obtain ⟨h1, h2, h3⟩ := List.findIdx?_eq_some_iff_getElem.1 h
  exact ⟨h1, by simpa using h2, fun j hj => by have := h3 j hj; simpa using this⟩
theorem ab_at {now : Int} {R : KV} {k : Int} {i : Nat} (h : rIdx R k = some i) (hi : i < R.length) : atOf (ab now R) k = R[i].2 + now := by
  obtain ⟨h1, h2, h3⟩ := rIdx_lt h
  have hf : (ab now R).find? (fun r => r.1 == k) = some (R[i].1, R[i].2 + now) := by
    rw [List.find?_eq_some_iff_getElem]
    refine ⟨by simpa using h2, i, by rw [ab_len]; exact h1, by simp [ab], fun j hj => ?_⟩
    have := h3 j hj
    simpa [ab] using this
  unfold atOf
  rw [hf]
theorem ab_none {now : Int} {R : KV} {k : Int} (h : rIdx R k = none) : atOf (ab now R) k = 0 := by
  have hh : hasK (ab now R) k = false := by rw [ab_any, h]; rfl
  unfold atOf
  rcases hf : (ab now R).find? (fun r => r.1 == k) with _ | r
  · rw [hf]
  · have h1 := List.mem_of_find?_eq_some hf
    have h2 := List.find?_some hf
    rw [hasK, List.any_eq_false] at hh
    exact absurd h2 (by simpa using hh r h1)
theorem ab_cut (now : Int) (R : KV) (k : Int) : cut (ab now R) k = ab now (rCut R k) := by
  simp [cut, ab, rCut, List.filter_map, Function.comp_def]
theorem rCut_none {R : KV} {k : Int} (h : rIdx R k = none) : rCut R k = R := by
  unfold rCut
  rw [List.filter_eq_self]
  intro r hr
  have := List.findIdx?_eq_none_iff.1 h r hr
  simpa using this
theorem rCut_some {R : KV} {k : Int} {i : Nat} (hR : Rising R) (h : rIdx R k = some i) : rCut R k = R.take i ++ R.drop (i + 1) := by
  obtain ⟨hi, h2, h3⟩ := rIdx_lt h
  have e : R = R.take i ++ R[i] :: R.drop (i + 1) := by rw [← List.drop_eq_getElem_cons hi, List.take_append_drop]
  have hp : Rising (R.take i ++ R[i] :: R.drop (i + 1)) := by rw [← e]; exact hR
  obtain ⟨p1, p2, p3⟩ := List.pairwise_append.1 hp
  have p4 := (List.pairwise_cons.1 p2).1
  unfold rCut
  conv => lhs; rw [e]
  rw [List.filter_append, List.filter_cons]
  have e1 : (R[i].1 != k) = false := by simp [h2]
  rw [e1]
  simp only [Bool.false_eq_true, if_false]
  congr 1
  · rw [List.filter_eq_self]
    intro r hr
    have := p3 r hr R[i] List.mem_cons_self
    simp; omega
  · rw [List.filter_eq_self]
    intro r hr
    have := p4 r hr
    simp; omega
theorem Rising.cut {R : KV} (h : Rising R) (k : Int) : Rising (rCut R k) := h.filter _
theorem Lefts.cut {R : KV} (h : Lefts R) (k : Int) : Lefts (rCut R k) := fun r hr => h r (List.mem_filter.1 hr).1
theorem rCut_len (R : KV) (k : Int) : (rCut R k).length ≤ R.length := List.length_filter_le _ _
theorem rCut_ne {R : KV} {k : Int} : ∀ r ∈ rCut R k, r.1 ≠ k := fun r hr => by simpa using (List.mem_filter.1 hr).2

theorem take_while_len {α : Type} (p : α → Bool) : ∀ l : List α, l.take (l.takeWhile p).length = l.takeWhile p ∧ l.drop (l.takeWhile p).length = l.dropWhile p
  | [] => by simp
  | x :: l => by
    by_cases h : p x = true
    · have ih := take_while_len p l
      rw [List.takeWhile_cons_of_pos h, List.dropWhile_cons_of_pos h]
      simp [ih]
    · rw [List.takeWhile_cons_of_neg h, List.dropWhile_cons_of_neg h]
      simp
theorem drop_ge {R : KV} (hR : Rising R) (k : Int) : ∀ r ∈ R.dropWhile (fun r => decide (r.1 < k)), k ≤ r.1 := by
  induction R with
  | nil => simp
  | cons x R ih =>
    obtain ⟨h1, h2⟩ := List.pairwise_cons.1 hR
    by_cases h : x.1 < k
    · rw [List.dropWhile_cons_of_pos (by simpa using h)]
      exact ih h2
    · rw [List.dropWhile_cons_of_neg (by simpa using h)]
      intro r hr
      rcases List.mem_cons.1 hr with rfl | hr
      · omega
      · have := h1 r hr; omega
theorem take_lt (R : KV) (k : Int) : ∀ r ∈ R.takeWhile (fun r => decide (r.1 < k)), r.1 < k := by
  induction R with
  | nil => simp
  | cons x R ih =>
    by_cases h : x.1 < k
    · rw [List.takeWhile_cons_of_pos (by simpa using h)]
      intro r hr
      rcases List.mem_cons.1 hr with rfl | hr
      · exact h
      · exact ih r hr
    · rw [List.takeWhile_cons_of_neg (by simpa using h)]
      simp
theorem Rising.set {R : KV} (h : Rising R) (k n : Int) : Rising (rSet R k n) := by
  unfold rSet rSpot
  obtain ⟨e1, e2⟩ := take_while_len (fun r : Int × Int => decide (r.1 < k)) (rCut R k)
  rw [e1, e2]
  have hc := h.cut k
  have hp : Rising ((rCut R k).takeWhile (fun r => decide (r.1 < k)) ++ (rCut R k).dropWhile (fun r => decide (r.1 < k))) := by rw [List.takeWhile_append_dropWhile]; exact hc
  obtain ⟨p1, p2, p3⟩ := List.pairwise_append.1 hp
  have hge : ∀ r ∈ (rCut R k).dropWhile (fun r => decide (r.1 < k)), k < r.1 := by
    intro r hr
    have h1 := drop_ge hc k r hr
    have h2 := rCut_ne r ((List.dropWhile_sublist _).mem hr)
    omega
  refine List.pairwise_append.2 ⟨p1, List.pairwise_cons.2 ⟨fun r hr => hge r hr, p2⟩, fun a ha b hb => ?_⟩
  rcases List.mem_cons.1 hb with rfl | hb
  · exact take_lt _ _ a ha
  · exact p3 a ha b hb
theorem Lefts.set {R : KV} (h : Lefts R) (k n : Int) (hn : 1 ≤ n ∧ n ≤ 65535) : Lefts (rSet R k n) := by
  intro r hr
  unfold rSet at hr
  rcases List.mem_append.1 hr with hr | hr
  · exact h.cut k r (List.mem_of_mem_take hr)
  · rcases List.mem_cons.1 hr with rfl | hr
    · exact hn
    · exact h.cut k r (List.mem_of_mem_drop hr)
theorem rSet_len (R : KV) (k n : Int) : (rSet R k n).length ≤ R.length + 1 := by
  have := rCut_len R k
  unfold rSet
  simp
  omega
theorem ab_set (now : Int) (R : KV) (k n : Int) : (put (ab now R) k (now + n)).Perm (ab now (rSet R k n)) := by
  have e : put (ab now R) k (now + n) = (k, now + n) :: ab now (rCut R k) := by
    show (k, now + n) :: cut (ab now R) k = _
    rw [ab_cut]
  rw [e]
  unfold rSet
  conv => lhs; rw [← List.take_append_drop (rSpot (rCut R k) k) (rCut R k)]
  unfold ab
  rw [List.map_append, List.map_append, List.map_cons]
  rw [show (k, n).2 + now = now + n from by show n + now = _; omega]
  exact List.perm_middle.symm
theorem ab_stay (now : Int) (R : KV) : stay (now + 1) (ab now R) = ab (now + 1) (rTick R) := by
  unfold stay ab rTick
  rw [List.filter_map, List.map_map]
  have e : (List.filter ((fun p : Int × Int => p.2 != now + 1) ∘ fun r => (r.1, r.2 + now)) R) = R.filter fun r => r.2 != 1 := by
    congr 1
    funext r
    rw [Bool.eq_iff_iff]
    simp
    omega
  rw [e]
  congr 1
  funext r
  simp
  omega
theorem ab_out (now : Int) (R : KV) : outK (now + 1) (ab now R) = rGone R := by
  unfold outK ab rGone
  rw [List.filter_map, List.map_map]
  have e : (List.filter ((fun p : Int × Int => p.2 == now + 1) ∘ fun r => (r.1, r.2 + now)) R) = R.filter fun r => r.2 == 1 := by
    congr 1
    funext r
    rw [Bool.eq_iff_iff]
    simp
    omega
  rw [e]
  rfl
theorem Rising.keys {R : KV} (h : Rising R) : (R.map (·.1)).Pairwise (· ≤ ·) := List.pairwise_map.2 (h.imp fun h => by omega)
theorem ab_gone {R : KV} (h : Rising R) (now : Int) : sorted (outK (now + 1) (ab now R)) = rGone R := by
  rw [ab_out]
  exact sorted_of (Rising.keys (h.filter _))
theorem ab_keys {R : KV} (h : Rising R) (now : Int) : sorted ((ab now R).map (·.1)) = R.map (·.1) := by
  have e : (ab now R).map (·.1) = R.map (·.1) := by unfold ab; rw [List.map_map]; rfl
  rw [e]
  exact sorted_of h.keys
theorem Rising.tick {R : KV} (h : Rising R) : Rising (rTick R) := List.pairwise_map.2 (h.filter _)
theorem Lefts.tick {R : KV} (h : Lefts R) : Lefts (rTick R) := by
  intro r hr
  unfold rTick at hr
  rw [List.mem_map] at hr
  obtain ⟨p, hp, rfl⟩ := hr
  obtain ⟨h1, h2⟩ := List.mem_filter.1 hp
  have := h p h1
  have h2 : p.2 ≠ 1 := by simpa using h2
  dsimp only
  omega
theorem rTick_len (R : KV) : (rTick R).length + (rGone R).length = R.length := by
  unfold rTick rGone
  rw [List.length_map, List.length_map]
  induction R with
  | nil => rfl
  | cons r R ih =>
    rw [List.filter_cons, List.filter_cons]
    by_cases h : r.2 = 1
    · have e1 : (r.2 != 1) = false := by simp [h]
      have e2 : (r.2 == 1) = true := by simp [h]
      rw [e1, e2]
      simp
      omega
    · have e1 : (r.2 != 1) = true := by simp [h]
      have e2 : (r.2 == 1) = false := by simp [h]
      rw [e1, e2]
      simp
      omega
/-- running on: the time, the rows, what ran out when -/
def rRun : Nat → Int → KV → Int × KV × List (Int × Int)
  | 0, now, R => (now, R, [])
  | m + 1, now, R => if R.length = 0 then (now, R, []) else
    let r := rRun m (now + 1) (rTick R)
    (r.1, r.2.1, (rGone R).map (fun k => (now + 1, k)) ++ r.2.2)
theorem rRun_len : ∀ (m : Nat) (now : Int) (R : KV), (rRun m now R).2.1.length + (rRun m now R).2.2.length = R.length
  | 0, _, R => by simp [rRun]
  | m + 1, now, R => by
    unfold rRun
    split
    · simp
    · have h1 := rRun_len m (now + 1) (rTick R)
      have h2 := rTick_len R
      simp only [List.length_append, List.length_map]
      omega
theorem rRun_ok : ∀ (m : Nat) (now : Int) (R : KV), Rising R → Lefts R → Rising (rRun m now R).2.1 ∧ Lefts (rRun m now R).2.1 ∧ now ≤ (rRun m now R).1 ∧ (rRun m now R).1 ≤ now + m
  | 0, now, R, h1, h2 => by simp [rRun, h1, h2]
  | m + 1, now, R, h1, h2 => by
    unfold rRun
    split
    · refine ⟨h1, h2, by simp, by simp; omega⟩
    · have := rRun_ok m (now + 1) (rTick R) h1.tick h2.tick
      refine ⟨this.1, this.2.1, by have := this.2.2; simp; omega, by have := this.2.2; simp; omega⟩
end Go.Proofs.Ytbhhkjkjihenoaa.clk
