/- What confluenceref01.Cmp and confluenceref14.Put return. Condition: good keys, at most a million rows. -/
import Derived.Test.YtbhhkjkjihenoaaTrieRefCut
namespace Go.Proofs.Ytbhhkjkjihenoaa.tri
open Go.RowKit Go.Proofs.Ytbhhkjkjihenoaa.kit Go.Proofs.Ytbhhkjkjihenoaa.mem Go.Proofs.Ytbhhkjkjihenoaa.foot Go.Proofs.Ytbhhkjkjihenoaa.pfx
set_option linter.unusedVariables false
set_option linter.unusedSimpArgs false

/-- which of two keys comes first, as a number -/
def cmpZ (k p : Key) : Int := if lt k p = true then -1 else if k = p then 0 else 1
set_option maxHeartbeats 1000000 in
theorem cmp_num (a n b m : Nat) (z : Int) (hz : z = if a < b ∨ (a = b ∧ n < m) then -1 else if a = b ∧ n = m then 0 else 1) (w : World) :
    Calls Try.prog 106 #[.agg #[.int .u32 a, .int .i64 n], .agg #[.int .u32 b, .int .i64 m]] w fun e w' => e = .returned (.int .i64 z) ∧ Below w.heap.size w w' := by
  rcases Nat.lt_trichotomy a b with h | h | h
  · have HZ : Hid (z = -1) := by rw [Hid, hz, if_pos (.inl h)]
    clear hz
    go_enter Try.func106, Try.ntmps106
    go_wp2_with fail
    go_ret
    exact ⟨by rw [HZ.out]; rfl, Go.Joins.below_alloc2 w _ _⟩
  · subst h
    rcases Nat.lt_trichotomy n m with h | h | h
    · have HZ : Hid (z = -1) := by rw [Hid, hz, if_pos (.inr ⟨rfl, h⟩)]
      clear hz
      go_enter Try.func106, Try.ntmps106
      go_wp2_with fail
      go_ret
      exact ⟨by rw [HZ.out]; rfl, Go.Joins.below_alloc2 w _ _⟩
    · subst h
      have HZ : Hid (z = 0) := by rw [Hid, hz, if_neg (by omega), if_pos ⟨rfl, rfl⟩]
      clear hz
      go_enter Try.func106, Try.ntmps106
      go_wp2_with fail
      go_ret
      exact ⟨by rw [HZ.out]; rfl, Go.Joins.below_alloc2 w _ _⟩
    · have HZ : Hid (z = 1) := by rw [Hid, hz, if_neg (by omega), if_neg (by omega)]
      have e4 : ((n : Int) == (m : Int)) = false := by rw [beq_eq_false_iff_ne]; omega
      clear hz
      go_enter Try.func106, Try.ntmps106
      go_wp2_with fail
      go_ret
      exact ⟨by rw [HZ.out]; rfl, Go.Joins.below_alloc2 w _ _⟩
  · have HZ : Hid (z = 1) := by rw [Hid, hz, if_neg (by omega), if_neg (by omega)]
    have e4 : ((a : Int) == (b : Int)) = false := by rw [beq_eq_false_iff_ne]; omega
    clear hz
    go_enter Try.func106, Try.ntmps106
    go_wp2_with fail
    go_ret
    exact ⟨by rw [HZ.out]; rfl, Go.Joins.below_alloc2 w _ _⟩
theorem Cmp_any (k p : Key) (z : Int) (hk : k.length ≤ 32) (hp : p.length ≤ 32) (hz : z = cmpZ k p) (w : World) :
    Calls Try.prog 106 #[.agg #[.int .u32 (adr k), .int .i64 k.length], .agg #[.int .u32 (adr p), .int .i64 p.length]] w fun e w' => e = .returned (.int .i64 z) ∧ Below w.heap.size w w' := by
  refine cmp_num _ _ _ _ z ?_ w
  rw [hz, cmpZ]
  have h1 := lt_iff hk hp
  have h2 := @key_eq k p
  by_cases h : lt k p = true
  · rw [if_pos h, if_pos (h1.1 h)]
  · rw [if_neg h, if_neg (fun e => h (h1.2 e))]
    by_cases e : k = p
    · rw [if_pos e, if_pos (h2.1 e)]
    · rw [if_neg e, if_neg (fun x => e (h2.2 x))]
/-- how many rows come before a key -/
def before (l : Rows) (p : Key) : Nat := (l.takeWhile fun x => lt x.1 p).length
theorem before_le (l : Rows) (p : Key) : before l p ≤ l.length := by unfold before; exact (List.takeWhile_prefix _).length_le
theorem before_lt : ∀ (l : Rows) (p : Key) {k : Nat} (h : k < before l p) (hl : k < l.length), lt l[k].1 p = true
  | [], _, _, h, _ => by simp [before] at h
  | r :: l, p, k, h, hl => by
    unfold before at h
    rw [List.takeWhile_cons] at h
    split at h
    · rename_i hr
      cases k with
      | zero => exact hr
      | succ k => exact before_lt l p (by unfold before; simpa using h) (by simpa using hl)
    · simp at h
theorem before_at : ∀ (l : Rows) (p : Key) (hl : before l p < l.length), lt (l[before l p]'hl).1 p = false
  | [], _, hl => by simp at hl
  | r :: l, p, hl => by
    by_cases hr : lt r.1 p = true
    · have e : before (r :: l) p = before l p + 1 := by unfold before; rw [List.takeWhile_cons, if_pos hr]; rfl
      have ih := before_at l p (by rw [e] at hl; simpa using hl)
      simp only [e]
      simpa using ih
    · have e : before (r :: l) p = 0 := by unfold before; rw [List.takeWhile_cons, if_neg hr]; rfl
      simp only [e]
      simpa using hr
theorem take_of_app {α : Type} {x y l : List α} (h : x ++ y = l) : l.take x.length = x ∧ l.drop x.length = y := by subst h; exact ⟨List.take_left, List.drop_left⟩
theorem before_take (l : Rows) (p : Key) : l.takeWhile (fun x => lt x.1 p) = l.take (before l p) ∧ l.dropWhile (fun x => lt x.1 p) = l.drop (before l p) := by
  have h := take_of_app (List.takeWhile_append_dropWhile (p := fun x : Key × Int => lt x.1 p) (l := l))
  exact ⟨h.1.symm, h.2.symm⟩
theorem rv_set : ∀ (l : Rows) (i : Nat) (h : i < l.length) (v : Int), rv (l.set i (l[i].1, v)) = (rv l).set (i * 3 + 2) (.int .i64 v)
  | r :: l, 0, _, v => by simp [rv, r3]
  | r :: l, i + 1, h, v => by
    have ih := rv_set l i (by simpa using h) v
    have e1 : (r :: l).set (i + 1) ((r :: l)[i + 1].1, v) = r :: l.set i ((l[i]'(by simpa using h)).1, v) := by simp
    rw [e1, rv_cons, rv_cons, ih, show (i + 1) * 3 + 2 = (r3 r).length + (i * 3 + 2) from by simp [r3]; omega]
    rw [List.set_append_right _ _ (by omega)]
    congr 2
    omega

set_option maxRecDepth 100000 in
set_option maxHeartbeats 2000000 in
theorem refPut_some (B : Nat) (l : Rows) (A : Option Addr) (c : Nat) (p : Key) (v : Int) (i : Nat) (w : World) (hl : l.length ≤ 1000000) (hs : Short l) (hp : p.length ≤ 32) (hi : idx l (some p) = some i) (hil : i < l.length) (hr : Row3 B w 3 A l.length c (rv l)) (hB : B ≤ w.heap.size) :
    Calls Try.prog 67 #[.slice A l.length c, .agg #[.int .u32 (adr p), .int .i64 p.length], .int .i64 v] w (RowsP B w A (l.set i (l[i].1, v))) := by
  have HB0 : Hid (Below w.heap.size w (w.alloc (.cells #[.int .u32 (adr p : Int), .int .i64 (p.length : Int)] 30))) := (Below.refl _ _).alloc (Nat.le_refl _) _
  have HAt := Lib.hid (At_any B l A c (adr p) p.length (some p) (i : Int) _ hl hs (adr_lt hp) (kyOf_adr hp).symm (by rw [atI, hi]) (hr.bel HB0.out))
  obtain ⟨i0, hi0, hz0, hz1, hz2⟩ := info_parts info_row
  have Hi := Lib.hid hi0
  have Hz0 := Lib.hid hz0
  have Hz1 := Lib.hid hz1
  have Hz2 := Lib.hid hz2
  have HR := Lib.hid hr
  have HE : Hid (∀ w' A' c', Acc w 47 3 w' A' l.length c' ((rv l).set (i * 3 + 2) (.int .i64 v)) → RowsP B w A (l.set i (l[i].1, v)) (.returned (.slice A' l.length c')) w') := fun w' A' c' h => h.rows hB (by simp) (rv_set l i hil v).symm
  clear hr hi hs hi0 hz0 hz1 hz2
  generalize RowsP B w A (l.set i (l[i].1, v)) = Q at *
  have hi1 : (i : Int) < l.length := by omega
  have hl1 : (l.length : Int) ≤ 1000000 := by omega
  go_enter Try.func67, Try.ntmps67
  go_wp2_with fail
  refine HAt.out.mono ?_; rintro e w1 ⟨rfl, hb1⟩
  have HB1 := Lib.hid (HB0.out.trans (hb1.mono HB0.out.size))
  have HA0 : Hid (Acc w 47 3 (w1.alloc (.cells #[] 47)) (some ⟨w1.heap.size, 0, none⟩) 0 0 []) := Acc.start (HB1.out.alloc HB1.out.size _) (Bk.new w1 _ _) HB1.out.size
  clear hb1
  go_wp2_with (at_builtin; refine wpList_app _ rfl (.tmp 15) (.tmp 16) _ rfl 47 i0 _ 3 24 Try.underlying25 Hi.out Hz0.out Hz1.out Hz2.out rfl (by omega) (some ⟨w1.heap.size, 0, none⟩) 0 0 [] rfl HA0.out.own _ A l.length c HR.out.nil (rv l) rfl (HA0.out.rg HR.out.rg) (rv_one l) (by unfold maxLen; omega) (by omega) ?_; intro A3 c3 w3 ho3 hc3 hf3; have HA3 := Lib.hid (HA0.out.app ho3 hc3 hf3); obtain ⟨g3, off3, rfl⟩ := ho3.form (by omega); obtain ⟨s0, sf3, sl3⟩ := HA3.out.own.at_ (i * 3 + 2) (rv_at l i hil).2.2; rw [← Nat.add_assoc] at s0; clear ho3 hc3 hf3)
  have HA4 : Hid (Acc w 47 3 (w3.setCell ⟨g3, off3 + i * 3 + 2, none⟩ (.int .i64 v)) (some ⟨g3, off3, none⟩) l.length c3 ((rv l).set (i * 3 + 2) (.int .i64 v))) := by
    have h1 := HA3.out.own.put (i * 3 + 2) (by omega) (.int .i64 v)
    rw [← Nat.add_assoc] at h1
    have e : ([] ++ rv l : List Value) = rv l := rfl
    have hlen : 0 + l.length = l.length := Nat.zero_add _
    rw [hlen] at h1
    exact ⟨h1, HA3.out.bel.setCell (HA3.out.low g3 (by rw [sf_some])) _, HA3.out.low⟩
  first
    | exact HE.out _ _ _ HA4.out
    | (go_wp2_with fail; exact HE.out _ _ _ HA4.out)
end Go.Proofs.Ytbhhkjkjihenoaa.tri
