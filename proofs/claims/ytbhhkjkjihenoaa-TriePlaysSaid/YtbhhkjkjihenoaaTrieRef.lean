/- Rows of confluenceref14 in memory; what At returns. Conditions as each lemma states. -/
import Derived.Test.YtbhhkjkjihenoaaSplice
import Derived.Test.YtbhhkjkjihenoaaTrieOps
namespace Go.Proofs.Ytbhhkjkjihenoaa.tri
open Go.RowKit Go.Proofs.Ytbhhkjkjihenoaa.kit Go.Proofs.Ytbhhkjkjihenoaa.mem Go.Proofs.Ytbhhkjkjihenoaa.foot Go.Proofs.Ytbhhkjkjihenoaa.pfx
set_option linter.unusedVariables false
set_option linter.unusedSimpArgs false

abbrev Rows := List (Key × Int)
/-- a row's cells -/
def r3 (r : Key × Int) : List Value := [.int .u32 (adr r.1 : Int), .int .i64 (r.1.length : Int), .int .i64 r.2]
def rv (l : Rows) : List Value := l.flatMap r3
theorem rv_len (l : Rows) : (rv l).length = l.length * 3 := by
  induction l with
  | nil => rfl
  | cons r l ih => simp only [rv, List.flatMap_cons, List.length_append, List.length_cons, r3, List.length_nil] at ih ⊢; omega
theorem rv_app (l m : Rows) : rv (l ++ m) = rv l ++ rv m := by simp [rv]
theorem rv_cons (r : Key × Int) (l : Rows) : rv (r :: l) = r3 r ++ rv l := by simp [rv]
theorem rv_one (l : Rows) : ∀ u ∈ rv l, u.oneCell' = true := by
  intro u hu
  simp only [rv, List.mem_flatMap, r3] at hu
  obtain ⟨r, _, hu⟩ := hu
  simp at hu
  rcases hu with rfl | rfl | rfl <;> rfl
theorem rv_at : ∀ (l : Rows) (k : Nat) (h : k < l.length), (rv l)[k * 3 + 0]? = some (.int .u32 (adr l[k].1 : Int)) ∧ (rv l)[k * 3 + 1]? = some (.int .i64 (l[k].1.length : Int)) ∧ (rv l)[k * 3 + 2]? = some (.int .i64 l[k].2)
  | r :: l, 0, _ => by rw [rv_cons]; simp [r3]
  | r :: l, k + 1, h => by
    have ih := rv_at l k (by simpa using h)
    rw [rv_cons]
    have e : ∀ j, (r3 r ++ rv l)[(k + 1) * 3 + j]? = (rv l)[k * 3 + j]? := fun j => by
      rw [List.getElem?_append_right (by simp [r3]; omega)]
      congr 1
      simp [r3]; omega
    rw [e, e, e]
    simpa using ih
theorem rv_take : ∀ (l : Rows) (k : Nat), rv (l.take k) = (rv l).take (k * 3)
  | _, 0 => by simp [rv]
  | [], k + 1 => by simp [rv]
  | r :: l, k + 1 => by
    rw [List.take_succ_cons, rv_cons, rv_cons, rv_take l k, show (k + 1) * 3 = (r3 r).length + k * 3 from by simp [r3]; omega, List.take_length_add_append]
theorem rv_drop : ∀ (l : Rows) (k : Nat), rv (l.drop k) = (rv l).drop (k * 3)
  | _, 0 => by simp
  | [], k + 1 => by simp [rv]
  | r :: l, k + 1 => by
    rw [List.drop_succ_cons, rv_cons, rv_drop l k, show (k + 1) * 3 = (r3 r).length + k * 3 from by simp [r3]; omega, ← List.drop_drop, List.drop_left]
/-- keys short enough -/
def Short (l : Rows) : Prop := ∀ r ∈ l, r.1.length ≤ 32
/-- where a key stands -/
def idx (l : Rows) (o : Option Key) : Option Nat := match o with | some p => l.findIdx? (fun r => r.1 == p) | none => none
def atI (l : Rows) (o : Option Key) : Int := match idx l o with | some i => (i : Int) | none => -1
theorem row_key {k : Key} {a : Nat} {n : Int} (ha : a < 4294967296) (hk : k.length ≤ 32) : (adr k = a ∧ (k.length : Int) = n) ↔ kyOf a n = some k := by
  constructor
  · rintro ⟨rfl, rfl⟩; exact kyOf_adr hk
  · intro h
    obtain ⟨_, _, h1, h2⟩ := kyOf_some ha h
    exact ⟨h1.symm, h2.symm⟩
theorem idx_none {l : Rows} {o : Option Key} (h : ∀ j (hj : j < l.length), o ≠ some l[j].1) : idx l o = none := by
  cases o with
  | none => rfl
  | some p =>
    unfold idx
    dsimp only
    rw [List.findIdx?_eq_none_iff]
    intro r hr
    obtain ⟨j, hj, rfl⟩ := List.mem_iff_getElem.1 hr
    have := h j hj
    simp only [beq_eq_false_iff_ne]
    exact fun e => this (by rw [e])
theorem idx_some {l : Rows} {o : Option Key} {i : Nat} (hi : i < l.length) (h : o = some l[i].1) (hb : ∀ j (hj : j < i), o ≠ some (l[j]'(by omega)).1) : idx l o = some i := by
  subst h
  unfold idx
  dsimp only
  rw [List.findIdx?_eq_some_iff_getElem]
  refine ⟨hi, by simp, fun j hj => ?_⟩
  have := hb j hj
  simp only [beq_iff_eq]
  exact fun e => this (by rw [e])

set_option maxRecDepth 100000 in
set_option maxHeartbeats 1000000 in
theorem At_any (B : Nat) (l : Rows) (A : Option Addr) (c : Nat) (a : Nat) (n : Int) (o : Option Key) (z : Int) (w : World) (hl : l.length ≤ 1000000) (hs : Short l) (ha : a < 4294967296) (ho : o = kyOf a n) (hz : z = atI l o) (hr : Row3 B w 3 A l.length c (rv l)) :
    Calls Try.prog 24 #[.slice A l.length c, .agg #[.int .u32 a, .int .i64 n]] w fun e w' => e = .returned (.int .i64 z) ∧ Below w.heap.size w w' := by
  have HR := Lib.hid hr
  have HS := Lib.hid hs
  have HZ := Lib.hid hz
  have HO := Lib.hid ho
  have HK0 := Lib.hid (Bk.new w 30 #[.int .u32 (a : Int), .int .i64 n])
  have HB0 : Hid (Below w.heap.size w (w.alloc (.cells #[.int .u32 (a : Int), .int .i64 n] 30))) := (Below.refl _ _).alloc (Nat.le_refl _) _
  clear hr hs hz ho
  go_enter Try.func24, Try.ntmps24
  go_wp2_with fail
  go_loopw [5] (fun i wr => ∃ k m : Nat, k ≤ l.length ∧ i = .int .i64 k ∧ wr = (w.alloc (.cells #[.int .u32 (a : Int), .int .i64 n] 30)).drewN m ∧ ∀ j (hj : j < k) (hjl : j < l.length), o ≠ some l[j].1) (fun i _ => l.length - (intOf i).toNat)
  case atStart => exact ⟨0, 0, by omega, rfl, rfl, fun j hj => by omega⟩
  case round =>
    obtain ⟨k, m, hk, rfl, rfl, hno⟩ := hrel
    have HNo := Lib.hid hno
    clear hno
    by_cases hlt : k < l.length
    · obtain ⟨x0, x1, x2⟩ := rv_at l k hlt
      obtain ⟨b, off, rfl, hb, _, c0⟩ := HR.out.cell hlt (by omega) x0
      obtain ⟨b', off', e', _, _, c1⟩ := HR.out.cell hlt (by omega) x1
      cases e'
      have q0 := (HB0.out.cell (p := ⟨b, off + k * 3, none⟩) hb).trans c0
      have q1 := (HB0.out.cell (p := ⟨b, off + k * 3 + 1, none⟩) hb).trans c1
      have hki : (k : Int) < (l.length : Int) := by omega
      have hsh := HS.out l[k] (List.getElem_mem hlt)
      have HKe : Hid (o = kyOf a n) := HO.out
      have hrk := row_key (n := n) ha hsh
      rw [← HKe.out] at hrk
      have HIs : Hid (o = some l[k].1 → z = k) := fun h => by rw [HZ.out, atI, idx_some hlt h fun j hj => HNo.out j hj (by omega)]
      have HNn : Hid (o ≠ some l[k].1 → ∀ j (hj : j < k + 1) (hjl : j < l.length), o ≠ some l[j].1) := fun h j hj hjl => by
        rcases Nat.lt_or_ge j k with h2 | h2
        · exact HNo.out j h2 hjl
        · have : j = k := by omega
          subst this; exact h
      by_cases hq : o = some l[k].1
      · obtain ⟨ea, en⟩ := hrk.2 hq
        have HE : Hid (z = k) := HIs.out hq
        have e3 : ((adr l[k].1 : Int) == (a : Int)) = true := by rw [ea]; simp
        have e4 : ((l[k].1.length : Int) == n) = true := by rw [en]; simp
        clear ea en hq hrk hsh x0 x1 x2 c0 c1
        go_wp2_with fail
        go_quiet (fail)
        go_wp2_with fail
        go_ret
        exact ⟨by rw [HE.out]; rfl, below_drewN (below_drewN HB0.out _) _⟩
      · have HE := Lib.hid (HNn.out hq)
        have hkk : ((adr l[k].1 : Int) == (a : Int)) = false ∨ (((adr l[k].1 : Int) == (a : Int)) = true ∧ ((l[k].1.length : Int) == n) = false) := by
          by_cases ea : adr l[k].1 = a
          · refine .inr ⟨by rw [ea]; simp, ?_⟩
            rw [beq_eq_false_iff_ne]; exact fun en => hq (hrk.1 ⟨ea, en⟩)
          · exact .inl (by rw [beq_eq_false_iff_ne]; omega)
        clear hq hrk hsh x0 x1 x2 c0 c1
        rcases hkk with e3 | ⟨e3, e4⟩
        all_goals
          go_wp2_with fail
          go_quiet (fail)
          go_wp2_with fail
          go_roundw
          case rel => exact ⟨k + 1, _, by omega, by go_num, rfl, HE.out⟩
          case measure => simp [intOf]; omega
    · obtain rfl : k = l.length := by omega
      have HE : Hid (z = -1) := by rw [Hid, HZ.out, atI, idx_none fun j hj => HNo.out j hj hj]
      go_wp2_with fail
      go_ret
      exact ⟨by rw [HE.out]; rfl, below_drewN HB0.out _⟩
end Go.Proofs.Ytbhhkjkjihenoaa.tri
