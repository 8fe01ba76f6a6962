/- What notice's good, Close, Encode, Decode and the word and number of a small one return; confluencelaw11.lives. Conditions as each lemma states. -/
import Derived.Test.YthoclemgiopjpaaDoorOctLives
import Derived.Test.YthoclemgiopjpaaDoorOctRef
import Derived.Test.YthoclemgiopjpaaDoorTold
import Derived.Test.YthoclemgiopjpaaDoorStruct
import Derived.Deep.RegionHeld3
import Derived.Deep.QuietTactic
import Derived.BigQuiet
import Derived.WalkSpells
namespace Go.Proofs.YthoclemgiopjpaaDoor.notice
open Go.RowKit Go.Proofs.YthoclemgiopjpaaDoor.kit Go.Proofs.YthoclemgiopjpaaDoor.mem Go.Proofs.YthoclemgiopjpaaDoor.foot Go.Proofs.YthoclemgiopjpaaDoor.octet Go.Proofs.YthoclemgiopjpaaDoor.told Go.Proofs.YthoclemgiopjpaaDoor.foot
set_option linter.unusedVariables false
set_option linter.unusedSimpArgs false

theorem info_notice : (Tryd.prog.info? 24).map (·.size) = some 3 := by kernel_rfl
/-- whether a notice is good -/
def goodB (c s : Int) (n : Nat) : Bool := decide (1 ≤ c) && decide (c ≤ 255) && decide (0 ≤ s) && decide (s ≤ 255) && decide (n ≤ 4075)

theorem good_any (c s : Int) (A : Option Addr) (n k : Nat) (w : World) :
    Calls Tryd.prog 25 #[.agg #[.int .i64 c, .int .i64 s, .slice A n k]] w fun e w' => e = .returned (.bool (goodB c s n)) ∧ Below w.heap.size w w' := by
  have HG : Hid (goodB c s n = (decide (1 ≤ c) && decide (c ≤ 255) && decide (0 ≤ s) && decide (s ≤ 255) && decide (n ≤ 4075))) := rfl
  have hn : decide ((n : Int) ≤ 4075) = decide (n ≤ 4075) := by rw [Bool.eq_iff_iff]; simp; omega
  generalize decide (n ≤ 4075) = d5 at *
  generalize hd1 : decide (1 ≤ c) = d1 at *
  generalize hd2 : decide (c ≤ 255) = d2 at *
  generalize hd3 : decide (0 ≤ s) = d3 at *
  generalize hd4 : decide (s ≤ 255) = d4 at *
  have hcases : d1 = false ∨ (d1 = true ∧ d2 = false) ∨ (d1 = true ∧ d2 = true ∧ d3 = false) ∨ (d1 = true ∧ d2 = true ∧ d3 = true ∧ d4 = false) ∨ (d1 = true ∧ d2 = true ∧ d3 = true ∧ d4 = true) := by
    cases d1 <;> cases d2 <;> cases d3 <;> cases d4 <;> simp
  rcases hcases with rfl | ⟨rfl, rfl⟩ | ⟨rfl, rfl, rfl⟩ | ⟨rfl, rfl, rfl, rfl⟩ | ⟨rfl, rfl, rfl, rfl⟩
  all_goals
    go_enter Tryd.func25, Tryd.ntmps25
    go_wp2_with fail
    go_ret
    exact ⟨by rw [HG.out]; first | rfl | simp, (Below.refl _ _).alloc (Nat.le_refl _) _⟩

theorem Close_any (n : Int) (w : World) : Calls Tryd.prog 9 #[.int .i64 n] w fun e w' => e = .returned (.agg #[.int .i64 6, .int .i64 n, .slice none 0 0]) ∧ Below w.heap.size w w' := by
  go_enter Tryd.func9, Tryd.ntmps9
  go_wp2_with fail
  exact bodyPost_ret (results_cell_row rfl _ _ w.heap.size 24 _ (0, 0) _ rfl (Bk.new w _ _) Tryd.underlying24 rfl info_notice) rfl ⟨rfl, (Below.refl _ _).alloc (Nat.le_refl _) _⟩

/-- bytes handed back, new -/
def NewB (w : World) (A : Option Addr) (c : Nat) (l : List UInt8) (w' : World) : Prop :=
  (A = none → c = 0) ∧ l.length ≤ c ∧ c ≤ maxLen ∧ Bs w' w'.heap.size A l ∧ Below w.heap.size w w'

set_option maxRecDepth 100000 in
set_option maxHeartbeats 1000000 in
theorem Encode_yes (c s : Int) (A : Option Addr) (k B : Nat) (l : List UInt8) (w : World) (hg : goodB c s l.length = true) (hA : A = none → k = 0) (hB : B ≤ w.heap.size) (hs : Bs w B A l) :
    Calls Tryd.prog 13 #[.agg #[.int .i64 c, .int .i64 s, .slice A l.length k]] w fun e w' => ∃ A' c', e = .returned (.tuple #[.slice A' (l.length + 2) c', .int .i64 0]) ∧ NewB w A' c' ([octet.byteOf c, octet.byteOf s] ++ l) w' := by
  have hl : l.length ≤ 4075 := by simp [goodB] at hg; omega
  have HG := good_any c s A l.length k (w.alloc (.cells #[.int .i64 c, .int .i64 s, .slice A l.length k] 24))
  rw [hg] at HG
  have HG := Lib.hid HG
  have HK0 : Hid (Bk (w.alloc (.cells #[.int .i64 c, .int .i64 s, .slice A l.length k] 24)) w.heap.size 24 #[.int .i64 c, .int .i64 s, .slice A l.length k]) := Bk.new _ _ _
  have HB0 : Hid (Below w.heap.size w (w.alloc (.cells #[.int .i64 c, .int .i64 s, .slice A l.length k] 24))) := (Below.refl _ _).alloc (Nat.le_refl _) _
  have HS0 := Lib.hid hs
  have HA := Lib.hid hA
  clear hg hs hA
  go_enter Tryd.func13, Tryd.ntmps13
  go_wp2_with fail
  refine HG.out.mono ?_; rintro e w1 ⟨rfl, hb1⟩
  have hk1 := HK0.out.below hb1 HK0.out.lt
  have HB1 := Lib.hid (HB0.out.trans (hb1.mono HB0.out.size))
  have HK1 := Lib.hid hk1
  have c0 := hk1.cell 0
  have c1 := hk1.cell 1
  have c2 := hk1.cell 2
  have hlt := hk1.lt
  simp at c0 c1 c2
  have HW0 : Hid (Wtr (w1.alloc (.cells #[.slice none 0 0] 47)) w1.heap.size w1.heap.size []) := wtr_new w1
  have HS : Hid (Bs w1 B A l ∧ B ≤ w1.heap.size) := ⟨HS0.out.below HB1.out hB, Nat.le_trans hB HB1.out.size⟩
  clear hb1 hk1 HG HK0 HB0 HS0
  go_wp2_with fail
  have HWd : Hid (Wtr (w1.alloc (.cells #[.slice none 0 0] 47)).drew w1.heap.size w1.heap.size []) := HW0.out.below ((Below.refl _ _).drew)
  have hlt2 := HB1.out.size
  have HK2 : Hid (Below w.heap.size w (w1.alloc (.cells #[.slice none 0 0] 47)).drew ∧ Below w1.heap.size w1 (w1.alloc (.cells #[.slice none 0 0] 47)).drew) := ⟨(HB1.out.alloc HB1.out.size _).drew, ((Below.refl _ _).alloc (Nat.le_refl _) _).drew⟩
  have d0 : (w1.alloc (.cells #[.slice none 0 0] 47)).drew.cell? ⟨w.heap.size, 0, none⟩ = some (.int .i64 c) := (HK2.out.2.cell (p := ⟨w.heap.size, 0, none⟩) hlt).trans c0
  have d1 : (w1.alloc (.cells #[.slice none 0 0] 47)).drew.cell? ⟨w.heap.size, 1, none⟩ = some (.int .i64 s) := (HK2.out.2.cell (p := ⟨w.heap.size, 1, none⟩) hlt).trans c1
  have d2 : (w1.alloc (.cells #[.slice none 0 0] 47)).drew.cell? ⟨w.heap.size, 2, none⟩ = some (.slice A l.length k) := (HK2.out.2.cell (p := ⟨w.heap.size, 2, none⟩) hlt).trans c2
  go_region_held3 (fun w' => w'.cell? ⟨w.heap.size, 0, none⟩ = some (.int .i64 c) ∧ w'.cell? ⟨w.heap.size, 1, none⟩ = some (.int .i64 s) ∧ w'.cell? ⟨w.heap.size, 2, none⟩ = some (.slice A l.length k)) (first | exact ⟨d0, d1, d2⟩ | exact ⟨c0, c1, c2⟩) (first
    | (go_at_call_of 26 (Value.int IntKind.i64 c); refine (U8_any w1.heap.size w1.heap.size [] c _ HWd.out (by simp)).mono ?_; rintro e w2 ⟨rfl, hw2, ho2⟩; go_must (have HW2 := Lib.hid hw2); go_must (have HK3 : Hid (Below w1.heap.size w1 w2) := HK2.out.2.trans (HWd.out.only ho2)); go_must (have d0 := (HK3.out.cell (p := ⟨w.heap.size, 0, none⟩) hlt).trans c0); go_must (have d1 := (HK3.out.cell (p := ⟨w.heap.size, 1, none⟩) hlt).trans c1); go_must (have d2 := (HK3.out.cell (p := ⟨w.heap.size, 2, none⟩) hlt).trans c2); clear hw2 ho2)
    | (go_at_call_of 26 (Value.int IntKind.i64 s); refine (U8_any w1.heap.size w1.heap.size _ s _ HW2.out (by simp)).mono ?_; rintro e w3 ⟨rfl, hw3, ho3⟩; go_must (have HW3 := Lib.hid hw3); go_must (have HK4 : Hid (Below w1.heap.size w1 w3) := HK3.out.trans (HW2.out.only ho3)); go_must (have d0 := (HK4.out.cell (p := ⟨w.heap.size, 0, none⟩) hlt).trans c0); go_must (have d1 := (HK4.out.cell (p := ⟨w.heap.size, 1, none⟩) hlt).trans c1); go_must (have d2 := (HK4.out.cell (p := ⟨w.heap.size, 2, none⟩) hlt).trans c2); clear hw3 ho3)
    | (go_at_call 27; refine (Put_any w1.heap.size w1.heap.size _ l A k B _ HW3.out (by simp; omega) HA.out (Nat.le_trans HS.out.2 HK4.out.size) (HS.out.1.below HK4.out HS.out.2)).mono ?_; rintro e w4 ⟨rfl, hw4, ho4⟩; go_must (have HW4 := Lib.hid hw4); go_must (have HK5 : Hid (Below w1.heap.size w1 w4) := HK4.out.trans (HW3.out.only ho4)); go_must (have d0 := (HK5.out.cell (p := ⟨w.heap.size, 0, none⟩) hlt).trans c0); go_must (have d1 := (HK5.out.cell (p := ⟨w.heap.size, 1, none⟩) hlt).trans c1); go_must (have d2 := (HK5.out.cell (p := ⟨w.heap.size, 2, none⟩) hlt).trans c2); clear hw4 ho4)
    | (go_at_call 28; refine (Bytes_any w1.heap.size w1.heap.size _ _ HW4.out (by simp; omega)).mono ?_; rintro e w5 ⟨⟨A', c', rfl, g2, g3, g4, g5, g6, g7⟩, _⟩; go_must (have HF := Lib.hid (And.intro g2 (And.intro g3 (And.intro g4 (And.intro g5 (And.intro g6 g7)))))); go_must (have HK6 : Hid (Below w1.heap.size w1 w5) := HK5.out.trans (g6.mono HK5.out.size)); go_must (have d0 := (HK6.out.cell (p := ⟨w.heap.size, 0, none⟩) hlt).trans c0); go_must (have d1 := (HK6.out.cell (p := ⟨w.heap.size, 1, none⟩) hlt).trans c1); go_must (have d2 := (HK6.out.cell (p := ⟨w.heap.size, 2, none⟩) hlt).trans c2); clear g2 g3 g4 g5 g6 g7))
  all_goals
    go_wp2_with fail
    go_ret2
    obtain ⟨g2, g3, g4, g5, g6, g7⟩ := HF.out
    have e : ([] ++ [octet.byteOf c] ++ [octet.byteOf s] ++ l : List UInt8) = [octet.byteOf c, octet.byteOf s] ++ l := by simp
    rw [e] at g3 g5
    exact ⟨A', c', rfl, g2, g3, g4, g5, HB1.out.trans (HK6.out.mono HB1.out.size)⟩

theorem Encode_no (c s : Int) (A : Option Addr) (n k : Nat) (w : World) (hg : goodB c s n = false) :
    Calls Tryd.prog 13 #[.agg #[.int .i64 c, .int .i64 s, .slice A n k]] w fun e w' => e = .returned (.tuple #[.slice none 0 0, .int .i64 1]) ∧ Below w.heap.size w w' := by
  have HG := good_any c s A n k (w.alloc (.cells #[.int .i64 c, .int .i64 s, .slice A n k] 24))
  rw [hg] at HG
  have HG := Lib.hid HG
  have HB0 : Hid (Below w.heap.size w (w.alloc (.cells #[.int .i64 c, .int .i64 s, .slice A n k] 24))) := (Below.refl _ _).alloc (Nat.le_refl _) _
  clear hg
  go_enter Tryd.func13, Tryd.ntmps13
  go_wp2_with fail
  refine HG.out.mono ?_; rintro e w1 ⟨rfl, hb1⟩
  have HB1 := Lib.hid (HB0.out.trans (hb1.mono HB0.out.size))
  clear hb1
  go_wp2_with fail
  go_ret2
  exact ⟨rfl, HB1.out⟩

theorem Good_any (c s : Int) (A : Option Addr) (n k : Nat) (w : World) :
    Calls Tryd.prog 14 #[.agg #[.int .i64 c, .int .i64 s, .slice A n k]] w fun e w' => e = .returned (.bool (goodB c s n)) ∧ Below w.heap.size w w' := by
  have HG := Lib.hid (good_any c s A n k (w.alloc (.cells #[.int .i64 c, .int .i64 s, .slice A n k] 24)))
  have HB0 : Hid (Below w.heap.size w (w.alloc (.cells #[.int .i64 c, .int .i64 s, .slice A n k] 24))) := (Below.refl _ _).alloc (Nat.le_refl _) _
  go_enter Tryd.func14, Tryd.ntmps14
  go_wp2_with fail
  refine HG.out.mono ?_; rintro e w1 ⟨rfl, hb1⟩
  have HB1 := Lib.hid (HB0.out.trans (hb1.mono HB0.out.size))
  clear hb1
  go_wp2_with fail
  go_ret
  exact ⟨rfl, HB1.out⟩

/-- a struct and a value -/
theorem res_ct {P : Program} {fn : Func} {p m : Tmp} {ty : TypeId} (h : fn.results = #[.cell p ty, .tmp m]) (tmps : Array Value) (w : World) (g : Nat) (t : TypeId) (v : Value) (cs : Array Value) (fr : Nat × Nat) (d : TypeDesc)
    (hm : tmps.getD m undef = v) (hp : tmps.getD p undef = .pointer (some ⟨g, 0, none⟩)) (hg : w.heap[g]? = some (.cells cs t fr))
    (hu : P.underlying ty = some d) (hd : (match d with | .struct _ | .array _ _ => true | _ => false) = true) (hi : (P.info? ty).map (·.size) = some cs.size) :
    (results fn tmps).run P w = .ok (.tuple #[.agg cs, v]) w := by
  have hp' : tmps[p]?.getD undef = .pointer (some ⟨g, 0, none⟩) := by simpa using hp
  have hm' : tmps[m]?.getD undef = v := by simpa using hm
  simp [results, h, hp', hm', asAddr, run_loadVar_row w g t ty cs fr d hg hu hd hi]

/-- bytes do not lie where no byte lies -/
theorem bs_far {w : World} {B g : Nat} {A : Option Addr} {x : List UInt8} {t : TypeId} {cs : Array Value} (h : Bs w B A x) (hk : Bk w g t cs) (hn : ∀ (i : Nat) (v : Value), cs[i]? = some v → ∀ n : Int, v ≠ Value.int .u8 n) (i : Nat) (u : Value) : Bs (w.setCell ⟨g, i, none⟩ u) B A x := by
  obtain ⟨h1, h2⟩ := h
  refine ⟨h1, fun hp => ?_⟩
  obtain ⟨b, off, e1, e2, e3⟩ := h2 hp
  refine ⟨b, off, e1, e2, fun j v hv => ?_⟩
  have h3 := e3 j v hv
  have hne : b ≠ g := by
    intro e
    subst e
    rw [hk.cell] at h3
    have hm := List.mem_of_getElem? hv
    simp [bv] at hm
    obtain ⟨c, _, hc⟩ := hm
    exact hn _ _ h3 _ hc.symm
  have := Below.heap_setCell w ⟨g, i, none⟩ u b hne
  rw [← h3]
  unfold World.cell?
  simp [this]
/-- .. over a row of stores -/
theorem bs_stores {B g : Nat} {A : Option Addr} {x : List UInt8} {t : TypeId} {w : World} {cs : Array Value} (vs : List Value) (h : Bs w B A x) (hk : Bk w g t cs) (hn : ∀ (i : Nat) (v : Value), cs[i]? = some v → ∀ n : Int, v ≠ Value.int .u8 n) (i : Nat) : Bs (stores w g i vs) B A x := by
  obtain ⟨h1, h2⟩ := h
  refine ⟨h1, fun hp => ?_⟩
  obtain ⟨b, off, e1, e2, e3⟩ := h2 hp
  refine ⟨b, off, e1, e2, fun j v hv => ?_⟩
  have h3 := e3 j v hv
  have hb : b < w.heap.size := by
    by_cases hb : b < w.heap.size
    · exact hb
    · exfalso
      unfold World.cell? at h3
      simp [Array.getElem?_eq_none (Nat.le_of_not_lt hb)] at h3
  have hne : b ≠ g := by
    intro e
    subst e
    rw [hk.cell] at h3
    have hm := List.mem_of_getElem? hv
    simp [bv] at hm
    obtain ⟨c, _, hc⟩ := hm
    exact hn _ _ h3 _ hc.symm
  rw [← h3]
  have := (stores_chg (g := g) vs i w).block b hb hne
  unfold World.cell?
  simp [this]

theorem noB {a b : Int} {A : Option Addr} {n c : Nat} : ∀ (i : Nat) (v : Value), (#[.int .i64 a, .int .i64 b, .slice A n c] : Array Value)[i]? = some v → ∀ n : Int, v ≠ Value.int .u8 n := by
  intro i v hv n
  match i with
  | 0 => simp at hv; subst hv; simp
  | 1 => simp at hv; subst hv; simp
  | 2 => simp at hv; subst hv; simp
  | j + 3 => simp at hv

/-- what Decode returns -/
def decV (ok : Bool) (c s : Int) (A : Option Addr) (n k : Nat) : Value :=
  .tuple #[.agg (if ok = true then #[.int .i64 c, .int .i64 s, .slice A n k] else #[.int .i64 0, .int .i64 0, .slice none 0 0]), .bool ok]

set_option maxRecDepth 100000 in
theorem Decode_walk (A : Option Addr) (k B : Nat) (l q1 q2 q3 x : List UInt8) (b1 b2 b3 : Bool) (x0 x1 : Nat) (w : World) (hl : l.length ≤ 1099511627776) (hA : A = none → k = 0) (hB : B ≤ w.heap.size) (hs : Bs w B A l)
    (h0 : num (rget l false 1) = x0) (h1 : rleft l false 1 = q1) (h2 : (!rok l false 1) = b1) (h3 : num (rget q1 b1 1) = x1) (h4 : rleft q1 b1 1 = q2) (h5 : (!rok q1 b1 1) = b2) (h6 : rget q2 b2 q2.length = x) :
    Calls Tryd.prog 12 #[.slice A l.length k] w fun e w' => ∃ A' k', e = .returned (decV (!b2 && goodB x0 x1 x.length) x0 x1 A' x.length k') ∧ (A' = none → k' = 0) ∧ x.length ≤ k' ∧ k' ≤ maxLen ∧ ((!b2 && goodB x0 x1 x.length) = true → Bs w' w'.heap.size A' x) ∧ Below w.heap.size w w' := by
  have H1 : q1.length ≤ 1099511627776 := by rw [← h1]; exact Nat.le_trans (rleft_len _ _ _) hl
  have H2 : q2.length ≤ 1099511627776 := by rw [← h4]; exact Nat.le_trans (rleft_len _ _ _) H1
  have HN := Lib.hid (New_any A k B l (w.alloc (.cells #[.int .i64 0, .int .i64 0, .slice none 0 0] 24)) hl hA (Nat.le_trans hB (by simp)) (hs.below ((Below.refl _ _).alloc (Nat.le_refl _) _) hB))
  have HK0 : Hid (Bk (w.alloc (.cells #[.int .i64 0, .int .i64 0, .slice none 0 0] 24)) w.heap.size 24 #[.int .i64 0, .int .i64 0, .slice none 0 0]) := Bk.new _ _ _
  have HB0 : Hid (Below w.heap.size w (w.alloc (.cells #[.int .i64 0, .int .i64 0, .slice none 0 0] 24))) := (Below.refl _ _).alloc (Nat.le_refl _) _
  have HU1 : Hid (∀ r w, Rdr w r l false → Calls Tryd.prog 22 #[.pointer (some ⟨r, 0, none⟩)] w fun e w' => e = .returned (.int .i64 (x0 : Int)) ∧ Rdr w' r q1 b1 ∧ w.grownBy w' (some r)) := fun r w hr => by
    have := u8_any r l false w hr
    rw [h0, h1, h2] at this; exact this
  have HU2 : Hid (∀ r w, Rdr w r q1 b1 → Calls Tryd.prog 22 #[.pointer (some ⟨r, 0, none⟩)] w fun e w' => e = .returned (.int .i64 (x1 : Int)) ∧ Rdr w' r q2 b2 ∧ w.grownBy w' (some r)) := fun r w hr => by
    have := u8_any r q1 b1 w hr
    rw [h3, h4, h5] at this; exact this
  have HU3 : Hid (∀ r w, Rdr w r q2 b2 → Calls Tryd.prog 24 #[.pointer (some ⟨r, 0, none⟩)] w fun e w' => ∃ A c, e = .returned (.slice A x.length c) ∧ (A = none → c = 0) ∧ x.length ≤ c ∧ c ≤ maxLen ∧ Bs w' w'.heap.size A x ∧ w.grownBy w' (some r)) := fun r w hr => by
    have := Rest_any r q2 b2 w H2 hr
    rw [h6] at this
    refine this.mono ?_; rintro e w' ⟨A, c, rfl, a1, a2, a3, a4, _, a5⟩
    exact ⟨A, c, rfl, a1, a2, a3, a4, a5⟩
  clear h0 h1 h2 h3 h4 h5 h6 H1 H2 hl hA hB hs
  go_enter Tryd.func12, Tryd.ntmps12
  go_wp2_with fail
  refine HN.out.mono ?_; rintro e w1 ⟨⟨r, rfl, hr0, hr⟩, hb1⟩
  have HK1 := Lib.hid (HK0.out.below hb1 HK0.out.lt)
  have HB1 := Lib.hid (HB0.out.trans (hb1.mono HB0.out.size))
  have HR1 := Lib.hid hr
  have hr0' : w.heap.size < r := by simp at hr0; omega
  clear hb1 hr HN HK0 HB0 hr0
  go_wp2_with fail
  refine (HU1.out r w1 HR1.out).mono ?_; rintro e w2 ⟨rfl, hr2, hg2⟩
  have HR2 := Lib.hid hr2
  have HK2 := Lib.hid (HK1.out.grown hg2 (by simp; omega))
  have HB2 := Lib.hid (HB1.out.trans (below_grown hg2 HB1.out.size (fun g hg => by cases hg; omega)))
  clear hr2 hg2 HR1 HK1 HU1
  go_wp2_with fail
  refine (HU2.out r w2 HR2.out).mono ?_; rintro e w3 ⟨rfl, hr3, hg3⟩
  have HR3 := Lib.hid hr3
  have HK3 := Lib.hid (HK2.out.grown hg3 (by simp; omega))
  have HB3 := Lib.hid (HB2.out.trans (below_grown hg3 HB2.out.size (fun g hg => by cases hg; omega)))
  clear hr3 hg3 HR2 HK2 HU2 HB2 HB1
  go_wp2_with fail
  have HR4 := Lib.hid (HR3.out.below ((Below.refl w3.heap.size w3).alloc (Nat.le_refl _) (.cells #[.int .i64 (x0 : Int), .int .i64 (x1 : Int), .slice none 0 0] 24)) HR3.out.lt)
  have HK4 := Lib.hid (HK3.out.below ((Below.refl w3.heap.size w3).alloc (Nat.le_refl _) (.cells #[.int .i64 (x0 : Int), .int .i64 (x1 : Int), .slice none 0 0] 24)) HK3.out.lt)
  have HB4 := Lib.hid (HB3.out.trans (((Below.refl w3.heap.size w3).alloc (Nat.le_refl _) (.cells #[.int .i64 (x0 : Int), .int .i64 (x1 : Int), .slice none 0 0] 24)).mono HB3.out.size))
  have HN4 : Hid (Bk (w3.alloc (.cells #[.int .i64 (x0 : Int), .int .i64 (x1 : Int), .slice none 0 0] 24)) w3.heap.size 24 #[.int .i64 x0, .int .i64 x1, .slice none 0 0]) := Bk.new _ _ _
  have hr3lt := HR3.out.lt
  have hk3lt := HK3.out.lt
  clear HR3 HK3
  refine (Bad_any r q2 b2 _ HR4.out).mono ?_; rintro e w' ⟨rfl, rfl⟩
  go_wp2_with fail
  refine (HU3.out r _ HR4.out).mono ?_; rintro e w5 ⟨A', c', rfl, g1, g2, g3, g4, hg5⟩
  have HK5 := Lib.hid (HK4.out.grown hg5 (by simp; omega))
  have HN4b := Lib.hid (HN4.out.grown hg5 (by simp; omega))
  have HN5 : Hid (Bk (w5.setCell ⟨w3.heap.size, 2, none⟩ (.slice A' x.length c')) w3.heap.size 24 #[.int .i64 (x0 : Int), .int .i64 (x1 : Int), .slice A' x.length c']) := (HN4.out.grown hg5 (by simp; omega)).put 2 (.slice A' x.length c')
  have HB5 := Lib.hid (HB4.out.trans (below_grown hg5 HB4.out.size (fun g hg => by cases hg; omega)))
  have HS5 := Lib.hid g4
  have hsz5 : w3.heap.size < w5.heap.size := (HN4.out.grown hg5 (by simp; omega)).lt
  have HP : Hid ((A' = none → c' = 0) ∧ x.length ≤ c' ∧ c' ≤ maxLen) := ⟨g1, g2, g3⟩
  clear g1 g2 g3 g4 hg5 HR4 HK4 HN4 HB4 HB3 HU3
  have HK6 : Hid (Bk (w5.setCell ⟨w3.heap.size, 2, none⟩ (.slice A' x.length c')) w.heap.size 24 #[.int .i64 0, .int .i64 0, .slice none 0 0]) := HK5.out.far (p := ⟨w3.heap.size, 2, none⟩) (by simp; omega) _
  have HB6 := Lib.hid (HB5.out.setCell (p := ⟨w3.heap.size, 2, none⟩) (by simp; omega) (.slice A' x.length c'))
  have HS6 : Hid (Bs (w5.setCell ⟨w3.heap.size, 2, none⟩ (.slice A' x.length c')) w5.heap.size A' x) := bs_far HS5.out HN4b.out noB 2 _
  have n4 := fun i => HN4b.out.cell i
  have n4f := fun i => HN4b.out.free i
  clear HK5 HS5 HB5 HN4b
  have cc := fun i => HN5.out.cell i
  have cl := HN5.out.lt
  have ck := fun i => HK6.out.cell i
  have cf := fun i => HK6.out.free i
  have ckl := HK6.out.lt
  have cm := fun i => HN5.out.free i
  have hsz : (w5.setCell ⟨w3.heap.size, 2, none⟩ (.slice A' x.length c')).heap.size = w5.heap.size := by simp [World.setCell]
  have hfa : (w5.setCell ⟨w3.heap.size, 2, none⟩ (.slice A' x.length c')).heap.size = w5.heap.size := hsz
  cases b2
  · have HGd := Lib.hid (good_any x0 x1 A' x.length c' (w5.setCell ⟨w3.heap.size, 2, none⟩ (.slice A' x.length c')))
    rw [hsz] at HGd
    have HK7 : Hid (∀ w7 : World, Below w5.heap.size (w5.setCell ⟨w3.heap.size, 2, none⟩ (.slice A' x.length c')) w7 → Bk w7 w.heap.size 24 #[.int .i64 0, .int .i64 0, .slice none 0 0] ∧ Bk w7 w3.heap.size 24 #[.int .i64 x0, .int .i64 x1, .slice A' x.length c'] ∧ Bs w7 w5.heap.size A' x ∧ Below w.heap.size w w7) := fun w7 h => ⟨HK6.out.below h (by omega), HN5.out.below h hsz5, HS6.out.below h (Nat.le_refl _), HB6.out.trans (h.mono (by omega))⟩
    cases hg : goodB x0 x1 x.length
    · rw [hg] at HGd
      go_wp2_with fail
      refine HGd.out.mono ?_; rintro e w7 ⟨rfl, hb7⟩
      obtain ⟨k7, m7, s7, b7⟩ := HK7.out w7 hb7
      have ck := fun i => k7.cell i
      have cf := fun i => k7.free i
      have ckl := k7.lt
      have HK8 := Lib.hid k7
      have HB8 := Lib.hid b7
      clear hb7 k7 m7 s7 b7
      go_wp2_with fail
      have hp := HP.out
      refine bodyPost_ret (res_ct rfl _ _ w.heap.size 24 (.bool false) _ (0, 0) _ rfl rfl (stores_all [.int .i64 0, .int .i64 0, .slice none 0 0] HK8.out rfl) Tryd.underlying24 rfl info_notice) rfl ⟨A', c', by rw [hg]; rfl, hp.1, hp.2.1, hp.2.2, (fun h => by rw [hg] at h; simp at h), ?_⟩
      exact HB8.out.trans (stores_below [.int .i64 0, .int .i64 0, .slice none 0 0] 0 (Nat.le_refl _) HB8.out.size)
    · rw [hg] at HGd
      go_wp2_with fail
      refine HGd.out.mono ?_; rintro e w7 ⟨rfl, hb7⟩
      obtain ⟨k7, m7, s7, b7⟩ := HK7.out w7 hb7
      have ck := fun i => k7.cell i
      have cf := fun i => k7.free i
      have ckl := k7.lt
      have cc := fun i => m7.cell i
      have cl := m7.lt
      have HK8 := Lib.hid k7
      have HS8 := Lib.hid s7
      have HB8 := Lib.hid b7
      have hz7 := hb7.size
      clear hb7 k7 m7 s7 b7
      go_wp2_with fail
      have hp := HP.out
      refine bodyPost_ret (res_ct rfl _ _ w.heap.size 24 (.bool true) _ (0, 0) _ rfl rfl (stores_all [.int .i64 x0, .int .i64 x1, .slice A' x.length c'] HK8.out rfl) Tryd.underlying24 rfl info_notice) rfl ⟨A', c', by rw [hg]; rfl, hp.1, hp.2.1, hp.2.2, (fun _ => ?_), ?_⟩
      · exact (bs_stores [.int .i64 x0, .int .i64 x1, .slice A' x.length c'] HS8.out HK8.out noB 0).more (by simp [stores, World.setCell]; omega)
      · exact HB8.out.trans (stores_below [.int .i64 x0, .int .i64 x1, .slice A' x.length c'] 0 (Nat.le_refl _) HB8.out.size)
  · go_wp2_with fail
    have hp := HP.out
    refine bodyPost_ret (res_ct rfl _ _ w.heap.size 24 (.bool false) _ (0, 0) _ rfl rfl (stores_all [.int .i64 0, .int .i64 0, .slice none 0 0] HK6.out rfl) Tryd.underlying24 rfl info_notice) rfl ⟨A', c', rfl, hp.1, hp.2.1, hp.2.2, (fun h => by simp at h), ?_⟩
    exact HB6.out.trans (stores_below [.int .i64 0, .int .i64 0, .slice none 0 0] 0 (Nat.le_refl _) HB6.out.size)
end Go.Proofs.YthoclemgiopjpaaDoor.notice
