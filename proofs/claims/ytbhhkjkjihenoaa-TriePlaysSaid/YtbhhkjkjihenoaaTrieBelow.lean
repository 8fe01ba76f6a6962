/- What a tree's Below and Count return, of any prefix, and of no tree. Conditions as each lemma states. -/
import Derived.Test.YtbhhkjkjihenoaaTrieUnder2
namespace Go.Proofs.Ytbhhkjkjihenoaa.tri
open Go.RowKit Go.Proofs.Ytbhhkjkjihenoaa.kit Go.Proofs.Ytbhhkjkjihenoaa.mem Go.Proofs.Ytbhhkjkjihenoaa.foot Go.Proofs.Ytbhhkjkjihenoaa.pfx
set_option linter.unusedVariables false
set_option linter.unusedSimpArgs false

theorem within_bad {a : Nat} {n : Int} {b : Nat} {m : Int} (hg : goodB a n = false) : withinB a n b m = false := by unfold withinB coverB; rw [hg]; rfl
theorem cover_bad {a : Nat} {n : Int} {b : Nat} {m : Int} (hg : goodB a n = false) : coverB a n b m = false := by unfold coverB hasB; rw [hg]; simp
theorem under_nil (a : Nat) (n : Int) (F : Foot) (w : World) : Calls Try.prog 82 #[.pointer none, .agg #[.int .u32 a, .int .i64 n]] w (UnderP w F .nil) := by
  have HB0 : Hid (Below w.heap.size w (w.alloc (.cells #[.int .u32 (a : Int), .int .i64 n] 30))) := (Below.refl _ _).alloc (Nat.le_refl _) _
  go_enter Try.func82, Try.ntmps82
  go_wp2_with fail
  refine (top_nil _).mono ?_; rintro e w' ⟨rfl, rfl⟩
  go_wp2_with fail
  go_loopw [5] (fun v wr => v = .pointer none ∧ Below w.heap.size w wr) (fun _ _ => 0)
  case atStart => exact ⟨rfl, HB0.out⟩
  case round =>
    obtain ⟨rfl, hb⟩ := hrel
    have HB := Lib.hid hb
    clear hb HB0
    go_wp2_with fail
    go_quiet (fail)
    go_wp2_with fail
    go_quiet (fail)
    go_wp2_with fail
    go_ret
    exact ⟨none, rfl, below_drewN (below_drewN HB.out _) _, fun _ => False, rfl, fun _ e => e.elim, [], trivial⟩
set_option maxRecDepth 100000 in
set_option maxHeartbeats 1000000 in
theorem under_bad {F : Foot} {tr : Nat} {t : T} (a : Nat) (n : Int) (w : World) (ha : a < 4294967296) (hg : goodB a n = false) (h : Tri w F tr t) (hw : t.Wf []) :
    Calls Try.prog 82 #[.pointer (some ⟨tr, 0, none⟩), .agg #[.int .u32 a, .int .i64 n]] w (UnderP w F .nil) := by
  have HB0 : Hid (Below w.heap.size w (w.alloc (.cells #[.int .u32 (a : Int), .int .i64 n] 30))) := (Below.refl _ _).alloc (Nat.le_refl _) _
  have HT := Lib.hid (top_any _ (h.bel HB0.out))
  have HW := Lib.hid hw
  have HGd := Lib.hid hg
  have hR : ∀ w', Below w.heap.size w w' → UnderP w F .nil (.returned (.pointer none)) w' := fun w' hb => ⟨none, rfl, hb, fun _ => False, rfl, fun _ e => e.elim, [], trivial⟩
  have HR := Lib.hid hR
  have hbx0 := Lib.hid (Bk.new w 30 #[.int .u32 (a : Int), .int .i64 n])
  clear h hw hg hR
  go_enter Try.func82, Try.ntmps82
  go_wp2_with fail
  refine HT.out.mono ?_; rintro e w' ⟨⟨A, G, rfl, _, hT, _, hG⟩, rfl⟩
  have HS : Hid (Sub (w.alloc (.cells #[.int .u32 (a : Int), .int .i64 n] 30)) F t A) := ⟨G, hT, hG, [], HW.out⟩
  clear hT hG HT HW
  go_wp2_with fail
  go_loopw [5] (fun v wr => v = .pointer A ∧ wr = w.alloc (.cells #[.int .u32 (a : Int), .int .i64 n] 30)) (fun _ _ => 0)
  case atStart => exact ⟨rfl, rfl⟩
  case round =>
    obtain ⟨rfl, rfl⟩ := hrel
    generalize hw0 : w.alloc (.cells #[.int .u32 (a : Int), .int .i64 n] 30) = w0 at *
    clear hw0
    rcases t with _ | ⟨k, u, b, l, r⟩
    · have hA : A = none := HS.out.nil_
      subst hA
      clear HS
      go_wp2_with fail
      go_quiet (fail)
      go_wp2_with fail
      go_quiet (fail)
      go_wp2_with fail
      go_ret
      exact HR.out _ (below_drewN (below_drewN HB0.out _) _)
    · obtain ⟨g, kl, kr, rfl, hg, hkl, hgF, _⟩ := HS.out.node
      have q0 := hg.cell 0
      have q1 := hg.cell 1
      have p0 := hbx0.out.cell 0
      have p1 := hbx0.out.cell 1
      have lg := hg.lt
      have lb := hbx0.out.lt
      simp at q0 q1 p0 p1
      have HWi := Lib.hid (within_any a n (adr k) k.length ha (adr_lt hkl))
      rw [within_bad HGd.out] at HWi
      have HC := Lib.hid (covers_any a n (adr k) k.length ha (adr_lt hkl))
      rw [cover_bad HGd.out] at HC
      clear hg HS
      clear hbx0
      go_wp2_with fail
      go_region_held3 (fun w' => w'.cell? ⟨g, 0, none⟩ = some (.int .u32 (adr k : Int)) ∧ w'.cell? ⟨g, 1, none⟩ = some (.int .i64 (k.length : Int)) ∧ w'.cell? ⟨w.heap.size, 0, none⟩ = some (.int .u32 (a : Int)) ∧ w'.cell? ⟨w.heap.size, 1, none⟩ = some (.int .i64 n)) (exact ⟨by go_simp, by go_simp, by go_simp, by go_simp⟩) (first
        | (go_at_call 80; refine (HWi.out _).mono ?_; rintro e w2 ⟨rfl, hb⟩; go_must (have HB2 : Hid (Below w0.heap.size w0 w2) := ((Below.refl _ _).drew).trans hb); go_must (have q0 := (hb.cell (p := ⟨g, 0, none⟩) lg).trans q0); go_must (have q1 := (hb.cell (p := ⟨g, 1, none⟩) lg).trans q1); go_must (have p0 := (hb.cell (p := ⟨w.heap.size, 0, none⟩) lb).trans p0); go_must (have p1 := (hb.cell (p := ⟨w.heap.size, 1, none⟩) lb).trans p1); clear hb))
      have lg2 : g < w2.drew.heap.size := Nat.lt_of_lt_of_le lg HB2.out.size
      have lb2 : w.heap.size < w2.drew.heap.size := Nat.lt_of_lt_of_le lb HB2.out.size
      go_wp2_with fail
      go_region_held3 (fun w' => w'.cell? ⟨g, 0, none⟩ = some (.int .u32 (adr k : Int)) ∧ w'.cell? ⟨g, 1, none⟩ = some (.int .i64 (k.length : Int)) ∧ w'.cell? ⟨w.heap.size, 0, none⟩ = some (.int .u32 (a : Int)) ∧ w'.cell? ⟨w.heap.size, 1, none⟩ = some (.int .i64 n)) (exact ⟨by go_simp, by go_simp, by go_simp, by go_simp⟩) (first
        | (go_at_call 109; refine (HC.out _).mono ?_; rintro e w3 ⟨rfl, hb⟩; go_must (have HB3 : Hid (Below w2.heap.size w2 w3) := ((Below.refl _ _).drew).trans hb); go_must (have q0 := (hb.cell (p := ⟨g, 0, none⟩) lg2).trans q0); go_must (have q1 := (hb.cell (p := ⟨g, 1, none⟩) lg2).trans q1); go_must (have p0 := (hb.cell (p := ⟨w.heap.size, 0, none⟩) lb2).trans p0); go_must (have p1 := (hb.cell (p := ⟨w.heap.size, 1, none⟩) lb2).trans p1); clear hb))
      go_wp2_with fail
      go_ret
      exact HR.out _ (HB0.out.trans ((HB2.out.trans (HB3.out.mono HB2.out.size)).mono HB0.out.size))

set_option maxRecDepth 100000 in
/-- Below, from what under hands back -/
theorem Below_of (V : Option Addr) (a : Nat) (n : Int) (F : Foot) (s : T) (L : List Key) (w : World) (hF : ∀ x, F x → x < w.heap.size) (hc : s.cnt < 999990) (hL : L = (s.rows.filter fun r => diffB a n r.1).map (·.1))
    (hU : ∀ w1, Below w.heap.size w w1 → Calls Try.prog 82 #[.pointer V, .agg #[.int .u32 a, .int .i64 n]] w1 (UnderP w1 F s)) :
    Calls Try.prog 30 #[.pointer V, .agg #[.int .u32 a, .int .i64 n]] w (RetKeys L w) := by
  have HLq := Lib.hid hL
  have HB0 : Hid (Below w.heap.size w ((w.alloc (.cells #[.int .u32 (a : Int), .int .i64 n] 30)).alloc (.cells #[.slice none 0 0] 36))) := Go.Joins.below_alloc2 w _ _
  have hI0 := OutI.start (w.alloc (.cells #[.int .u32 (a : Int), .int .i64 n] 30)) (w.heap.size + 1) (by simp)
  rw [show (w.alloc (.cells #[.int .u32 (a : Int), .int .i64 n] 30)).heap.size = w.heap.size + 1 from by simp] at hI0
  have HI := Lib.hid hI0
  have HX := Lib.hid ((Bk.new w 30 #[.int .u32 (a : Int), .int .i64 n]).alloc (.cells #[.slice none 0 0] 36))
  have hmf : ∀ (fn : Fn) (first cap : Array Value) (w : World), (Instr.makeFunc fn first cap).run Try.prog w = .ok (.func fn first cap) w := fun _ _ _ _ => rfl
  have HU := Lib.hid (hU _ HB0.out)
  have HFl := Lib.hid hF
  clear hU hF hL hI0
  go_enter Try.func30, Try.ntmps30
  go_wp2_with fail
  refine HU.out.mono ?_; rintro e w1 ⟨A, rfl, hb1, G, hT, hG, _⟩
  have HI1 : Hid (OutI (w.heap.size + 1) (w.heap.size + 1) w1 [] ∧ Bk w1 w.heap.size 30 #[.int .u32 (a : Int), .int .i64 n]) := by
    obtain ⟨⟨A0, c0, h1, h2, h3⟩, h4⟩ := HI.out
    exact ⟨⟨⟨A0, c0, h1.below hb1 h1.lt, h2.bel hb1, h3⟩, h4⟩, HX.out.below hb1 HX.out.lt⟩
  have hsz := hb1.size
  simp at hsz
  have HE := Lib.hid (each_below w.heap.size (w.heap.size + 1) (w.heap.size + 1) (fun w' xs => OutI (w.heap.size + 1) (w.heap.size + 1) w' xs ∧ Bk w' w.heap.size 30 #[.int .u32 (a : Int), .int .i64 n]) (fun xs p => addB a n xs p) (fun xs p => by unfold addB; split <;> simp)
    (fun p w2 xs hp hB hl hI => (below1_any (w.heap.size + 1) (w.heap.size + 1) w.heap.size a n p w2 xs hB (by omega) hl hI.1 hI.2).mono fun e w3 ⟨h1, h2, h3⟩ => ⟨h1, ⟨h2, hI.2.below h3 (by omega)⟩, h3⟩) s G A w1 [] hT (fun x hx => by have := HFl.out x (hG x hx); omega) (by omega) (by simp; omega) HI1.out)
  have HB1 := Lib.hid hb1
  clear hT hG hb1 hsz
  go_wp2_with fail
  refine HE.out.mono ?_; rintro e w2 ⟨rfl, ⟨hI2, _⟩, hb2⟩
  rw [fold_diff, List.nil_append, ← HLq.out] at hI2
  have hB2 : Below w.heap.size w w2 := HB0.out.trans ((HB1.out.mono HB0.out.size).trans (hb2.mono (by omega)))
  have hR : ∃ A c, w2.cell? ⟨w.heap.size + 1, 0, none⟩ = some (.slice A L.length c) ∧ RetKeys L w (.returned (.slice A L.length c)) w2 := by
    obtain ⟨⟨A, c, h1, h2, h3⟩, h4⟩ := hI2
    refine ⟨A, c, by have := h1.cell 0; simpa using this, A, c, rfl, h2.nil, h2.cap, h2.max, h2.rg.rd, hB2, fun ad e => ?_⟩
    have := (h3 ad.block (by rw [e, sf_some])).1
    omega
  obtain ⟨A2, c2, q0, hR⟩ := hR
  have HR := Lib.hid hR
  clear hI2 hb2 hB2 hR
  go_wp2_with fail
  go_ret
  exact HR.out

/-- what a prefix covers, and is another one -/
def belowL (t : T) (a : Nat) (n : Int) : List Key := if goodB a n = true then (((t.under (bitsOf a n.toNat)).rows).filter fun r => diffB a n r.1).map (·.1) else []
theorem good_key {a : Nat} {n : Int} (ha : a < 4294967296) (hg : goodB a n = true) : ∃ p : Key, p.length ≤ 32 ∧ a = adr p ∧ n = p.length ∧ bitsOf a n.toNat = p := by
  obtain ⟨h1, h2, h3⟩ := good_bits ha hg
  exact ⟨_, h3, h1.symm, h2.symm, rfl⟩
theorem under_cnt (p : Key) : ∀ t : T, (t.under p).cnt ≤ t.cnt
  | .nil => by simp [T.under]
  | .node k u b l r => by
    have hl := under_cnt p l
    have hr := under_cnt p r
    unfold T.under
    (repeat' split) <;> simp only [T.cnt_node] <;> (try cases b) <;> simp [T.cnt, T.rows] at * <;> omega
theorem Below_any {F : Foot} {tr : Nat} {t : T} (a : Nat) (n : Int) (L : List Key) (w : World) (ha : a < 4294967296) (h : Tri w F tr t) (hw : t.Wf []) (hc : t.cnt < 999990) (hL : L = belowL t a n) :
    Calls Try.prog 30 #[.pointer (some ⟨tr, 0, none⟩), .agg #[.int .u32 a, .int .i64 n]] w (RetKeys L w) := by
  unfold belowL at hL
  split at hL
  · rename_i hg
    obtain ⟨p, hp, rfl, rfl, e⟩ := good_key ha hg
    rw [e] at hL
    exact Below_of _ _ _ F (t.under p) L w h.lt (Nat.lt_of_le_of_lt (under_cnt p t) hc) hL fun w1 hb => under_any p w1 hp (h.bel hb) hw
  · rename_i hg
    exact Below_of _ _ _ F .nil L w h.lt (by simp [T.cnt, T.rows]) (by rw [hL]; rfl) fun w1 hb => under_bad a n w1 ha (by simpa using hg) (h.bel hb) hw
theorem Below_nil (a : Nat) (n : Int) (w : World) : Calls Try.prog 30 #[.pointer none, .agg #[.int .u32 a, .int .i64 n]] w (RetKeys [] w) :=
  Below_of _ _ _ (fun _ => False) .nil [] w (fun _ e => e.elim) (by simp [T.cnt, T.rows]) rfl fun w1 _ => under_nil a n _ w1
/-- Count, from what under hands back -/
theorem Count_of (V : Option Addr) (a : Nat) (n : Int) (F : Foot) (s : T) (w : World) (hU : ∀ w1, Below w.heap.size w w1 → Calls Try.prog 82 #[.pointer V, .agg #[.int .u32 a, .int .i64 n]] w1 (UnderP w1 F s)) :
    Calls Try.prog 31 #[.pointer V, .agg #[.int .u32 a, .int .i64 n]] w fun e w' => e = .returned (.int .i64 (s.cnt : Int)) ∧ Below w.heap.size w w' := by
  have HB0 : Hid (Below w.heap.size w (w.alloc (.cells #[.int .u32 (a : Int), .int .i64 n] 30))) := (Below.refl _ _).alloc (Nat.le_refl _) _
  have HU := Lib.hid (hU _ HB0.out)
  clear hU
  go_enter Try.func31, Try.ntmps31
  go_wp2_with fail
  refine HU.out.mono ?_; rintro e w1 ⟨A, rfl, hb1, G, hT, _⟩
  have HC := Lib.hid (count_any A s.cnt w1 hT.cn)
  have HB1 := Lib.hid (HB0.out.trans (hb1.mono HB0.out.size))
  clear hT hb1
  go_wp2_with fail
  refine HC.out.mono ?_; rintro e w' ⟨rfl, rfl⟩
  go_wp2_with fail
  go_ret
  exact ⟨rfl, HB1.out⟩
def countN (t : T) (a : Nat) (n : Int) : Nat := if goodB a n = true then (t.under (bitsOf a n.toNat)).cnt else 0
theorem Count_any {F : Foot} {tr : Nat} {t : T} (a : Nat) (n : Int) (w : World) (ha : a < 4294967296) (h : Tri w F tr t) (hw : t.Wf []) :
    Calls Try.prog 31 #[.pointer (some ⟨tr, 0, none⟩), .agg #[.int .u32 a, .int .i64 n]] w fun e w' => e = .returned (.int .i64 (countN t a n : Int)) ∧ Below w.heap.size w w' := by
  unfold countN
  split
  · rename_i hg
    obtain ⟨p, hp, rfl, rfl, e⟩ := good_key ha hg
    rw [e]
    exact Count_of _ _ _ F (t.under p) w fun w1 hb => under_any p w1 hp (h.bel hb) hw
  · rename_i hg
    exact Count_of _ _ _ F .nil w fun w1 hb => under_bad a n w1 ha (by simpa using hg) (h.bel hb) hw
theorem Count_nil (a : Nat) (n : Int) (w : World) : Calls Try.prog 31 #[.pointer none, .agg #[.int .u32 a, .int .i64 n]] w fun e w' => e = .returned (.int .i64 0) ∧ Below w.heap.size w w' :=
  Count_of _ _ _ (fun _ => False) .nil w fun w1 _ => under_nil a n _ w1
end Go.Proofs.Ytbhhkjkjihenoaa.tri
