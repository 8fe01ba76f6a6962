/- What a tree's New, Len, Nodes return; what each does. Conditions as each lemma states. -/
import Derived.Test.YtbhhkjkjihenoaaTrieGet
namespace Go.Proofs.Ytbhhkjkjihenoaa.tri
open Go.RowKit Go.Proofs.Ytbhhkjkjihenoaa.kit Go.Proofs.Ytbhhkjkjihenoaa.mem Go.Proofs.Ytbhhkjkjihenoaa.foot Go.Proofs.Ytbhhkjkjihenoaa.pfx
set_option linter.unusedVariables false
set_option linter.unusedSimpArgs false

theorem New_any (w : World) : Calls Try.prog 14 #[] w fun e w' => ∃ tr F, e = .returned (.pointer (some ⟨tr, 0, none⟩)) ∧ Tri w' F tr .nil ∧ (∀ x, F x → w.heap.size ≤ x) ∧ Below w.heap.size w w' := by
  go_enter Try.func14, Try.ntmps14
  go_wp2_with fail
  go_ret
  exact ⟨w.heap.size, fun x => x = w.heap.size, rfl, ⟨⟨none, fun _ => False, Bk.new w _ _, rfl, fun e => e, fun _ e => e.elim⟩, rfl, fun x e => by rw [e]; simp⟩, fun x e => by rw [e]; exact Nat.le_refl _, (Below.refl _ _).alloc (Nat.le_refl _) _⟩
theorem top_any {F : Foot} {tr : Nat} {t : T} (w : World) (h : Tri w F tr t) : Calls Try.prog 69 #[.pointer (some ⟨tr, 0, none⟩)] w fun e w' => (∃ A G, e = .returned (.pointer A) ∧ Bk w tr 130 #[.pointer A] ∧ Tr w G t A ∧ ¬ G tr ∧ ∀ x, G x → F x) ∧ w = w' := by
  obtain ⟨⟨A, G, hk, htr, hGt, hGF⟩, hmem, hlt⟩ := h
  have HR : Hid (∃ A' G, (Value.pointer A : Value) = .pointer A' ∧ Bk w tr 130 #[.pointer A'] ∧ Tr w G t A' ∧ ¬ G tr ∧ ∀ x, G x → F x) := ⟨A, G, rfl, hk, htr, hGt, hGF⟩
  have q0 := hk.cell 0
  simp at q0
  clear hk htr hGt hGF hmem hlt
  go_enter Try.func69, Try.ntmps69
  go_wp2_with fail
  go_ret
  obtain ⟨A', G, e, h⟩ := HR.out
  exact ⟨⟨A', G, by rw [← e]; rfl, h⟩, rfl⟩
theorem top_nil (w : World) : Calls Try.prog 69 #[.pointer none] w fun e w' => e = .returned (.pointer none) ∧ w = w' := by
  go_enter Try.func69, Try.ntmps69
  go_wp2_with fail
  go_ret
  exact ⟨rfl, rfl⟩
theorem Len_any {F : Foot} {tr : Nat} {t : T} (w : World) (h : Tri w F tr t) : Calls Try.prog 32 #[.pointer (some ⟨tr, 0, none⟩)] w fun e w' => e = .returned (.int .i64 (t.cnt : Int)) ∧ w = w' := by
  have HT := Lib.hid (top_any w h)
  clear h
  go_enter Try.func32, Try.ntmps32
  go_wp2_with fail
  refine HT.out.mono ?_; rintro e w' ⟨⟨A, G, rfl, _, hT, _⟩, rfl⟩
  have HC := Lib.hid (count_any A t.cnt w hT.cn)
  clear hT
  go_wp2_with fail
  refine HC.out.mono ?_; rintro e w' ⟨rfl, rfl⟩
  go_wp2_with fail
  go_ret
  exact ⟨rfl, rfl⟩
theorem Len_nil (w : World) : Calls Try.prog 32 #[.pointer none] w fun e w' => e = .returned (.int .i64 0) ∧ w = w' := by
  have HC := Lib.hid (count_any none 0 w (.inl ⟨rfl, rfl⟩))
  go_enter Try.func32, Try.ntmps32
  go_wp2_with (first
    | (go_at_call 69; refine (top_nil _).mono ?_; rintro e w' ⟨rfl, rfl⟩)
    | (go_at_call 84; refine HC.out.mono ?_; rintro e w' ⟨rfl, rfl⟩))
  go_ret
  exact ⟨rfl, rfl⟩

theorem nodes_nil (w : World) : Calls Try.prog 70 #[.pointer none] w fun e w' => e = .returned (.int .i64 ((T.size .nil : Nat) : Int)) ∧ ∃ n, w' = w.drewN n := by
  go_enter Try.func70, Try.ntmps70
  go_wp2_with fail
  go_ret
  exact ⟨rfl, 0, rfl⟩
set_option maxRecDepth 100000 in
theorem nodes_any : ∀ (t : T) (F : Foot) (A : Option Addr) (w : World), Tr w F t A → t.size < 1000000 → Calls Try.prog 70 #[.pointer A] w fun e w' => e = .returned (.int .i64 (t.size : Int)) ∧ ∃ n, w' = w.drewN n
  | .nil, F, A, w, h, hs => by
    have hA : A = none := h
    subst hA
    exact nodes_nil w
  | .node k u b l r, F, A, w, h, hs => by
    obtain ⟨g, FL, FR, kl, kr, rfl, c1, c2, c3, c4, _⟩ := h
    have q5 := c1.cell 5
    have q6 := c1.cell 6
    simp at q5 q6
    rw [T.size] at hs
    have ihl := nodes_any l FL kl
    have ihr := nodes_any r FR kr
    have HL := Lib.hid (fun n => ihl (w.drewN n) (c3.bel (below_drewN (Below.refl _ _) n)) (by omega))
    have HR := Lib.hid (fun n => ihr (w.drewN n) (c4.bel (below_drewN (Below.refl _ _) n)) (by omega))
    have hs1 : (l.size : Int) < 1000000 := by omega
    have hs2 : (1 : Int) + l.size + r.size < 1000000 := by omega
    have HS : Hid (((T.node k u b l r).size : Int) = 1 + (l.size : Int) + (r.size : Int)) := by rw [Hid, T.size]; omega
    have hw1 : IntKind.i64.wrap ((1 : Int) + (l.size : Int)) = 1 + (l.size : Int) := by rw [IntKind.wrap_i64]; omega
    have hw2 : IntKind.i64.wrap ((1 : Int) + (l.size : Int) + (r.size : Int)) = 1 + (l.size : Int) + (r.size : Int) := by rw [IntKind.wrap_i64]; omega
    clear c1 c3 c4 ihl ihr hs hs1 hs2
    generalize ((T.node k u b l r).size : Int) = z at *
    generalize (l.size : Int) = zl at *
    generalize (r.size : Int) = zr at *
    go_enter Try.func70, Try.ntmps70
    go_wp2_with fail
    go_quiet (first
      | (go_at_call_of 70 (Value.pointer kl); refine Calls.quiet_of (HL.out _))
      | (go_at_call_of 70 (Value.pointer kr); refine Calls.quiet_of (HR.out _)))
    go_wp2_with fail
    go_ret
    exact ⟨by rw [HS.out]; rfl, nq, rfl⟩
theorem Nodes_any {F : Foot} {tr : Nat} {t : T} (w : World) (h : Tri w F tr t) (hs : t.size < 1000000) : Calls Try.prog 17 #[.pointer (some ⟨tr, 0, none⟩)] w fun e w' => e = .returned (.int .i64 (t.size : Int)) ∧ Below w.heap.size w w' := by
  have HT := Lib.hid (top_any w h)
  clear h
  go_enter Try.func17, Try.ntmps17
  go_wp2_with fail
  refine HT.out.mono ?_; rintro e w' ⟨⟨A, G, rfl, _, hT, _⟩, rfl⟩
  have HC := Lib.hid (nodes_any t G A w hT hs)
  clear hT
  go_wp2_with fail
  refine HC.out.mono ?_; rintro e w' ⟨rfl, n, rfl⟩
  go_wp2_with fail
  go_ret
  exact ⟨rfl, below_drewN (Below.refl _ _) n⟩
theorem Nodes_nil (w : World) : Calls Try.prog 17 #[.pointer none] w fun e w' => e = .returned (.int .i64 0) ∧ Below w.heap.size w w' := by
  go_enter Try.func17, Try.ntmps17
  go_wp2_with fail
  refine (top_nil _).mono ?_; rintro e w' ⟨rfl, rfl⟩
  go_wp2_with fail
  refine (nodes_nil w).mono ?_; rintro e w' ⟨rfl, n, rfl⟩
  go_wp2_with fail
  go_ret
  exact ⟨rfl, below_drewN (Below.refl _ _) n⟩

theorem fold_len (step : List Key → Key → List Key) (hst : ∀ xs p, (step xs p).length ≤ xs.length + 1) : ∀ (l : List (Key × Int)) (xs : List Key), (l.foldl (fun xs r => step xs r.1) xs).length ≤ xs.length + l.length
  | [], xs => by simp
  | r :: l, xs => by
    rw [List.foldl_cons]
    have h1 := fold_len step hst l (step xs r.1)
    have h2 := hst xs r.1
    simp only [List.length_cons]
    omega
set_option maxRecDepth 100000 in
/-- each, with a function that keeps I -/
theorem each_all (ob : Nat) (B : Nat) (I : World → List Key → Prop) (step : List Key → Key → List Key) (hst : ∀ xs p, (step xs p).length ≤ xs.length + 1)
    (hY : ∀ (p : Key) (w : World) (xs : List Key), p.length ≤ 32 → B ≤ w.heap.size → xs.length < 1000000 → I w xs → Calls Try.prog 76 #[.agg #[.int .u32 (adr p), .int .i64 p.length], .pointer (some ⟨ob, 0, none⟩)] w fun e w' => e = .returned (.tuple #[]) ∧ I w' (step xs p) ∧ Below B w w') :
    ∀ (t : T) (F : Foot) (A : Option Addr) (w : World) (xs : List Key), Tr w F t A → (∀ x, F x → x < B) → B ≤ w.heap.size → xs.length + t.cnt < 1000000 → I w xs →
      Calls Try.prog 75 #[.pointer A, .func (.func 76) #[] #[.pointer (some ⟨ob, 0, none⟩)]] w fun e w' => e = .returned (.tuple #[]) ∧ I w' (t.rows.foldl (fun xs r => step xs r.1) xs) ∧ Below B w w'
  | .nil, F, A, w, xs, h, hF, hB, hlen, hI => by
    have hA : A = none := h
    subst hA
    have HI := Lib.hid hI
    clear hI h hY hlen
    go_enter Try.func75, Try.ntmps75
    go_wp2_with fail
    exact bodyPost_ret (results_none rfl _ _ _) rfl ⟨rfl, HI.out, Below.refl _ _⟩
  | .node k u b l r, F, A, w, xs, h, hF, hB, hlen, hI => by
    have ihl := each_all ob B I step hst hY l
    have ihr := each_all ob B I step hst hY r
    obtain ⟨g, FL, FR, kl, kr, rfl, c1, c2, c3, c4, c5, c6, c7, c8, c9, _⟩ := h
    have hgB := hF g c5
    have q0 := c1.cell 0
    have q1 := c1.cell 1
    have q3 := c1.cell 3
    have q5 := c1.cell 5
    have q6 := c1.cell 6
    simp at q0 q1 q3 q5 q6
    have HC := Lib.hid c1
    have H3 := Lib.hid c3
    have H4 := Lib.hid c4
    have HIR := Lib.hid ihr
    have HFR : Hid (∀ x, FR x → x < B) := fun x hx => hF x (c9 x hx)
    have hFL : ∀ x, FL x → x < B := fun x hx => hF x (c8 x hx).1
    rcases b with _ | _
    · have HL := Lib.hid (ihl FL kl w xs c3 hFL hB (by rw [T.cnt_node] at hlen; simp at hlen; omega) hI)
      have HLR : Hid ((l.rows.foldl (fun xs r => step xs r.1) xs).length + r.cnt < 1000000) := by have := fold_len step hst l.rows xs; rw [T.cnt_node] at hlen; simp at hlen; have e : l.cnt = l.rows.length := rfl; rw [Hid]; omega
      have HB := Lib.hid hB
      have HE : Hid ((T.node k u false l r).rows = l.rows ++ r.rows) := rfl
      clear c1 c3 c4 c5 c6 c7 c8 c9 hI ihl ihr hY hF hFL hB hlen
      go_enter Try.func75, Try.ntmps75
      go_wp2_with fail
      refine HL.out.mono ?_; rintro e w1 ⟨rfl, hI1, hb1⟩
      have HI1 := Lib.hid (HIR.out FR kr w1 _ (H4.out.chg (E := fun x => B ≤ x) ⟨hb1.os, hb1.tape, hb1.output, hb1.size, fun x _ hn => hb1.block x (by omega)⟩ (fun x hx => by have := HFR.out x hx; omega)) HFR.out (Nat.le_trans HB.out hb1.size) HLR.out hI1)
      have q6 := (hb1.cell (p := ⟨g, 6, none⟩) hgB).trans q6
      have HB1 := Lib.hid hb1
      clear hI1 hb1
      go_wp2_with fail
      refine HI1.out.mono ?_; rintro e w2 ⟨rfl, hI2, hb2⟩
      have HI2 : Hid _ := And.intro hI2 (HB1.out.trans hb2)
      clear hI2 hb2
      go_wp2_with fail
      refine bodyPost_end (results_none rfl _ _ _) rfl ⟨rfl, ?_, HI2.out.2⟩
      rw [HE.out, List.foldl_append]
      exact HI2.out.1
    · have HY := Lib.hid (hY k w xs c2 hB (by omega) hI)
      have HLL : Hid ((step xs k).length + l.cnt < 1000000) := by have := hst xs k; rw [T.cnt_node] at hlen; simp at hlen; rw [Hid]; omega
      have HLR : Hid ((l.rows.foldl (fun xs r => step xs r.1) (step xs k)).length + r.cnt < 1000000) := by have h2 := hst xs k; have := fold_len step hst l.rows (step xs k); rw [T.cnt_node] at hlen; simp at hlen; have e : l.cnt = l.rows.length := rfl; rw [Hid]; omega
      have HIL := Lib.hid ihl
      have HFL := Lib.hid hFL
      have HB := Lib.hid hB
      have HE : Hid ((T.node k u true l r).rows = (k, u) :: (l.rows ++ r.rows)) := rfl
      clear c1 c3 c4 c5 c6 c7 c8 c9 hI ihl ihr hY hF hFL hB hlen
      go_enter Try.func75, Try.ntmps75
      go_wp2_with fail
      refine HY.out.mono ?_; rintro e w0 ⟨rfl, hI0, hb0⟩
      have hE0 : Chg (fun x => B ≤ x) w w0 := ⟨hb0.os, hb0.tape, hb0.output, hb0.size, fun x _ hn => hb0.block x (by omega)⟩
      have HL := Lib.hid (HIL.out FL kl w0 _ (H3.out.chg hE0 (fun x hx => by have := HFL.out x hx; omega)) HFL.out (Nat.le_trans HB.out hb0.size) HLL.out hI0)
      have H40 := Lib.hid (H4.out.chg hE0 (fun x hx => by have := HFR.out x hx; omega))
      have q5 := (hb0.cell (p := ⟨g, 5, none⟩) hgB).trans q5
      have q6 := (hb0.cell (p := ⟨g, 6, none⟩) hgB).trans q6
      have HB0 := Lib.hid hb0
      clear hI0 hb0 hE0
      go_wp2_with fail
      refine HL.out.mono ?_; rintro e w1 ⟨rfl, hI1, hb1⟩
      have HI1 := Lib.hid (HIR.out FR kr w1 _ (H40.out.chg (E := fun x => B ≤ x) ⟨hb1.os, hb1.tape, hb1.output, hb1.size, fun x _ hn => hb1.block x (by omega)⟩ (fun x hx => by have := HFR.out x hx; omega)) HFR.out (Nat.le_trans HB.out (Nat.le_trans HB0.out.size hb1.size)) HLR.out hI1)
      have q6 := (hb1.cell (p := ⟨g, 6, none⟩) hgB).trans q6
      have HB1 := Lib.hid (HB0.out.trans hb1)
      clear hI1 hb1
      go_wp2_with fail
      refine HI1.out.mono ?_; rintro e w2 ⟨rfl, hI2, hb2⟩
      have HI2 : Hid _ := And.intro hI2 (HB1.out.trans hb2)
      clear hI2 hb2
      go_wp2_with fail
      refine bodyPost_end (results_none rfl _ _ _) rfl ⟨rfl, ?_, HI2.out.2⟩
      rw [HE.out, List.foldl_cons, List.foldl_append]
      exact HI2.out.1
set_option maxRecDepth 100000 in
/-- each, with a function that keeps I -/
theorem each_below (pb ob : Nat) (B : Nat) (I : World → List Key → Prop) (step : List Key → Key → List Key) (hst : ∀ xs p, (step xs p).length ≤ xs.length + 1)
    (hY : ∀ (p : Key) (w : World) (xs : List Key), p.length ≤ 32 → B ≤ w.heap.size → xs.length < 1000000 → I w xs → Calls Try.prog 83 #[.agg #[.int .u32 (adr p), .int .i64 p.length], .pointer (some ⟨pb, 0, none⟩), .pointer (some ⟨ob, 0, none⟩)] w fun e w' => e = .returned (.tuple #[]) ∧ I w' (step xs p) ∧ Below B w w') :
    ∀ (t : T) (F : Foot) (A : Option Addr) (w : World) (xs : List Key), Tr w F t A → (∀ x, F x → x < B) → B ≤ w.heap.size → xs.length + t.cnt < 1000000 → I w xs →
      Calls Try.prog 75 #[.pointer A, .func (.func 83) #[] #[.pointer (some ⟨pb, 0, none⟩), .pointer (some ⟨ob, 0, none⟩)]] w fun e w' => e = .returned (.tuple #[]) ∧ I w' (t.rows.foldl (fun xs r => step xs r.1) xs) ∧ Below B w w'
  | .nil, F, A, w, xs, h, hF, hB, hlen, hI => by
    have hA : A = none := h
    subst hA
    have HI := Lib.hid hI
    clear hI h hY hlen
    go_enter Try.func75, Try.ntmps75
    go_wp2_with fail
    exact bodyPost_ret (results_none rfl _ _ _) rfl ⟨rfl, HI.out, Below.refl _ _⟩
  | .node k u b l r, F, A, w, xs, h, hF, hB, hlen, hI => by
    have ihl := each_below pb ob B I step hst hY l
    have ihr := each_below pb ob B I step hst hY r
    obtain ⟨g, FL, FR, kl, kr, rfl, c1, c2, c3, c4, c5, c6, c7, c8, c9, _⟩ := h
    have hgB := hF g c5
    have q0 := c1.cell 0
    have q1 := c1.cell 1
    have q3 := c1.cell 3
    have q5 := c1.cell 5
    have q6 := c1.cell 6
    simp at q0 q1 q3 q5 q6
    have HC := Lib.hid c1
    have H3 := Lib.hid c3
    have H4 := Lib.hid c4
    have HIR := Lib.hid ihr
    have HFR : Hid (∀ x, FR x → x < B) := fun x hx => hF x (c9 x hx)
    have hFL : ∀ x, FL x → x < B := fun x hx => hF x (c8 x hx).1
    rcases b with _ | _
    · have HL := Lib.hid (ihl FL kl w xs c3 hFL hB (by rw [T.cnt_node] at hlen; simp at hlen; omega) hI)
      have HLR : Hid ((l.rows.foldl (fun xs r => step xs r.1) xs).length + r.cnt < 1000000) := by have := fold_len step hst l.rows xs; rw [T.cnt_node] at hlen; simp at hlen; have e : l.cnt = l.rows.length := rfl; rw [Hid]; omega
      have HB := Lib.hid hB
      have HE : Hid ((T.node k u false l r).rows = l.rows ++ r.rows) := rfl
      clear c1 c3 c4 c5 c6 c7 c8 c9 hI ihl ihr hY hF hFL hB hlen
      go_enter Try.func75, Try.ntmps75
      go_wp2_with fail
      refine HL.out.mono ?_; rintro e w1 ⟨rfl, hI1, hb1⟩
      have HI1 := Lib.hid (HIR.out FR kr w1 _ (H4.out.chg (E := fun x => B ≤ x) ⟨hb1.os, hb1.tape, hb1.output, hb1.size, fun x _ hn => hb1.block x (by omega)⟩ (fun x hx => by have := HFR.out x hx; omega)) HFR.out (Nat.le_trans HB.out hb1.size) HLR.out hI1)
      have q6 := (hb1.cell (p := ⟨g, 6, none⟩) hgB).trans q6
      have HB1 := Lib.hid hb1
      clear hI1 hb1
      go_wp2_with fail
      refine HI1.out.mono ?_; rintro e w2 ⟨rfl, hI2, hb2⟩
      have HI2 : Hid _ := And.intro hI2 (HB1.out.trans hb2)
      clear hI2 hb2
      go_wp2_with fail
      refine bodyPost_end (results_none rfl _ _ _) rfl ⟨rfl, ?_, HI2.out.2⟩
      rw [HE.out, List.foldl_append]
      exact HI2.out.1
    · have HY := Lib.hid (hY k w xs c2 hB (by omega) hI)
      have HLL : Hid ((step xs k).length + l.cnt < 1000000) := by have := hst xs k; rw [T.cnt_node] at hlen; simp at hlen; rw [Hid]; omega
      have HLR : Hid ((l.rows.foldl (fun xs r => step xs r.1) (step xs k)).length + r.cnt < 1000000) := by have h2 := hst xs k; have := fold_len step hst l.rows (step xs k); rw [T.cnt_node] at hlen; simp at hlen; have e : l.cnt = l.rows.length := rfl; rw [Hid]; omega
      have HIL := Lib.hid ihl
      have HFL := Lib.hid hFL
      have HB := Lib.hid hB
      have HE : Hid ((T.node k u true l r).rows = (k, u) :: (l.rows ++ r.rows)) := rfl
      clear c1 c3 c4 c5 c6 c7 c8 c9 hI ihl ihr hY hF hFL hB hlen
      go_enter Try.func75, Try.ntmps75
      go_wp2_with fail
      refine HY.out.mono ?_; rintro e w0 ⟨rfl, hI0, hb0⟩
      have hE0 : Chg (fun x => B ≤ x) w w0 := ⟨hb0.os, hb0.tape, hb0.output, hb0.size, fun x _ hn => hb0.block x (by omega)⟩
      have HL := Lib.hid (HIL.out FL kl w0 _ (H3.out.chg hE0 (fun x hx => by have := HFL.out x hx; omega)) HFL.out (Nat.le_trans HB.out hb0.size) HLL.out hI0)
      have H40 := Lib.hid (H4.out.chg hE0 (fun x hx => by have := HFR.out x hx; omega))
      have q5 := (hb0.cell (p := ⟨g, 5, none⟩) hgB).trans q5
      have q6 := (hb0.cell (p := ⟨g, 6, none⟩) hgB).trans q6
      have HB0 := Lib.hid hb0
      clear hI0 hb0 hE0
      go_wp2_with fail
      refine HL.out.mono ?_; rintro e w1 ⟨rfl, hI1, hb1⟩
      have HI1 := Lib.hid (HIR.out FR kr w1 _ (H40.out.chg (E := fun x => B ≤ x) ⟨hb1.os, hb1.tape, hb1.output, hb1.size, fun x _ hn => hb1.block x (by omega)⟩ (fun x hx => by have := HFR.out x hx; omega)) HFR.out (Nat.le_trans HB.out (Nat.le_trans HB0.out.size hb1.size)) HLR.out hI1)
      have q6 := (hb1.cell (p := ⟨g, 6, none⟩) hgB).trans q6
      have HB1 := Lib.hid (HB0.out.trans hb1)
      clear hI1 hb1
      go_wp2_with fail
      refine HI1.out.mono ?_; rintro e w2 ⟨rfl, hI2, hb2⟩
      have HI2 : Hid _ := And.intro hI2 (HB1.out.trans hb2)
      clear hI2 hb2
      go_wp2_with fail
      refine bodyPost_end (results_none rfl _ _ _) rfl ⟨rfl, ?_, HI2.out.2⟩
      rw [HE.out, List.foldl_cons, List.foldl_append]
      exact HI2.out.1
end Go.Proofs.Ytbhhkjkjihenoaa.tri
