/- What fsm's send returns and leaves (Mc.sent builds; send_any: the tactics pass, the kernel runs out of memory). Conditions as each lemma states. -/
import Derived.Test.YtbhhkjkjihenoaaFsm
import Derived.Test.YtbhhkjkjihenoaaBuild
namespace Go.Proofs.Ytbhhkjkjihenoaa.fsm
open Go.RowKit Go.Proofs.Ytbhhkjkjihenoaa.kit Go.Proofs.Ytbhhkjkjihenoaa.mem Go.Proofs.Ytbhhkjkjihenoaa.foot
set_option linter.unusedVariables false
set_option linter.unusedSimpArgs false
theorem info_msg : (Try.prog.info? 66).map (fun i => (i.zero, i.size, i.bytes)) = some (some (.agg #[.int .i64 0, .int .u32 0, .int .i64 0, .int .u32 0, .bool false, .slice none 0 0, .int .i64 0, .int .i64 0, .slice none 0 0, .int .u32 0, .int .u32 0, .int .u32 0, .int .u32 0, .int .u32 0, .slice none 0 0, .slice none 0 0, .int .i64 0, .int .i64 0, .slice none 0 0]), 19, 208) := by kernel_rfl

theorem msg_cells : (Value.cells (.agg #[.int .i64 0, .int .u32 0, .int .i64 0, .int .u32 0, .bool false, .slice none 0 0, .int .i64 0, .int .i64 0, .slice none 0 0, .int .u32 0, .int .u32 0, .int .u32 0, .int .u32 0, .int .u32 0, .slice none 0 0, .slice none 0 0, .int .i64 0, .int .i64 0, .slice none 0 0])).size = 19 := by simp [Value.cells]
/-- a message behind those that are sent -/
theorem Mc.sent {w w0 w4 : World} {F : Foot} {m : Nat} {s : Sd} {f : Fs} {o : Ot} {xs x : List Value} {A A4 : Option Addr} {n c c4 : Nat} (h : Mc w F m s f o xs) (hb : Bk w m 172 (mcV s f A n c o)) (hn : n ≤ 999) (hx : ∀ u ∈ x, u.oneCell' = true) (h0 : Below w.heap.size w w0)
    (ho : Own w4 66 19 A4 (n + 1) c4 (xs ++ x)) (hc : Chg (sf A) w0 w4) (hf : Fresh w0 (sf A) (sf A4)) :
    ∃ F', Mc (w4.setCell ⟨m, 15, none⟩ (.slice A4 (n + 1) c4)) F' m s f o (xs ++ x) ∧ Chg F w (w4.setCell ⟨m, 15, none⟩ (.slice A4 (n + 1) c4)) ∧ Fresh w F F' := by
  have hone := h.one
  have hlt := h.lt
  have hmem := h.mem
  obtain ⟨⟨A1, n1, c1, h1, h2, h3, h4, h5⟩, _, _, _⟩ := h
  have e := h1.symm.trans hb
  simp [mcV] at e
  obtain ⟨rfl, rfl, rfl⟩ := e
  have hs0 := h0.size
  have hs4 := hc.size
  have hmw := hlt m hmem
  have hA4 : ∀ k, sf A4 k → F k ∨ w.heap.size ≤ k := fun k hk => by
    rcases hf k hk with g | g
    · exact .inl (h3 k g)
    · exact .inr (by omega)
  have hnm : ¬ sf A4 m := fun hk => by
    rcases hf m hk with g | g
    · exact h4 g
    · omega
  have hb4 : Bk w4 m 172 (mcV s f A1 n1 c1 o) := Bk.chg (hb.below h0 hmw) hc h4
  have hcs : Chg (fun k => k = m) w4 (w4.setCell ⟨m, 15, none⟩ (.slice A4 (n1 + 1) c4)) := (Chg.refl (fun k => k = m) w4).put (p := ⟨m, 15, none⟩) (.inl rfl) _
  refine ⟨fun k => F k ∨ sf A4 k, ⟨⟨A4, n1 + 1, c4, ?_, ho.chg hcs fun k _ hk e => hnm (e ▸ hk), fun k hk => .inr hk, hnm, by omega⟩, fun u hu => ?_, .inl hmem, fun k hk => ?_⟩, ?_, fun k hk => ?_⟩
  · have g := hb4.put 15 (.slice A4 (n1 + 1) c4)
    simp [mcV] at g
    exact g
  · rcases List.mem_append.1 hu with g | g
    · exact hone u g
    · exact hx u g
  · have hss : (w4.setCell ⟨m, 15, none⟩ (.slice A4 (n1 + 1) c4)).heap.size = w4.heap.size := by simp
    rw [hss]
    rcases hk with g | g
    · exact Nat.lt_of_lt_of_le (hlt k g) (by omega)
    · exact ho.lt k g
  · exact ((Chg.of_below h0 F).trans hc fun i _ g => h3 i g).trans hcs fun i _ e => by rw [e]; exact hmem
  · rcases hk with g | g
    · exact .inl g
    · exact hA4 k g

set_option maxRecDepth 100000 in
set_option maxHeartbeats 2000000 in
theorem send_any {F : Foot} {m : Nat} {s : Sd} {f : Fs} {o : Ot} {xs : List Value} (x0 x1 x2 x3 x4 x5 x6 x7 x8 x9 x10 x11 x12 x13 x14 x15 x16 x17 x18 : Value) (w : World) (hx : ∀ u ∈ [x0, x1, x2, x3, x4, x5, x6, x7, x8, x9, x10, x11, x12, x13, x14, x15, x16, x17, x18], u.oneCell' = true) (hn : xs.length ≤ 18981) (h : Mc w F m s f o xs) :
    Calls Try.prog 169 #[.pointer (some ⟨m, 0, none⟩), .agg #[x0, x1, x2, x3, x4, x5, x6, x7, x8, x9, x10, x11, x12, x13, x14, x15, x16, x17, x18]] w fun e w' => e = .returned (.tuple #[]) ∧ ∃ F', Mc w' F' m s f o (xs ++ [x0, x1, x2, x3, x4, x5, x6, x7, x8, x9, x10, x11, x12, x13, x14, x15, x16, x17, x18]) ∧ Chg F w w' ∧ Fresh w F F' := by
  obtain ⟨A, n, c, hb, hown, h3, h4, h5⟩ := h.ex
  have hn9 : n ≤ 999 := by have := hown.1; omega
  obtain ⟨wB, hwB⟩ : ∃ wB, wB = w.alloc (.cells #[x0, x1, x2, x3, x4, x5, x6, x7, x8, x9, x10, x11, x12, x13, x14, x15, x16, x17, x18] 66) := ⟨_, rfl⟩
  have HB0 : Hid (Below w.heap.size w wB) := by rw [hwB]; exact (Below.refl _ _).alloc (Nat.le_refl _) _
  have hbx : Bk wB w.heap.size 66 #[x0, x1, x2, x3, x4, x5, x6, x7, x8, x9, x10, x11, x12, x13, x14, x15, x16, x17, x18] := by rw [hwB]; exact Bk.new w _ _
  have hbm : Bk wB m 172 (mcV s f A n c o) := hb.below HB0.out (h.lt m h.mem)
  have HBm := Lib.hid hbm
  have hb2 : Below wB.heap.size wB (wB.alloc (.cells #[x0, x1, x2, x3, x4, x5, x6, x7, x8, x9, x10, x11, x12, x13, x14, x15, x16, x17, x18] 66)) := (Below.refl _ _).alloc (Nat.le_refl _) _
  have HOw : Hid (Own (wB.drew.alloc (.cells #[x0, x1, x2, x3, x4, x5, x6, x7, x8, x9, x10, x11, x12, x13, x14, x15, x16, x17, x18] 66)) 66 19 A n c xs) := ((hown.bel HB0.out).bel (Below.refl _ _).drew).bel ((Below.refl _ _).alloc (Nat.le_refl _) _)
  have HRg : Hid (Rg (wB.drew.alloc (.cells #[x0, x1, x2, x3, x4, x5, x6, x7, x8, x9, x10, x11, x12, x13, x14, x15, x16, x17, x18] 66)) (fun k => k = wB.heap.size) 19 (some ⟨wB.heap.size, 0, none⟩) 1 [x0, x1, x2, x3, x4, x5, x6, x7, x8, x9, x10, x11, x12, x13, x14, x15, x16, x17, x18]) := (Rg.new wB.drew 66 19 1 #[x0, x1, x2, x3, x4, x5, x6, x7, x8, x9, x10, x11, x12, x13, x14, x15, x16, x17, x18] rfl)
  have HOne := Lib.hid hx
  have HE : Hid (∀ w0 w4 A4 c4, Own w4 66 19 A4 (n + 1) c4 (xs ++ [x0, x1, x2, x3, x4, x5, x6, x7, x8, x9, x10, x11, x12, x13, x14, x15, x16, x17, x18]) → Chg (sf A) w0 w4 → Fresh w0 (sf A) (sf A4) → w0.heap = (wB.alloc (.cells #[x0, x1, x2, x3, x4, x5, x6, x7, x8, x9, x10, x11, x12, x13, x14, x15, x16, x17, x18] 66)).heap → w0.os = wB.os → w0.tape = wB.tape → w0.output = wB.output → ∃ F', Mc (w4.setCell ⟨m, 15, none⟩ (.slice A4 (n + 1) c4)) F' m s f o (xs ++ [x0, x1, x2, x3, x4, x5, x6, x7, x8, x9, x10, x11, x12, x13, x14, x15, x16, x17, x18]) ∧ Chg F w (w4.setCell ⟨m, 15, none⟩ (.slice A4 (n + 1) c4)) ∧ Fresh w F F') := fun w0 w4 A4 c4 g1 g2 g3 e1 e2 e3 e4 => by
    have hbl := HB0.out.trans (hb2.mono HB0.out.size)
    exact h.sent hb hn9 hx ⟨e2.trans HB0.out.os, e3.trans HB0.out.tape, e4.trans HB0.out.output, by rw [e1]; exact hbl.size, fun k hk => by rw [e1]; exact hbl.block k hk⟩ g1 g2 g3
  have HM4 : Hid (∀ w0 w4, Chg (sf A) w0 w4 → w0.heap = (wB.alloc (.cells #[x0, x1, x2, x3, x4, x5, x6, x7, x8, x9, x10, x11, x12, x13, x14, x15, x16, x17, x18] 66)).heap → Bk w4 m 172 (mcV s f A n c o)) := fun w0 w4 g2 e1 => Bk.chg (w := w0) (by unfold Bk; rw [e1]; exact (hbm.below hb2 hbm.lt)) g2 h4
  obtain ⟨i0, hi, hz0, hz1, hz2⟩ := info_parts info_msg
  have Hi := Lib.hid hi
  have Hz0 := Lib.hid hz0
  have Hz1 := Lib.hid hz1
  have Hz2 := Lib.hid hz2
  have Hcell : Hid (∀ v ∈ [Value.agg #[x0, x1, x2, x3, x4, x5, x6, x7, x8, x9, x10, x11, x12, x13, x14, x15, x16, x17, x18]], v.cells.size = 19) := fun v hv => by simp at hv; subst hv; rfl
  have k0 : wB.cell? ⟨m, 15, none⟩ = some (.slice A n c) := hbm.cell 15
  have k1 := fun i => hbm.free i
  have k2 := hbm.lt
  have HBX : Hid (Bk wB.drew w.heap.size 66 #[x0, x1, x2, x3, x4, x5, x6, x7, x8, x9, x10, x11, x12, x13, x14, x15, x16, x17, x18]) := hbx
  have hszm : (Try.prog.info? 66).map (·.size) = some 19 := by rw [hi]; simp [hz1]
  have Hszm := Lib.hid hszm
  clear hszm
  clear h hb hown h3 h4 hbx hbm hb2 hx hi hz0 hz1 hz2 HBm
  go_enter Try.func169, Try.ntmps169
  go_wp2_with fail
  rw [← hwB]
  clear hwB
  generalize w.heap.size = gx at *
  refine wp_region_any (by kernel_rfl) ?_
  try (change wpAny _ _ _ _ _ _ _ (World.drew _))
  refine wpAny_take (i := 0) (v := ?_) rfl (by kernel_rfl) (by kernel_rfl) (by kernel_rfl) (fun _ _ _ h => h) (Or.inl ⟨by rfl, ?_⟩) ?_
  rotate_left
  · (intro w; go_simp <;> with_reducible rfl)
  refine wpAny_take (i := 1) (v := ?_) rfl (by kernel_rfl) (by kernel_rfl) (by kernel_rfl) (fun _ _ _ h => h) (Or.inl ⟨by rfl, ?_⟩) ?_
  rotate_left
  · (intro w; go_simp <;> with_reducible rfl)
  refine wpAny_take (i := 2) (v := ?_) rfl (by kernel_rfl) (by kernel_rfl) (by kernel_rfl) (fun _ _ _ h => h) (Or.inl ⟨by rfl, ?_⟩) ?_
  rotate_left
  · (intro w; go_simp <;> with_reducible rfl)
  refine wpAny_take (i := 3) (v := ?_) rfl (by kernel_rfl) (by kernel_rfl) (by kernel_rfl) (fun _ _ _ h => h) (Or.inl ⟨by rfl, ?_⟩) ?_
  rotate_left
  · (intro w; go_simp <;> with_reducible rfl)
  refine wpAny_take (i := 4) (v := ?_) rfl (by kernel_rfl) (by kernel_rfl) (by kernel_rfl) (fun _ _ _ h => h) (Or.inl ⟨by rfl, ?_⟩) ?_
  rotate_left
  · (intro w; go_simp <;> with_reducible rfl)
  refine wpAny_ready (rs := [5, 6]) (by kernel_rfl) (by simp) ?_
  refine AllReady.cons (o := _) rfl (fun K hK => ?_) ?_
  · go_simp
    refine hK _ _ ?_
    clear hK K
    refine wpAny_ready (rs := [6]) (by kernel_rfl) (by simp) ?_
    refine AllReady.cons (o := _) rfl (fun K hK => ?_) AllReady.nil
    refine step_load rfl 66 (.tmp 3) rfl gx (by rfl) 66 _ _ HBX.out Try.underlying66 (by rfl) Hszm.out ?_
    try go_simp
    refine hK _ _ ?_
    clear hK K
    refine wpAny_ready (rs := [7]) (by kernel_rfl) (by simp) ?_
    refine AllReady.cons (o := _) rfl (fun K hK => ?_) AllReady.nil
    refine step_lit rfl 74 66 1 _ rfl i0 _ 19 Try.underlying74 Hi.out Hz0.out Hz1.out (by omega) [.agg #[x0, x1, x2, x3, x4, x5, x6, x7, x8, x9, x10, x11, x12, x13, x14, x15, x16, x17, x18]] rfl (by omega) (by omega) (by rfl) Hcell.out [x0, x1, x2, x3, x4, x5, x6, x7, x8, x9, x10, x11, x12, x13, x14, x15, x16, x17, x18] (by rfl) ?_
    try go_simp
    refine hK _ _ ?_
    clear hK K
    refine wpAny_ready (rs := [8]) (by kernel_rfl) (by simp) ?_
    refine AllReady.cons (o := _) rfl (fun K hK => ?_) AllReady.nil
    refine step_app _ (by rfl) (.tmp 9) (.tmp 11) _ (by rfl) 66 i0 _ 19 208 Try.underlying74 Hi.out Hz0.out Hz1.out Hz2.out msg_cells (by omega) A n c xs (by rfl) HOw.out _ (some ⟨wB.heap.size, 0, none⟩) 1 1 (by intro h; cases h) [x0, x1, x2, x3, x4, x5, x6, x7, x8, x9, x10, x11, x12, x13, x14, x15, x16, x17, x18] (by rfl) HRg.out HOne.out (by unfold maxLen; omega) (by omega) ?_
    intro A4 c4 w4 ho4 hc4 hf4
    clear k0 k1 k2
    have HBx := Lib.hid (HM4.out _ w4 hc4 rfl)
    have k0 : w4.cell? ⟨m, 15, none⟩ = some (.slice A n c) := by have h := HBx.out.cell 15; simpa [mcV] using h
    have k1 := fun i => HBx.out.free i
    have k2 := HBx.out.lt
    have HEx := Lib.hid (HE.out _ w4 A4 c4 ho4 hc4 hf4 rfl rfl rfl rfl)
    clear ho4 hc4 hf4
    try go_simp
    refine hK _ _ ?_
    clear hK K
    refine wpAny_take (i := 9) (v := ?_) rfl (by kernel_rfl) (by kernel_rfl) (by kernel_rfl) (fun _ _ _ h => h) (Or.inl ⟨by rfl, ?_⟩) ?_
    rotate_left
    · (intro w; go_simp <;> with_reducible rfl)
    refine wpAny_take (i := 10) (v := ?_) rfl (by kernel_rfl) (by kernel_rfl) (by kernel_rfl) (fun _ _ _ h => h) (Or.inl ⟨by rfl, ?_⟩) ?_
    rotate_left
    · (intro w; go_simp <;> with_reducible rfl)
    refine wpAny_take (i := 11) (v := ?_) rfl (by kernel_rfl) (by kernel_rfl) (by kernel_rfl) (fun _ _ _ h => h) (Or.inl ⟨by rfl, ?_⟩) ?_
    rotate_left
    · (intro w; go_simp <;> with_reducible rfl)
    refine wpAny_ready (rs := [12]) (by kernel_rfl) (by simp) ?_
    refine AllReady.cons (o := _) rfl (fun K hK => ?_) AllReady.nil
    go_simp
    refine hK _ _ ?_
    clear hK K
    refine wpAny_done (by kernel_rfl) ?_ _
    go_wp2_with fail
    refine bodyPost_end (results_none rfl _ _ _) rfl ?_
    exact ⟨rfl, HEx.out⟩
  refine AllReady.cons (o := _) rfl (fun K hK => ?_) AllReady.nil
  refine step_load rfl 66 (.tmp 3) rfl gx (by rfl) 66 _ _ HBX.out Try.underlying66 (by rfl) Hszm.out ?_
  try go_simp
  refine hK _ _ ?_
  clear hK K
  refine wpAny_ready (rs := [5, 7]) (by kernel_rfl) (by simp) ?_
  refine AllReady.cons (o := _) rfl (fun K hK => ?_) ?_
  · go_simp
    refine hK _ _ ?_
    clear hK K
    refine wpAny_ready (rs := [7]) (by kernel_rfl) (by simp) ?_
    refine AllReady.cons (o := _) rfl (fun K hK => ?_) AllReady.nil
    refine step_lit rfl 74 66 1 _ rfl i0 _ 19 Try.underlying74 Hi.out Hz0.out Hz1.out (by omega) [.agg #[x0, x1, x2, x3, x4, x5, x6, x7, x8, x9, x10, x11, x12, x13, x14, x15, x16, x17, x18]] rfl (by omega) (by omega) (by rfl) Hcell.out [x0, x1, x2, x3, x4, x5, x6, x7, x8, x9, x10, x11, x12, x13, x14, x15, x16, x17, x18] (by rfl) ?_
    try go_simp
    refine hK _ _ ?_
    clear hK K
    refine wpAny_ready (rs := [8]) (by kernel_rfl) (by simp) ?_
    refine AllReady.cons (o := _) rfl (fun K hK => ?_) AllReady.nil
    refine step_app _ (by rfl) (.tmp 9) (.tmp 11) _ (by rfl) 66 i0 _ 19 208 Try.underlying74 Hi.out Hz0.out Hz1.out Hz2.out msg_cells (by omega) A n c xs (by rfl) HOw.out _ (some ⟨wB.heap.size, 0, none⟩) 1 1 (by intro h; cases h) [x0, x1, x2, x3, x4, x5, x6, x7, x8, x9, x10, x11, x12, x13, x14, x15, x16, x17, x18] (by rfl) HRg.out HOne.out (by unfold maxLen; omega) (by omega) ?_
    intro A4 c4 w4 ho4 hc4 hf4
    clear k0 k1 k2
    have HBx := Lib.hid (HM4.out _ w4 hc4 rfl)
    have k0 : w4.cell? ⟨m, 15, none⟩ = some (.slice A n c) := by have h := HBx.out.cell 15; simpa [mcV] using h
    have k1 := fun i => HBx.out.free i
    have k2 := HBx.out.lt
    have HEx := Lib.hid (HE.out _ w4 A4 c4 ho4 hc4 hf4 rfl rfl rfl rfl)
    clear ho4 hc4 hf4
    try go_simp
    refine hK _ _ ?_
    clear hK K
    refine wpAny_take (i := 9) (v := ?_) rfl (by kernel_rfl) (by kernel_rfl) (by kernel_rfl) (fun _ _ _ h => h) (Or.inl ⟨by rfl, ?_⟩) ?_
    rotate_left
    · (intro w; go_simp <;> with_reducible rfl)
    refine wpAny_take (i := 10) (v := ?_) rfl (by kernel_rfl) (by kernel_rfl) (by kernel_rfl) (fun _ _ _ h => h) (Or.inl ⟨by rfl, ?_⟩) ?_
    rotate_left
    · (intro w; go_simp <;> with_reducible rfl)
    refine wpAny_take (i := 11) (v := ?_) rfl (by kernel_rfl) (by kernel_rfl) (by kernel_rfl) (fun _ _ _ h => h) (Or.inl ⟨by rfl, ?_⟩) ?_
    rotate_left
    · (intro w; go_simp <;> with_reducible rfl)
    refine wpAny_ready (rs := [12]) (by kernel_rfl) (by simp) ?_
    refine AllReady.cons (o := _) rfl (fun K hK => ?_) AllReady.nil
    go_simp
    refine hK _ _ ?_
    clear hK K
    refine wpAny_done (by kernel_rfl) ?_ _
    go_wp2_with fail
    refine bodyPost_end (results_none rfl _ _ _) rfl ?_
    exact ⟨rfl, HEx.out⟩
  refine AllReady.cons (o := _) rfl (fun K hK => ?_) AllReady.nil
  refine step_lit rfl 74 66 1 _ rfl i0 _ 19 Try.underlying74 Hi.out Hz0.out Hz1.out (by omega) [.agg #[x0, x1, x2, x3, x4, x5, x6, x7, x8, x9, x10, x11, x12, x13, x14, x15, x16, x17, x18]] rfl (by omega) (by omega) (by rfl) Hcell.out [x0, x1, x2, x3, x4, x5, x6, x7, x8, x9, x10, x11, x12, x13, x14, x15, x16, x17, x18] (by rfl) ?_
  try go_simp
  refine hK _ _ ?_
  clear hK K
  refine wpAny_ready (rs := [5]) (by kernel_rfl) (by simp) ?_
  refine AllReady.cons (o := _) rfl (fun K hK => ?_) AllReady.nil
  go_simp
  refine hK _ _ ?_
  clear hK K
  refine wpAny_ready (rs := [8]) (by kernel_rfl) (by simp) ?_
  refine AllReady.cons (o := _) rfl (fun K hK => ?_) AllReady.nil
  refine step_app _ (by rfl) (.tmp 9) (.tmp 11) _ (by rfl) 66 i0 _ 19 208 Try.underlying74 Hi.out Hz0.out Hz1.out Hz2.out msg_cells (by omega) A n c xs (by rfl) HOw.out _ (some ⟨wB.heap.size, 0, none⟩) 1 1 (by intro h; cases h) [x0, x1, x2, x3, x4, x5, x6, x7, x8, x9, x10, x11, x12, x13, x14, x15, x16, x17, x18] (by rfl) HRg.out HOne.out (by unfold maxLen; omega) (by omega) ?_
  intro A4 c4 w4 ho4 hc4 hf4
  clear k0 k1 k2
  have HBx := Lib.hid (HM4.out _ w4 hc4 rfl)
  have k0 : w4.cell? ⟨m, 15, none⟩ = some (.slice A n c) := by have h := HBx.out.cell 15; simpa [mcV] using h
  have k1 := fun i => HBx.out.free i
  have k2 := HBx.out.lt
  have HEx := Lib.hid (HE.out _ w4 A4 c4 ho4 hc4 hf4 rfl rfl rfl rfl)
  clear ho4 hc4 hf4
  try go_simp
  refine hK _ _ ?_
  clear hK K
  refine wpAny_take (i := 9) (v := ?_) rfl (by kernel_rfl) (by kernel_rfl) (by kernel_rfl) (fun _ _ _ h => h) (Or.inl ⟨by rfl, ?_⟩) ?_
  rotate_left
  · (intro w; go_simp <;> with_reducible rfl)
  refine wpAny_take (i := 10) (v := ?_) rfl (by kernel_rfl) (by kernel_rfl) (by kernel_rfl) (fun _ _ _ h => h) (Or.inl ⟨by rfl, ?_⟩) ?_
  rotate_left
  · (intro w; go_simp <;> with_reducible rfl)
  refine wpAny_take (i := 11) (v := ?_) rfl (by kernel_rfl) (by kernel_rfl) (by kernel_rfl) (fun _ _ _ h => h) (Or.inl ⟨by rfl, ?_⟩) ?_
  rotate_left
  · (intro w; go_simp <;> with_reducible rfl)
  refine wpAny_ready (rs := [12]) (by kernel_rfl) (by simp) ?_
  refine AllReady.cons (o := _) rfl (fun K hK => ?_) AllReady.nil
  go_simp
  refine hK _ _ ?_
  clear hK K
  refine wpAny_done (by kernel_rfl) ?_ _
  go_wp2_with fail
  refine bodyPost_end (results_none rfl _ _ _) rfl ?_
  exact ⟨rfl, HEx.out⟩
end Go.Proofs.Ytbhhkjkjihenoaa.fsm
