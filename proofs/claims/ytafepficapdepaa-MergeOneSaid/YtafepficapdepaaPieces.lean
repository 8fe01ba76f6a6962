/- path.pieces: numbers in sequences of 255. Condition: at most 10^6 numbers. -/
import Derived.Test.YtafepficapdepaaChunk
namespace Go.Proofs.Ytafepficapdepaa.pth
open Go.RowKit Go.Shelf Go.Proofs Go.Proofs.Ytafepficapdepaa.kit Go.Proofs.Ytafepficapdepaa.mem Go.Proofs.Ytafepficapdepaa.foot Go.Proofs.Ytafepficapdepaa.nums Go.Proofs.Ytafepficapdepaa.asn
set_option linter.unusedVariables false
set_option linter.unusedSimpArgs false
attribute [local go_sem] Oper.semAt_some
theorem enters_chunk : ∀ args w, (callFunc 169 args).run Try.prog w = .ok (.enter 169 args) w := enters_of Try.func169 (by kernel_rfl) rfl
theorem upto_sgs (l : List Nat) (k : Nat) (h1 : l.length ≤ 255 * k) (h2 : 255 * k ≤ l.length + 254) : (upto k).map (fun x => ((2 : Int), (l.drop x).take 255)) = sgs 2 l := by
  have key : ∀ (k o : Nat), l.length ≤ o + 255 * k → o + 255 * k ≤ l.length + 254 → (k = 0 → l.length ≤ o) → ((List.range k).map fun j => ((2 : Int), (l.drop (o + 255 * j)).take 255)) = sgs 2 (l.drop o) := by
    intro k
    induction k with
    | zero =>
      intro o h1 h2 _
      rw [List.drop_eq_nil_of_le (by omega)]
      rfl
    | succ k ih =>
      intro o h1 h2 _
      have hne : l.drop o ≠ [] := by
        intro e
        have := congrArg List.length e
        rw [List.length_drop] at this
        simp at this
        omega
      rw [sgs_cons 2 hne, List.drop_drop, ← ih (o + 255) (by omega) (by omega) (by intro e; subst e; omega), List.range_succ_eq_map, List.map_cons, List.map_map]
      congr 1
      refine List.map_congr_left fun j _ => ?_
      simp only [Function.comp, Nat.succ_eq_add_one]
      rw [show o + 255 * (j + 1) = o + 255 + 255 * j by omega]
  have := key k 0 (by omega) (by omega) (by omega)
  rw [List.drop_zero] at this
  rw [← this]
  unfold upto
  rw [List.map_map]
  refine List.map_congr_left fun j _ => ?_
  simp [Function.comp]
/-- between two rounds -/
structure PI (w : World) (A : Option Addr) (l pre : List Nat) (W : World) : Prop where
  mem : ∃ A1 c1 vs, Bk W w.heap.size 73 #[.slice A1 pre.length c1] ∧ (∀ k, sf A1 k → w.heap.size + 3 ≤ k) ∧ Lst 2 rSeg 122 (fun k => w.heap.size ≤ k ∧ k ≠ w.heap.size) w W A1 pre.length c1 vs (pre.map fun x => ((2 : Int), (l.drop x).take 255))
  src : Us W (fun k => k < w.heap.size) A l
  big : w.heap.size + 3 ≤ W.heap.size
theorem PI.own {w : World} {A : Option Addr} {l : List Nat} {B : Nat} (hB : w.heap.size ≤ B) : OwnFrom B (PI w A l) := fun s W W' row hs hg hr => by
  have hst := stay_row hg fun r e => (hr r e).2
  obtain ⟨⟨A1, c1, vs, h1, h2, h3⟩, h4, h5⟩ := hs
  exact ⟨⟨A1, c1, vs, hst.block _ _ _ _ h1, h2, ⟨⟨foot.Own.stay h3.acc.own hst, h3.acc.bel.trans (below_grown hg h3.acc.bel.size fun g e => Nat.le_trans hB (hr g e).1), h3.acc.low⟩, all_stay h3.all hst, h3.len⟩⟩, Rg.stay h4 hst, Nat.le_trans h5 hg.size⟩
/-- a piece of the numbers -/
theorem us_part {w : World} {G : Foot} {b off : Nat} {l : List Nat} (h : Us w G (some ⟨b, off, none⟩) l) (x k : Nat) : Us w G (some ⟨b, off + x, none⟩) ((l.drop x).take k) := by
  refine ⟨by simp [uv], fun hn => ?_⟩
  have hn' : 0 < l.length := by simp at hn; omega
  obtain ⟨b', off', e, hb, hl, hc⟩ := h.2 hn'
  cases e
  refine ⟨b, off + x, rfl, hb, hl, fun j u hu => ?_⟩
  rw [Nat.add_assoc]
  refine hc (x + j) u ?_
  rw [uv_take, uv_drop, List.getElem?_take] at hu
  split at hu
  · rwa [List.getElem?_drop] at hu
  · cases hu
theorem stepIn_app {F : Fence} {n : Nat} {P : Program} {ops : Array Oper} {o : Oper} {a : Act} {w : World} {K : Act → World → Prop} {Q : Exit → Act → World → Prop} {E : Prop} (hgd : o.guard = none) (s x : Operand) (t : TypeId)
    (ho : o.op = .call { callee := .builtin .append, args := #[s, x], argTypes := #[t, t] })
    (e : TypeId) (i : TypeInfo) (z : Value) (size bytes : Nat) (ht : P.underlying t = some (.slice e)) (hi : P.info? e = some i) (hz : i.zero = some z)
    (hsize : i.size = size) (hby : i.bytes = bytes) (hzs : z.cells.size = size) (hsz : 0 < size)
    (A : Option Addr) (k c : Nat) (xs : List Value) (hs : a.eval s = .slice A k c) (hown : foot.Own w e size A k c xs)
    (G : Foot) (A2 : Option Addr) (m c2 : Nat) (hA2 : A2 = none → c2 = 0) (news : List Value) (hx : a.eval x = .slice A2 m c2) (hr : Rg w G size A2 m news) (h1 : ∀ u ∈ news, u.oneCell' = true)
    (h63 : k + m ≤ maxLen) (hbytes : (k + m) * bytes ≤ 140737488355328)
    (h : ∀ A' c' w', foot.Own w' e size A' (k + m) c' (xs ++ news) → Chg (sf A) w w' → Fresh w (sf A) (sf A') → K (a.put o.dst (.slice A' (k + m) c')) w') :
    if Region.wanted o (yielded ops a.tmps) = true then Oper.wpIn F n P o a w K Q else E := by
  have hw : Region.wanted o (yielded ops a.tmps) = true := by simp [Region.wanted, hgd]
  rw [if_pos hw]
  obtain ⟨A', c', w', hrun, h2, h3, h4⟩ := run_app (P := P) w t o.type e i z size bytes ht hi hz hsize hby hzs hsz A k c xs hown G A2 m c2 hA2 news hr h1 h63 hbytes
  unfold Oper.wpIn
  refine ⟨by simp [Oper.about, ho, resolve, Target.leads, Sem.run_pure], ?_⟩
  rw [Oper.semAt_plain F _ _ (by rw [ho]; intro c hc'; cases hc')]
  simp only [ho, execOp, resolve, invoke, builtin, Sem.run_bind, Sem.run_pure, Result.andThen_ok, List.map_toArray, List.map_cons, List.map_nil, hs, hx, hrun]
  exact h A' c' w' h2 h3 h4
section
variable {w W wc w' : World} {A A1 A2 A' : Option Addr} {l pre y : List Nat} {x c1 c2 c' : Nat} {vs : List Value}
/-- one piece more -/
theorem PI.next (hy : y = (l.drop x).take 255) (hw : W32 y) (hbk : Bk W w.heap.size 73 #[.slice A1 pre.length c1]) (hne : ∀ k, sf A1 k → w.heap.size + 3 ≤ k)
    (hlst : Lst 2 rSeg 122 (fun k => w.heap.size ≤ k ∧ k ≠ w.heap.size) w W A1 pre.length c1 vs (pre.map fun x => ((2 : Int), (l.drop x).take 255))) (hsr : Us W (fun k => k < w.heap.size) A l) (hbig : w.heap.size + 3 ≤ W.heap.size)
    (ho2 : foot.Own wc 22 1 A2 y.length c2 (uv y)) (hlo2 : ∀ k, sf A2 k → W.heap.size ≤ k) (hb2 : Below W.heap.size W wc)
    (ho : foot.Own w' 122 2 A' (pre.length + 1) c' (vs ++ [.int .i64 2, .slice A2 y.length c2])) (hch : Chg (sf A1) (wc.alloc (.cells #[.int .i64 2, .slice A2 y.length c2] 122)) w') (hf : Fresh (wc.alloc (.cells #[.int .i64 2, .slice A2 y.length c2] 122)) (sf A1) (sf A')) :
    KeepsOthers W (w'.setCell ⟨w.heap.size, 0, none⟩ (.slice A' (pre.length + 1) c')) ∧ Kp (fun k => k = w.heap.size) (w.heap.size + 3) W (w'.setCell ⟨w.heap.size, 0, none⟩ (.slice A' (pre.length + 1) c')) ∧ PI w A l (pre ++ [x]) (w'.setCell ⟨w.heap.size, 0, none⟩ (.slice A' (pre.length + 1) c')) := by
  have hba : Below W.heap.size W (wc.alloc (.cells #[.int .i64 2, .slice A2 y.length c2] 122)) := hb2.alloc hb2.size _
  have hw2 : Below w.heap.size w w' := hlst.acc.bel.trans ((hba.mono hlst.acc.bel.size).trans (hch.below (fun k hk => by have := hne k hk; omega) (Nat.le_trans hlst.acc.bel.size hba.size)))
  have hA' : ∀ k, sf A' k → w.heap.size + 3 ≤ k := fun k hk => by
    rcases hf k hk with e | e
    · exact hne k e
    · have := hba.size; omega
  have hx : ∀ k, Chg (fun j => j = w.heap.size) w' (w'.setCell ⟨w.heap.size, 0, none⟩ k) := fun k => (Chg.refl (fun j => j = w.heap.size) w').put (p := ⟨w.heap.size, 0, none⟩) (.inl rfl) k
  have hW' : ∀ k, Chg (fun j => j = w.heap.size ∨ w.heap.size + 3 ≤ j) W (w'.setCell ⟨w.heap.size, 0, none⟩ k) := fun k => ((Chg.of_below hba (fun j => j = w.heap.size ∨ w.heap.size + 3 ≤ j)).trans hch fun i _ hi => .inr (hne i hi)).trans (hx k) fun i _ hi => .inl hi
  refine ⟨⟨(hW' _).size, fun k o hk ho' => ?_⟩, hW' _, ⟨A', c', vs ++ [.int .i64 2, .slice A2 y.length c2], ?_, hA', ?_⟩, ?_, Nat.le_trans hbig (hW' _).size⟩
  · have hkW := (Array.getElem?_eq_some_iff.1 hk).1
    have n1 : ¬ sf A1 k := fun hs => by
      rcases hlst.acc.own.2 with ⟨rfl, _⟩ | ⟨g, off, cur, rfl, hb, _⟩
      · exact sf_none k hs
      · rw [sf_some] at hs
        subst hs
        unfold Bk at hb
        rw [hb] at hk
        cases hk
        cases ho'
    have n2 : k ≠ w.heap.size := by
      rintro rfl
      unfold Bk at hbk
      rw [hbk] at hk
      cases hk
      cases ho'
    rw [(hx _).block k (Nat.lt_of_lt_of_le (Nat.lt_of_lt_of_le hkW hba.size) hch.size) n2, hch.block k (Nat.lt_of_lt_of_le hkW hba.size) n1, hba.block k hkW]
    exact hk
  · have h1 := (hbk.below hba hbk.lt).chg hch (fun hs => by have := hne _ hs; omega)
    have h2 := h1.put 0 (.slice A' (pre.length + 1) c')
    rw [List.length_append, List.length_singleton]
    simpa using h2
  · have hL := (hlst.go keeps_seg hba).app keeps_seg (news := [.int .i64 2, .slice A2 y.length c2]) (l2 := [((2 : Int), y)]) (k := 1)
      (rAll.single (seg_of (by decide) (Rel_own ((ho2.bel (((Below.refl _ wc).alloc (Nat.le_refl _) _)))) hw fun k hk => by
        have h3 := hlo2 k hk
        refine ⟨⟨by omega, by omega⟩, fun hs => ?_⟩
        have := hlst.acc.own.lt k hs
        omega))) rfl ho hch hf
    rw [List.length_append, List.length_singleton, List.map_append, List.map_cons, List.map_nil, ← hy]
    exact ⟨⟨hL.acc.own.chg (hx _) (fun k _ hk e => by have := hA' k hk; omega), hL.acc.bel.trans ((hx _).below (fun k e => by rw [e]; exact Nat.le_refl _) hw2.size), hL.acc.low⟩, hL.all.chg keeps_seg (hx _) (fun k _ hk e => hk.1.2 e), hL.len⟩
  · exact ((hsr.chg (F := fun _ => False) (Chg.of_below hba _) (fun _ _ _ e => e)).chg hch (fun k _ hk hs => by have := hne k hs; omega)).chg (hx _) (fun k _ hk e => by omega)
end
set_option maxRecDepth 100000 in
set_option maxHeartbeats 2000000 in
theorem pieces_some (b off c : Nat) (l : List Nat) (w : World) (hl : l.length ≤ 1000000) (hc : l.length ≤ c) (hw : W32 l) (hs : Us w (fun _ => True) (some ⟨b, off, none⟩) l) (hb : 0 < l.length → b < w.heap.size) :
    Calls Try.prog 152 #[.slice (some ⟨b, off, none⟩) l.length c] w (RetP (sgs 2 l) w) := by
  refine (callsIn_wide (n := 4)).1 ?_
  obtain ⟨i0, hi, hz0, hz1, hz2⟩ := info_parts info_seg
  have h1 : 1 ≤ 4 := by omega
  have hmx : Try.prog.follows .mixedOrders = true := by kernel_rfl
  have hsrc : Us w (fun k => k < w.heap.size) (some ⟨b, off, none⟩) l := hs.mono fun k hk _ => hk
  have HCh : Hid (∀ w, Calls Try.prog 153 #[.slice (some ⟨b, off, none⟩) l.length c, .int .i64 255] w fun e w' => e = .returned (.func (.func 169) #[] #[.pointer (some ⟨w.heap.size, 0, none⟩), .pointer (some ⟨w.heap.size + 1, 0, none⟩)]) ∧ w' = (w.alloc (.cells #[.slice (some ⟨b, off, none⟩) l.length c] 67)).alloc (.cells #[.int .i64 255] 3)) := fun w => Chunk_any _ _ _ w
  refine callsIn_of_wp_marks Try.func152 rfl trivial ?_ rfl
  simp only [Try.ntmps152, List.size_toArray, List.length_cons, List.length_nil, Nat.reduceAdd, Nat.reduceSub, Array.replicate_succ, Array.replicate_zero, List.push_toArray, List.append_toArray, List.nil_append, List.cons_append]
  gi_wp2_with (refine ⟨trivial, ?_⟩; gi_at_call 153; refine (callsIn_wide.2 (HCh.out _)).mono ?_; rintro e w' ⟨rfl, rfl⟩)
  have hz3 : (((w.alloc (Obj.cells #[Value.slice none 0 0] 73)).alloc (Obj.cells #[Value.slice (some ⟨b, off, none⟩) l.length c] 67)).alloc (Obj.cells #[Value.int IntKind.i64 255] 3)).heap.size = w.heap.size + 3 := by simp
  have hI0 : PI w (some ⟨b, off, none⟩) l [] (((w.alloc (Obj.cells #[Value.slice none 0 0] 73)).alloc (Obj.cells #[Value.slice (some ⟨b, off, none⟩) l.length c] 67)).alloc (Obj.cells #[Value.int IntKind.i64 255] 3)) := by
    have hbb : Below w.heap.size w (((w.alloc (Obj.cells #[Value.slice none 0 0] 73)).alloc (Obj.cells #[Value.slice (some ⟨b, off, none⟩) l.length c] 67)).alloc (Obj.cells #[Value.int IntKind.i64 255] 3)) := (((Below.refl _ _).alloc (Nat.le_refl _) _).alloc (by simp) _).alloc (by simp; omega) _
    refine ⟨⟨none, 0, [], ?_, (fun k hk => absurd hk (sf_none k)), (Lst.nil w).go keeps_seg hbb⟩, hsrc.chg (F := fun _ => False) (Chg.of_below hbb _) (fun _ _ _ e => e), by rw [hz3]; exact Nat.le_refl _⟩
    exact ((Bk.new w 73 #[.slice none 0 0]).alloc _).alloc _
  have hcS : (((w.alloc (Obj.cells #[Value.slice none 0 0] 73)).alloc (Obj.cells #[Value.slice (some ⟨b, off, none⟩) l.length c] 67)).alloc (Obj.cells #[Value.int IntKind.i64 255] 3)).cell? ⟨w.heap.size + 1, 0, none⟩ = some (.slice (some ⟨b, off, none⟩) l.length c) := by
    have := ((Bk.new (w.alloc (Obj.cells #[Value.slice none 0 0] 73)) 67 #[.slice (some ⟨b, off, none⟩) l.length c]).alloc (Obj.cells #[Value.int IntKind.i64 255] 3)).cell 0
    simpa using this
  have hcN : (((w.alloc (Obj.cells #[Value.slice none 0 0] 73)).alloc (Obj.cells #[Value.slice (some ⟨b, off, none⟩) l.length c] 67)).alloc (Obj.cells #[Value.int IntKind.i64 255] 3)).cell? ⟨w.heap.size + 1 + 1, 0, none⟩ = some (.int .i64 255) := by
    have := (Bk.new ((w.alloc (Obj.cells #[Value.slice none 0 0] 73)).alloc (Obj.cells #[Value.slice (some ⟨b, off, none⟩) l.length c] 67)) 3 #[.int .i64 255]).cell 0
    simpa using this
  generalize ((w.alloc (Obj.cells #[Value.slice none 0 0] 73)).alloc (Obj.cells #[Value.slice (some ⟨b, off, none⟩) l.length c] 67)).alloc (Obj.cells #[Value.int IntKind.i64 255] 3) = w3 at *
  have hseq : SeqStopsK Fence.wide 3 Try.prog 169 #[.pointer (some ⟨w.heap.size + 1, 0, none⟩), .pointer (some ⟨w.heap.size + 1 + 1, 0, none⟩)] (fun x : Nat => #[Value.slice (some ⟨b, off + x, none⟩) (min 255 (l.length - x)) (min 255 (l.length - x))]) (Kp (fun k => k = w.heap.size) (w.heap.size + 3)) (fun ys => ∃ k, l.length ≤ 255 * k ∧ 255 * k ≤ l.length + 254 ∧ ys = upto k) (fun _ => True) l.length w3 := fun l' J Jx W hW hJ hJx hY h0 =>
    chunk1_in 3 l' (w.heap.size + 1) (w.heap.size + 1 + 1) (fun k => k = w.heap.size) (w.heap.size + 3) b off l.length c (by omega) hc hl (by omega) (by omega) (fun e : _ = _ => by omega) (fun e : _ = _ => by omega) J Jx hY
      (fun pre W1 h => hJ pre W1 W1.drew none h (grown_drew (World.grownBy.refl W1 none)) (fun r e => by cases e)) W (Nat.le_trans (Nat.le_of_eq hz3.symm) hW.size) ((hW.cell (p := ⟨w.heap.size + 1, 0, none⟩) (show w.heap.size + 1 < _ by omega)).trans hcS) ((hW.cell (p := ⟨w.heap.size + 1 + 1, 0, none⟩) (show w.heap.size + 1 + 1 < _ by omega)).trans hcN) h0
  refine wpIn_rangeFunc_ownF (F := Fence.wide) (n := 4) rfl h1 (gf := 169) (lb := #[.pointer (some ⟨w.heap.size + 1, 0, none⟩), .pointer (some ⟨w.heap.size + 1 + 1, 0, none⟩)]) rfl trivial enters_chunk hseq kp_t (kp_b (Nat.le_of_eq hz3.symm)) (Below.refl _ _) (fun _ => rfl)
    (PI w (some ⟨b, off, none⟩) l) (fun _ _ _ => False) (PI.own (by omega)) (fun _ _ _ _ _ hs _ _ => hs) hI0
    (fun x => { tmps := #[.slice (some ⟨b, off, none⟩) l.length c, undef, .slice none 0 0, .pointer (some ⟨w.heap.size, 0, none⟩), .slice (some ⟨b, off + x, none⟩) (min 255 (l.length - x)) (min 255 (l.length - x)), .slice (some ⟨b, off, none⟩) l.length c, .func (.func 169) #[] #[.pointer (some ⟨w.heap.size + 1, 0, none⟩), .pointer (some ⟨w.heap.size + 1 + 1, 0, none⟩)], .slice (some ⟨b, off + x, none⟩) (min 255 (l.length - x)) (min 255 (l.length - x)), undef, undef, undef, undef, undef, undef, undef], defers := [] }) ?assign ?body ?done ?stop
  case assign =>
    intro l' x W K hK
    gi_wp2
    exact hK
  case body =>
    rintro l' pre x W hPI hlt
    obtain ⟨⟨A1, c1, vs, hbk, hne, hlst⟩, hsr, hbig⟩ := hPI
    have hcell := hbk.cell 0
    have hfr := hbk.free 0
    simp at hcell
    obtain ⟨y, hy⟩ : ∃ y, y = (l.drop x).take 255 := ⟨_, rfl⟩
    have hyl : y.length = min 255 (l.length - x) := by rw [hy, List.length_take, List.length_drop]
    have hwy : W32 y := by rw [hy]; exact (hw.drop x).take 255
    have hbd : Below W.heap.size W W.drew := (Below.refl _ _).drew
    have hus : Us W.drew (fun k => k < w.heap.size) (some ⟨b, off + x, none⟩) y := by
      rw [hy]
      exact us_part (hsr.chg (F := fun _ => False) (Chg.of_below hbd _) (fun _ _ _ e => e)) x 255
    have HCl := Lib.hid (Clone_any (some ⟨b, off + x, none⟩) y.length y _ W.drew (by omega) (by intro h; cases h) (Nat.le_refl _) (by unfold maxLen; omega) hus)
    have HNext : Hid (∀ (wc : World) (A2 : Option Addr) (c2 : Nat) (A' : Option Addr) (c' : Nat) (w' : World), foot.Own wc 22 1 A2 y.length c2 (uv y) → (∀ k, sf A2 k → W.drew.heap.size ≤ k) → Below W.drew.heap.size W.drew wc →
        foot.Own w' 122 2 A' (pre.length + 1) c' (vs ++ [.int .i64 2, .slice A2 y.length c2]) → Chg (sf A1) (wc.alloc (.cells #[.int .i64 2, .slice A2 y.length c2] 122)) w' → Fresh (wc.alloc (.cells #[.int .i64 2, .slice A2 y.length c2] 122)) (sf A1) (sf A') →
        KeepsOthers W (w'.setCell ⟨w.heap.size, 0, none⟩ (.slice A' (pre.length + 1) c')) ∧ Kp (fun k => k = w.heap.size) (w.heap.size + 3) W (w'.setCell ⟨w.heap.size, 0, none⟩ (.slice A' (pre.length + 1) c')) ∧ PI w (some ⟨b, off, none⟩) l (pre ++ [x]) (w'.setCell ⟨w.heap.size, 0, none⟩ (.slice A' (pre.length + 1) c'))) :=
      fun wc A2 c2 A' c' w' h1 h2 h3 h4 h5 h6 => PI.next hy hwy hbk hne hlst hsr hbig h1 h2 (hbd.trans h3) h4 h5 h6
    have HOw : Hid (∀ (wc : World), Below W.drew.heap.size W.drew wc → ∀ (A2 : Option Addr) (c2 : Nat), foot.Own (wc.alloc (.cells #[.int .i64 2, .slice A2 y.length c2] 122)) 122 2 A1 pre.length c1 vs) :=
      fun wc h A2 c2 => hlst.acc.own.bel ((hbd.trans h).alloc (hbd.trans h).size _)
    have hgW : w.heap.size < W.drew.heap.size := by show w.heap.size < W.heap.size; omega
    have HFr : Hid (∀ (wc : World), Below W.drew.heap.size W.drew wc → wc.frozen? ⟨w.heap.size, 0, none⟩ = false) := fun wc h => (hbk.below (hbd.trans h) hbk.lt).free 0
    have HCell3 : Hid (∀ (wc : World) (A2 : Option Addr) (c2 : Nat) (A' : Option Addr) (c' : Nat) (w' : World), Below W.drew.heap.size W.drew wc → foot.Own w' 122 2 A' (pre.length + 1) c' (vs ++ [.int .i64 2, .slice A2 y.length c2]) → Chg (sf A1) (wc.alloc (.cells #[.int .i64 2, .slice A2 y.length c2] 122)) w' → Fresh (wc.alloc (.cells #[.int .i64 2, .slice A2 y.length c2] 122)) (sf A1) (sf A') →
        w'.cell? ⟨w.heap.size, 0, none⟩ = some (.slice A1 pre.length c1) ∧ w'.frozen? ⟨w.heap.size, 0, none⟩ = false) := fun wc A2 c2 A' c' w' h _ hch _ => by
      have h1 := (hbk.below ((hbd.trans h).alloc (hbd.trans h).size _) hbk.lt).chg hch (fun hs => by have := hne _ hs; omega)
      exact ⟨by have := h1.cell 0; simpa using this, h1.free 0⟩
    have HB1 : Hid (pre.length + 1 ≤ maxLen) := by show _ ≤ _; unfold maxLen; omega
    have HB2 : Hid ((pre.length + 1) * 32 ≤ 140737488355328) := by show _ ≤ _; omega
    have Hi := Lib.hid hi
    have Hz0 := Lib.hid hz0
    have Hz1 := Lib.hid hz1
    have Hz2 := Lib.hid hz2
    rw [hyl] at HCl
    clear hi hz0 hz1 hz2 hus hy hyl hwy hbk hne hlst hsr hbig hseq hI0 hcS hcN hs hsrc hw hc hb hlt
    gi_wp2
    refine wpIn_region_any (by assumption) ?_
    change wpAnyIn _ _ _ _ _ _ _ _ _ (World.drew _)
    refine wpAnyIn_ready (rs := [0, 1]) (by kernel_rfl) (by simp) ?_
    refine AllReadyIn.cons rfl (fun K hK => ?_) ?_
    · skip
      go_simp
      refine hK _ _ ?_
      clear hK K
      refine wpAnyIn_ready (rs := [1]) (by kernel_rfl) (by simp) ?_
      refine AllReadyIn.cons rfl (fun K hK => ?_) AllReadyIn.nil
      go_simp
      refine hK _ _ ?_
      clear hK K
      refine wpAnyIn_ready (rs := [2]) (by kernel_rfl) (by simp) ?_
      refine AllReadyIn.cons rfl (fun K hK => ?_) AllReadyIn.nil
      go_simp
      gi_wp2_with (refine ⟨trivial, ?_⟩; gi_at_call 150; refine (CallsIn.inRound l' (callsIn_wide.2 HCl.out)).mono ?_; rintro e wc ⟨A2, c2, rfl, ho2, hlo2, hb2⟩; have HCn := Lib.hid (And.intro ho2 (And.intro hlo2 hb2)); have hcell2 := (hb2.cell (p := ⟨w.heap.size, 0, none⟩) hgW).trans hcell; have hfr2 := HFr.out wc hb2; have hgc : w.heap.size < wc.heap.size := Nat.lt_of_lt_of_le hgW hb2.size; clear ho2 hlo2 hb2)
      refine wpAnyIn_ready (rs := [3]) (by kernel_rfl) (by simp) ?_
      refine AllReadyIn.cons rfl (fun K hK => ?_) AllReadyIn.nil
      go_simp
      refine hK _ _ ?_
      clear hK K
      refine wpAnyIn_ready (rs := [4]) (by kernel_rfl) (by simp) ?_
      refine AllReadyIn.cons rfl (fun K hK => ?_) AllReadyIn.nil
      go_simp
      refine hK _ _ ?_
      clear hK K
      refine wpAnyIn_ready (rs := [5]) (by kernel_rfl) (by simp) ?_
      refine AllReadyIn.cons rfl (fun K hK => ?_) AllReadyIn.nil
      refine stepIn_app rfl (.tmp 8) (.tmp 12) 73 rfl 122 i0 _ 2 32 Try.underlying73 Hi.out Hz0.out Hz1.out Hz2.out rfl (by omega) A1 pre.length c1 vs rfl (HOw.out wc HCn.out.2.2 A2 c2) _ (some ⟨wc.heap.size, 0, none⟩) 1 1 (by intro h; cases h) [.int .i64 2, .slice A2 y.length c2] rfl (Rg.new wc 122 2 1 _ rfl) (by simp [Value.oneCell']) HB1.out HB2.out ?_
      intro A' c' w' ho hch hf
      obtain ⟨HE1, HE2, HE3⟩ := HNext.out wc A2 c2 A' c' w' HCn.out.1 HCn.out.2.1 HCn.out.2.2 ho hch hf
      have hcell3 := HCell3.out wc A2 c2 A' c' w' HCn.out.2.2 ho hch hf
      have HE := Lib.hid (And.intro HE1 (And.intro HE2 HE3))
      clear ho hch hf HE1 HE2 HE3
      refine hK _ _ ?_
      clear hK K
      refine wpAnyIn_ready (rs := [6]) (by kernel_rfl) (by simp) ?_
      refine AllReadyIn.cons rfl (fun K hK => ?_) AllReadyIn.nil
      go_simp
      refine hK _ _ ?_
      clear hK K
      refine wpAnyIn_done (by kernel_rfl) ?_ _
      gi_wp2
      exact HE.out
    refine AllReadyIn.cons rfl (fun K hK => ?_) AllReadyIn.nil
    go_simp
    refine hK _ _ ?_
    clear hK K
    refine wpAnyIn_ready (rs := [0, 2]) (by kernel_rfl) (by simp) ?_
    refine AllReadyIn.cons rfl (fun K hK => ?_) ?_
    · skip
      go_simp
      refine hK _ _ ?_
      clear hK K
      refine wpAnyIn_ready (rs := [2]) (by kernel_rfl) (by simp) ?_
      refine AllReadyIn.cons rfl (fun K hK => ?_) AllReadyIn.nil
      go_simp
      gi_wp2_with (refine ⟨trivial, ?_⟩; gi_at_call 150; refine (CallsIn.inRound l' (callsIn_wide.2 HCl.out)).mono ?_; rintro e wc ⟨A2, c2, rfl, ho2, hlo2, hb2⟩; have HCn := Lib.hid (And.intro ho2 (And.intro hlo2 hb2)); have hcell2 := (hb2.cell (p := ⟨w.heap.size, 0, none⟩) hgW).trans hcell; have hfr2 := HFr.out wc hb2; have hgc : w.heap.size < wc.heap.size := Nat.lt_of_lt_of_le hgW hb2.size; clear ho2 hlo2 hb2)
      refine wpAnyIn_ready (rs := [3]) (by kernel_rfl) (by simp) ?_
      refine AllReadyIn.cons rfl (fun K hK => ?_) AllReadyIn.nil
      go_simp
      refine hK _ _ ?_
      clear hK K
      refine wpAnyIn_ready (rs := [4]) (by kernel_rfl) (by simp) ?_
      refine AllReadyIn.cons rfl (fun K hK => ?_) AllReadyIn.nil
      go_simp
      refine hK _ _ ?_
      clear hK K
      refine wpAnyIn_ready (rs := [5]) (by kernel_rfl) (by simp) ?_
      refine AllReadyIn.cons rfl (fun K hK => ?_) AllReadyIn.nil
      refine stepIn_app rfl (.tmp 8) (.tmp 12) 73 rfl 122 i0 _ 2 32 Try.underlying73 Hi.out Hz0.out Hz1.out Hz2.out rfl (by omega) A1 pre.length c1 vs rfl (HOw.out wc HCn.out.2.2 A2 c2) _ (some ⟨wc.heap.size, 0, none⟩) 1 1 (by intro h; cases h) [.int .i64 2, .slice A2 y.length c2] rfl (Rg.new wc 122 2 1 _ rfl) (by simp [Value.oneCell']) HB1.out HB2.out ?_
      intro A' c' w' ho hch hf
      obtain ⟨HE1, HE2, HE3⟩ := HNext.out wc A2 c2 A' c' w' HCn.out.1 HCn.out.2.1 HCn.out.2.2 ho hch hf
      have hcell3 := HCell3.out wc A2 c2 A' c' w' HCn.out.2.2 ho hch hf
      have HE := Lib.hid (And.intro HE1 (And.intro HE2 HE3))
      clear ho hch hf HE1 HE2 HE3
      refine hK _ _ ?_
      clear hK K
      refine wpAnyIn_ready (rs := [6]) (by kernel_rfl) (by simp) ?_
      refine AllReadyIn.cons rfl (fun K hK => ?_) AllReadyIn.nil
      go_simp
      refine hK _ _ ?_
      clear hK K
      refine wpAnyIn_done (by kernel_rfl) ?_ _
      gi_wp2
      exact HE.out
    refine AllReadyIn.cons rfl (fun K hK => ?_) AllReadyIn.nil
    go_simp
    gi_wp2_with (refine ⟨trivial, ?_⟩; gi_at_call 150; refine (CallsIn.inRound l' (callsIn_wide.2 HCl.out)).mono ?_; rintro e wc ⟨A2, c2, rfl, ho2, hlo2, hb2⟩; have HCn := Lib.hid (And.intro ho2 (And.intro hlo2 hb2)); have hcell2 := (hb2.cell (p := ⟨w.heap.size, 0, none⟩) hgW).trans hcell; have hfr2 := HFr.out wc hb2; have hgc : w.heap.size < wc.heap.size := Nat.lt_of_lt_of_le hgW hb2.size; clear ho2 hlo2 hb2)
    refine wpAnyIn_ready (rs := [0, 3]) (by kernel_rfl) (by simp) ?_
    refine AllReadyIn.cons rfl (fun K hK => ?_) ?_
    · skip
      go_simp
      refine hK _ _ ?_
      clear hK K
      refine wpAnyIn_ready (rs := [3]) (by kernel_rfl) (by simp) ?_
      refine AllReadyIn.cons rfl (fun K hK => ?_) AllReadyIn.nil
      go_simp
      refine hK _ _ ?_
      clear hK K
      refine wpAnyIn_ready (rs := [4]) (by kernel_rfl) (by simp) ?_
      refine AllReadyIn.cons rfl (fun K hK => ?_) AllReadyIn.nil
      go_simp
      refine hK _ _ ?_
      clear hK K
      refine wpAnyIn_ready (rs := [5]) (by kernel_rfl) (by simp) ?_
      refine AllReadyIn.cons rfl (fun K hK => ?_) AllReadyIn.nil
      refine stepIn_app rfl (.tmp 8) (.tmp 12) 73 rfl 122 i0 _ 2 32 Try.underlying73 Hi.out Hz0.out Hz1.out Hz2.out rfl (by omega) A1 pre.length c1 vs rfl (HOw.out wc HCn.out.2.2 A2 c2) _ (some ⟨wc.heap.size, 0, none⟩) 1 1 (by intro h; cases h) [.int .i64 2, .slice A2 y.length c2] rfl (Rg.new wc 122 2 1 _ rfl) (by simp [Value.oneCell']) HB1.out HB2.out ?_
      intro A' c' w' ho hch hf
      obtain ⟨HE1, HE2, HE3⟩ := HNext.out wc A2 c2 A' c' w' HCn.out.1 HCn.out.2.1 HCn.out.2.2 ho hch hf
      have hcell3 := HCell3.out wc A2 c2 A' c' w' HCn.out.2.2 ho hch hf
      have HE := Lib.hid (And.intro HE1 (And.intro HE2 HE3))
      clear ho hch hf HE1 HE2 HE3
      refine hK _ _ ?_
      clear hK K
      refine wpAnyIn_ready (rs := [6]) (by kernel_rfl) (by simp) ?_
      refine AllReadyIn.cons rfl (fun K hK => ?_) AllReadyIn.nil
      go_simp
      refine hK _ _ ?_
      clear hK K
      refine wpAnyIn_done (by kernel_rfl) ?_ _
      gi_wp2
      exact HE.out
    refine AllReadyIn.cons rfl (fun K hK => ?_) AllReadyIn.nil
    go_simp
    refine hK _ _ ?_
    clear hK K
    refine wpAnyIn_ready (rs := [0, 4]) (by kernel_rfl) (by simp) ?_
    refine AllReadyIn.cons rfl (fun K hK => ?_) ?_
    · skip
      go_simp
      refine hK _ _ ?_
      clear hK K
      refine wpAnyIn_ready (rs := [4]) (by kernel_rfl) (by simp) ?_
      refine AllReadyIn.cons rfl (fun K hK => ?_) AllReadyIn.nil
      go_simp
      refine hK _ _ ?_
      clear hK K
      refine wpAnyIn_ready (rs := [5]) (by kernel_rfl) (by simp) ?_
      refine AllReadyIn.cons rfl (fun K hK => ?_) AllReadyIn.nil
      refine stepIn_app rfl (.tmp 8) (.tmp 12) 73 rfl 122 i0 _ 2 32 Try.underlying73 Hi.out Hz0.out Hz1.out Hz2.out rfl (by omega) A1 pre.length c1 vs rfl (HOw.out wc HCn.out.2.2 A2 c2) _ (some ⟨wc.heap.size, 0, none⟩) 1 1 (by intro h; cases h) [.int .i64 2, .slice A2 y.length c2] rfl (Rg.new wc 122 2 1 _ rfl) (by simp [Value.oneCell']) HB1.out HB2.out ?_
      intro A' c' w' ho hch hf
      obtain ⟨HE1, HE2, HE3⟩ := HNext.out wc A2 c2 A' c' w' HCn.out.1 HCn.out.2.1 HCn.out.2.2 ho hch hf
      have hcell3 := HCell3.out wc A2 c2 A' c' w' HCn.out.2.2 ho hch hf
      have HE := Lib.hid (And.intro HE1 (And.intro HE2 HE3))
      clear ho hch hf HE1 HE2 HE3
      refine hK _ _ ?_
      clear hK K
      refine wpAnyIn_ready (rs := [6]) (by kernel_rfl) (by simp) ?_
      refine AllReadyIn.cons rfl (fun K hK => ?_) AllReadyIn.nil
      go_simp
      refine hK _ _ ?_
      clear hK K
      refine wpAnyIn_done (by kernel_rfl) ?_ _
      gi_wp2
      exact HE.out
    refine AllReadyIn.cons rfl (fun K hK => ?_) AllReadyIn.nil
    go_simp
    refine hK _ _ ?_
    clear hK K
    refine wpAnyIn_ready (rs := [0]) (by kernel_rfl) (by simp) ?_
    refine AllReadyIn.cons rfl (fun K hK => ?_) AllReadyIn.nil
    go_simp
    refine hK _ _ ?_
    clear hK K
    refine wpAnyIn_ready (rs := [5]) (by kernel_rfl) (by simp) ?_
    refine AllReadyIn.cons rfl (fun K hK => ?_) AllReadyIn.nil
    refine stepIn_app rfl (.tmp 8) (.tmp 12) 73 rfl 122 i0 _ 2 32 Try.underlying73 Hi.out Hz0.out Hz1.out Hz2.out rfl (by omega) A1 pre.length c1 vs rfl (HOw.out wc HCn.out.2.2 A2 c2) _ (some ⟨wc.heap.size, 0, none⟩) 1 1 (by intro h; cases h) [.int .i64 2, .slice A2 y.length c2] rfl (Rg.new wc 122 2 1 _ rfl) (by simp [Value.oneCell']) HB1.out HB2.out ?_
    intro A' c' w' ho hch hf
    obtain ⟨HE1, HE2, HE3⟩ := HNext.out wc A2 c2 A' c' w' HCn.out.1 HCn.out.2.1 HCn.out.2.2 ho hch hf
    have hcell3 := HCell3.out wc A2 c2 A' c' w' HCn.out.2.2 ho hch hf
    have HE := Lib.hid (And.intro HE1 (And.intro HE2 HE3))
    clear ho hch hf HE1 HE2 HE3
    refine hK _ _ ?_
    clear hK K
    refine wpAnyIn_ready (rs := [6]) (by kernel_rfl) (by simp) ?_
    refine AllReadyIn.cons rfl (fun K hK => ?_) AllReadyIn.nil
    go_simp
    refine hK _ _ ?_
    clear hK K
    refine wpAnyIn_done (by kernel_rfl) ?_ _
    gi_wp2
    exact HE.out
  case done =>
    rintro D ys W hD ⟨k, hk1, hk2, rfl⟩ hPI hK
    obtain ⟨⟨A1, c1, vs, hbk, hne, hlst⟩, hsr, hbig⟩ := hPI
    have hcell := hbk.cell 0
    simp at hcell
    rw [upto_sgs l k hk1 hk2] at hlst
    have hlen : (upto k).length = (sgs 2 l).length := by rw [← upto_sgs l k hk1 hk2, List.length_map]
    rw [hlen] at hlst hcell
    have HL := Lib.hid hlst
    have HK := Lib.hid hK
    clear hlst hsr
    gi_wp2
    refine ⟨by simp, .inl ⟨_, _, rfl, run_takeDeferred HK.out, ?_⟩⟩
    refine ⟨_, results_tmp rfl _ _ _, A1, c1, vs, rfl, ?_⟩
    have hst : Stay W (W.putObj D (.deferred none)) := stay_row (grownBy_putObj' W D _) (fun r e => by cases e; exact ⟨_, HK.out, rfl⟩)
    have hl := HL.out
    exact ⟨⟨foot.Own.stay hl.acc.own hst, hl.acc.bel.trans (below_grown (grownBy_putObj' W D _) hl.acc.bel.size (fun g e => by cases e; omega)), hl.acc.low⟩, (all_stay hl.all hst).mono keeps_seg (fun k _ h => ⟨h.1.1, h.2⟩), hl.len⟩
  case stop =>
    rintro D c pre W _ _ h _
    exact h.elim
set_option maxRecDepth 100000 in
set_option maxHeartbeats 1000000 in
theorem chunk1_nil (n l Bs Bn : Nat) (J : List Nat → World → Prop) (W : World) (hcs : W.cell? ⟨Bs, 0, none⟩ = some (.slice none 0 0)) (h0 : J [] W) :
    CallsIn Fence.wide n Try.prog 169 #[.func (.yield l) #[] #[], .pointer (some ⟨Bs, 0, none⟩), .pointer (some ⟨Bn, 0, none⟩)] W fun e W' => (∃ v, e = .returned v) ∧ J [] W' := by
  refine callsIn_of_wp Try.func169 rfl trivial ?_ rfl
  simp only [Try.ntmps169, List.size_toArray, List.length_cons, List.length_nil, Nat.reduceAdd, Nat.reduceSub, Array.replicate_succ, Array.replicate_zero, List.push_toArray, List.append_toArray, List.nil_append, List.cons_append]
  gi_wp2
  gi_loopw [4, 5] (fun i _ wr => i = .int .i64 0 ∧ wr = W) (fun _ _ _ => 0)
  case atStart => exact ⟨rfl, rfl⟩
  case round =>
    obtain ⟨rfl, rfl⟩ := hrel
    gi_wp2
    go_end0
    exact ⟨⟨_, rfl⟩, h0⟩
set_option maxRecDepth 100000 in
set_option maxHeartbeats 2000000 in
theorem pieces_nil (w : World) : Calls Try.prog 152 #[.slice none 0 0] w (RetP [] w) := by
  refine (callsIn_wide (n := 4)).1 ?_
  have h1 : 1 ≤ 4 := by omega
  have HCh : Hid (∀ w, Calls Try.prog 153 #[.slice none 0 0, .int .i64 255] w fun e w' => e = .returned (.func (.func 169) #[] #[.pointer (some ⟨w.heap.size, 0, none⟩), .pointer (some ⟨w.heap.size + 1, 0, none⟩)]) ∧ w' = (w.alloc (.cells #[.slice none 0 0] 67)).alloc (.cells #[.int .i64 255] 3)) := fun w => Chunk_any _ _ _ w
  refine callsIn_of_wp_marks Try.func152 rfl trivial ?_ rfl
  simp only [Try.ntmps152, List.size_toArray, List.length_cons, List.length_nil, Nat.reduceAdd, Nat.reduceSub, Array.replicate_succ, Array.replicate_zero, List.push_toArray, List.append_toArray, List.nil_append, List.cons_append]
  gi_wp2_with (refine ⟨trivial, ?_⟩; gi_at_call 153; refine (callsIn_wide.2 (HCh.out _)).mono ?_; rintro e w' ⟨rfl, rfl⟩)
  have hz3 : (((w.alloc (Obj.cells #[Value.slice none 0 0] 73)).alloc (Obj.cells #[Value.slice none 0 0] 67)).alloc (Obj.cells #[Value.int IntKind.i64 255] 3)).heap.size = w.heap.size + 3 := by simp
  have hI0 : PI w none [] [] (((w.alloc (Obj.cells #[Value.slice none 0 0] 73)).alloc (Obj.cells #[Value.slice none 0 0] 67)).alloc (Obj.cells #[Value.int IntKind.i64 255] 3)) := by
    have hbb : Below w.heap.size w (((w.alloc (Obj.cells #[Value.slice none 0 0] 73)).alloc (Obj.cells #[Value.slice none 0 0] 67)).alloc (Obj.cells #[Value.int IntKind.i64 255] 3)) := (((Below.refl _ _).alloc (Nat.le_refl _) _).alloc (by simp) _).alloc (by simp; omega) _
    refine ⟨⟨none, 0, [], ?_, (fun k hk => absurd hk (sf_none k)), (Lst.nil w).go keeps_seg hbb⟩, Rg.nil _ _ _ _, by rw [hz3]; exact Nat.le_refl _⟩
    exact ((Bk.new w 73 #[.slice none 0 0]).alloc _).alloc _
  have hcS : (((w.alloc (Obj.cells #[Value.slice none 0 0] 73)).alloc (Obj.cells #[Value.slice none 0 0] 67)).alloc (Obj.cells #[Value.int IntKind.i64 255] 3)).cell? ⟨w.heap.size + 1, 0, none⟩ = some (.slice none 0 0) := by
    have := ((Bk.new (w.alloc (Obj.cells #[Value.slice none 0 0] 73)) 67 #[.slice none 0 0]).alloc (Obj.cells #[Value.int IntKind.i64 255] 3)).cell 0
    simpa using this
  generalize ((w.alloc (Obj.cells #[Value.slice none 0 0] 73)).alloc (Obj.cells #[Value.slice none 0 0] 67)).alloc (Obj.cells #[Value.int IntKind.i64 255] 3) = w3 at *
  have hseq : SeqStopsK Fence.wide 3 Try.prog 169 #[.pointer (some ⟨w.heap.size + 1, 0, none⟩), .pointer (some ⟨w.heap.size + 1 + 1, 0, none⟩)] (fun x : Nat => #[Value.slice none 0 0]) (Kp (fun k => k = w.heap.size) (w.heap.size + 3)) (fun ys => ys = []) (fun _ => True) 0 w3 := fun l' J Jx W hW hJ hJx hY h0 =>
    (chunk1_nil 3 l' (w.heap.size + 1) (w.heap.size + 1 + 1) J W ((hW.cell (p := ⟨w.heap.size + 1, 0, none⟩) (show w.heap.size + 1 < _ by omega)).trans hcS) h0).mono fun e W' h => ⟨h.1, .inl ⟨[], rfl, h.2⟩⟩
  refine wpIn_rangeFunc_ownF (F := Fence.wide) (n := 4) rfl h1 (gf := 169) (lb := #[.pointer (some ⟨w.heap.size + 1, 0, none⟩), .pointer (some ⟨w.heap.size + 1 + 1, 0, none⟩)]) rfl trivial enters_chunk hseq kp_t (kp_b (Nat.le_of_eq hz3.symm)) (Below.refl _ _) (fun _ => rfl)
    (PI w none []) (fun _ _ _ => False) (PI.own (by omega)) (fun _ _ _ _ _ hs _ _ => hs) hI0
    (fun x => { tmps := #[.slice none 0 0, undef, .slice none 0 0, .pointer (some ⟨w.heap.size, 0, none⟩), .slice none 0 0, .slice none 0 0, .func (.func 169) #[] #[.pointer (some ⟨w.heap.size + 1, 0, none⟩), .pointer (some ⟨w.heap.size + 1 + 1, 0, none⟩)], .slice none 0 0, undef, undef, undef, undef, undef, undef, undef], defers := [] }) ?assign ?body ?done ?stop
  case assign =>
    intro l' x W K hK
    gi_wp2
    exact hK
  case body =>
    rintro l' pre x W hPI hlt
    exact absurd hlt (by omega)
  case done =>
    rintro D ys W hD rfl hPI hK
    obtain ⟨⟨A1, c1, vs, hbk, hne, hlst⟩, hsr, hbig⟩ := hPI
    have hcell := hbk.cell 0
    simp at hcell
    have HL := Lib.hid hlst
    have HK := Lib.hid hK
    clear hlst hsr
    gi_wp2
    refine ⟨by simp, .inl ⟨_, _, rfl, run_takeDeferred HK.out, ?_⟩⟩
    refine ⟨_, results_tmp rfl _ _ _, A1, c1, vs, rfl, ?_⟩
    have hst : Stay W (W.putObj D (.deferred none)) := stay_row (grownBy_putObj' W D _) (fun r e => by cases e; exact ⟨_, HK.out, rfl⟩)
    have hl := HL.out
    exact ⟨⟨foot.Own.stay hl.acc.own hst, hl.acc.bel.trans (below_grown (grownBy_putObj' W D _) hl.acc.bel.size (fun g e => by cases e; omega)), hl.acc.low⟩, (all_stay hl.all hst).mono keeps_seg (fun k _ h => ⟨h.1.1, h.2⟩), hl.len⟩
  case stop =>
    rintro D c pre W _ _ h _
    exact h.elim
/-- numbers in sequences that are as long as can be -/
theorem pieces_any (A : Option Addr) (c : Nat) (l : List Nat) (w : World) (hl : l.length ≤ 1000000) (hw : W32 l) (h : foot.Own w 22 1 A l.length c (uv l)) :
    Calls Try.prog 152 #[.slice A l.length c] w (RetP (sgs 2 l) w) := by
  have hlt := h.lt
  have hcap := h.cap
  have hrg := h.rg
  rcases h.2 with ⟨rfl, h1, rfl⟩ | ⟨g, off, cur, rfl, _⟩
  · have hz : l = [] := List.length_eq_zero_iff.1 h1
    subst hz
    exact pieces_nil w
  · exact pieces_some g off c l w hl hcap hw (hrg.mono fun _ _ _ => trivial) (fun _ => hlt g (by rw [sf_some]))
end Go.Proofs.Ytafepficapdepaa.pth
