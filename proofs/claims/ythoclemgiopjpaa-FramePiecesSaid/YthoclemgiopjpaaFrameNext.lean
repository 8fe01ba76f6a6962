/- What (*frame.Stream).next does. Condition: at most 2^40 bytes. -/
import Derived.Test.YthoclemgiopjpaaFrameJudge
import Derived.Test.YthoclemgiopjpaaOutqCut
namespace Go.Proofs.Ythoclemgiopjpaa.frame
open Go.RowKit Go.Proofs.Ythoclemgiopjpaa.kit Go.Proofs.Ythoclemgiopjpaa.mem Go.Proofs.Ythoclemgiopjpaa.foot Go.Proofs.Ythoclemgiopjpaa.octet
set_option linter.unusedVariables false
set_option linter.unusedSimpArgs false

theorem info_frame : (Try.prog.info? 77).map (·.size) = some 2 := by kernel_rfl

theorem results_ctc {P : Program} {fn : Func} {p q m : Tmp} {ty tz : TypeId} (h : fn.results = #[.cell p ty, .tmp m, .cell q tz]) (tmps : Array Value) (w : World) (g k : Nat) (t u : TypeId) (v : Value) (cs ds : Array Value) (fr fs : Nat × Nat) (d e : TypeDesc)
    (hp : tmps.getD p undef = .pointer (some ⟨g, 0, none⟩)) (hg : w.heap[g]? = some (.cells cs t fr))
    (hu : P.underlying ty = some d) (hd : (match d with | .struct _ | .array _ _ => true | _ => false) = true) (hi : (P.info? ty).map (·.size) = some cs.size)
    (hm : tmps.getD m undef = v)
    (hq : tmps.getD q undef = .pointer (some ⟨k, 0, none⟩)) (hk : w.heap[k]? = some (.cells ds u fs))
    (hv : P.underlying tz = some e) (he : (match e with | .struct _ | .array _ _ => true | _ => false) = true) (hj : (P.info? tz).map (·.size) = some ds.size) :
    (results fn tmps).run P w = .ok (.tuple #[.agg cs, v, .agg ds]) w := by
  have hp' : tmps[p]?.getD undef = .pointer (some ⟨g, 0, none⟩) := by simpa using hp
  have hq' : tmps[q]?.getD undef = .pointer (some ⟨k, 0, none⟩) := by simpa using hq
  have hm' : tmps[m]?.getD undef = v := by simpa using hm
  simp [results, h, hp', hq', hm', asAddr, run_loadVar_row w g t ty cs fr d hg hu hd hi, run_loadVar_row w k u tz ds fs e hk hv he hj]

/-- block s is a stream in which these bytes wait -/
def St (w : World) (F : Foot) (s : Nat) (b : List UInt8) (br : Bool) : Prop :=
  ∃ A c G, Bk w s 81 #[.slice A b.length c, .bool br] ∧ (A = none → c = 0) ∧ b.length ≤ c ∧ c ≤ maxLen ∧ Rg w G 1 A b.length (bv b) ∧ F s ∧ (∀ k, G k → F k ∧ k ≠ s) ∧ ∀ k, F k → k < w.heap.size
section
variable {F E : Foot} {w w' : World} {s : Nat} {b : List UInt8} {br : Bool}
theorem St.lt (h : St w F s b br) : ∀ k, F k → k < w.heap.size := by
  obtain ⟨A, c, G, _, _, _, _, _, _, _, h⟩ := h; exact h
theorem St.chg (h : St w F s b br) (hc : Chg E w w') (hd : ∀ k, F k → ¬ E k) : St w' F s b br := by
  obtain ⟨A, c, G, h1, h2, h3, h4, h5, h6, h7, h8⟩ := h
  exact ⟨A, c, G, h1.chg hc (hd s h6), h2, h3, h4, h5.chg hc (fun k _ hk => hd k (h7 k hk).1), h6, h7, fun k hk => Nat.lt_of_lt_of_le (h8 k hk) hc.size⟩
theorem St.bel (h : St w F s b br) (hb : Below w.heap.size w w') : St w' F s b br := h.chg (E := fun _ => False) (Chg.of_below hb _) (fun _ _ e => e)
/-- the stream forgets its bytes -/
theorem St.clear (h : St w F s b br) (x : Bool) : St ((w.setCell ⟨s, 0, none⟩ (.slice none 0 0)).setCell ⟨s, 1, none⟩ (.bool x)) F s [] x ∧ Chg F w ((w.setCell ⟨s, 0, none⟩ (.slice none 0 0)).setCell ⟨s, 1, none⟩ (.bool x)) := by
  obtain ⟨A, c, G, h1, h2, h3, h4, h5, h6, h7, h8⟩ := h
  have hc : Chg F w ((w.setCell ⟨s, 0, none⟩ (.slice none 0 0)).setCell ⟨s, 1, none⟩ (.bool x)) := ((Chg.refl F w).put (.inl h6) _).put (.inl h6) _
  have hk := (h1.put 0 (.slice none 0 0)).put 1 (.bool x)
  exact ⟨⟨none, 0, fun _ => False, by simpa using hk, fun _ => rfl, Nat.le_refl _, Nat.zero_le _, Rg.nil _ _ _ _, h6, fun _ h => h.elim, fun k hk => Nat.lt_of_lt_of_le (h8 k hk) hc.size⟩, hc⟩
end

/-- bytes that are new, or nil -/
def Nb (w : World) (A : Option Addr) (c : Nat) (l : List UInt8) (w' : World) : Prop :=
  (A = none → c = 0) ∧ l.length ≤ c ∧ c ≤ maxLen ∧ Bs w' w'.heap.size A l ∧ ∀ ad, A = some ad → w.heap.size ≤ ad.block
theorem Nb.none_ (w w' : World) : Nb w none 0 [] w' := ⟨fun _ => rfl, Nat.le_refl _, Nat.zero_le _, Rd.nil _ _ _ _, fun _ h => by cases h⟩
theorem Nb.chg {w w1 w2 : World} {E : Foot} {A : Option Addr} {c : Nat} {l : List UInt8} (h : Nb w A c l w1) (hc : Chg E w1 w2) (hE : ∀ ad, A = some ad → ¬ E ad.block) : Nb w A c l w2 := by
  obtain ⟨h1, h2, h3, h4, h5⟩ := h
  exact ⟨h1, h2, h3, ((Rg.of_rd (G := sf A) h4 (Nat.le_refl _) fun ad e => ⟨ad, e, rfl⟩).chg hc fun k _ ⟨ad, e, hk⟩ => hk ▸ hE ad e).rd, h5⟩

/-- what next hands back, and leaves -/
def NextP (F : Foot) (s : Nat) (b : List UInt8) (br : Bool) (w : World) (e : Ending) (w' : World) : Prop :=
  match nextF b with
  | .wait => e = .returned (.tuple #[.agg #[.int .i64 0, .slice none 0 0], .bool false, .agg #[.int .i64 0, .int .i64 0, .slice none 0 0]]) ∧ Below w.heap.size w w'
  | .bad t => ∃ A c, e = .returned (.tuple #[.agg #[.int .i64 0, .slice none 0 0], .bool false, .agg #[.int .i64 t.1, .int .i64 t.2.1, .slice A t.2.2.length c]]) ∧ Nb w A c t.2.2 w' ∧ St w' F s [] true ∧ Chg F w w'
  | .got kind body rest => ∃ A c, e = .returned (.tuple #[.agg #[.int .i64 kind, .slice A body.length c], .bool true, .agg #[.int .i64 0, .int .i64 0, .slice none 0 0]]) ∧ Nb w A c body w' ∧ St w' F s rest br ∧ Chg F w w'

/-- the cells that next hands back from -/
def Rz (w : World) (x y : Value) (wr : World) : Prop :=
  Bk wr w.heap.size 77 #[x, y] ∧ Bk wr (w.heap.size + 1) 53 #[.int .i64 0, .int .i64 0, .slice none 0 0]

set_option maxRecDepth 100000 in
theorem next_short {F : Foot} {s : Nat} {b : List UInt8} {br : Bool} (w : World) (hl : b.length < 19) (h : St w F s b br) :
    Calls Try.prog 49 #[.pointer (some ⟨s, 0, none⟩)] w (NextP F s b br w) := by
  obtain ⟨A, c, G, hk, _⟩ := h
  have k0 := hk.cell 0
  have hs := hk.lt
  simp at k0
  have HP : Hid (∀ w', Below w.heap.size w w' → NextP F s b br w (.returned (.tuple #[.agg #[.int .i64 0, .slice none 0 0], .bool false, .agg #[.int .i64 0, .int .i64 0, .slice none 0 0]])) w') := fun w' hb => by
    have e : nextF b = .wait := by unfold nextF; rw [if_pos hl]
    unfold NextP
    rw [e]
    exact ⟨rfl, hb⟩
  clear hk
  go_enter Try.func49, Try.ntmps49
  go_wp2_with fail
  refine bodyPost_ret (results_ctc rfl _ _ w.heap.size (w.heap.size + 1) 77 53 (.bool false) #[.int .i64 0, .slice none 0 0] #[.int .i64 0, .int .i64 0, .slice none 0 0] (0, 0) (0, 0) _ _ rfl (((Bk.new w _ _).alloc _)) Try.underlying77 rfl info_frame rfl rfl ?_ Try.underlying53 rfl info_notice) rfl (HP.out _ (((Below.refl _ _).alloc (Nat.le_refl _) _).alloc (by simp) _))
  have := Bk.new (w.alloc (.cells #[.int .i64 0, .slice none 0 0] 77)) 53 #[.int .i64 0, .int .i64 0, .slice none 0 0]
  simpa [Bk] using this

/-- what is there behind the head's reading -/
structure Hd (F : Foot) (s : Nat) (b : List UInt8) (br : Bool) (w : World) (r : Nat) (q : List UInt8) (wr : World) : Prop where
  st : St wr F s b br
  rz : Rz w (.int .i64 0) (.slice none 0 0) wr
  bel : Below w.heap.size w wr
  rd : Rdr wr r q false
  low : w.heap.size + 2 ≤ r
theorem Hd.bel' {F : Foot} {s r : Nat} {b q : List UInt8} {br : Bool} {w wr w' : World} (h : Hd F s b br w r q wr) (hb : Below wr.heap.size wr w') : Hd F s b br w r q w' :=
  ⟨h.st.bel hb, ⟨h.rz.1.below hb h.rz.1.lt, h.rz.2.below hb h.rz.2.lt⟩, h.bel.trans (hb.mono h.bel.size), h.rd.below hb h.rd.lt, h.low⟩
theorem Hd.read {F : Foot} {s r : Nat} {b q q' : List UInt8} {br : Bool} {w wr w' : World} (h : Hd F s b br w r q wr) (hF : ∀ k, F k → k < w.heap.size) (hr : Rdr w' r q' false) (hg : wr.grownBy w' (some r)) : Hd F s b br w r q' w' := by
  have hc : Chg (fun k => k = r) wr w' := Chg.grown hg fun g e => by cases e; rfl
  have hlow := h.low
  exact ⟨h.st.chg hc fun k hk e => by have := hF k hk; have e' : k = r := e; omega, ⟨h.rz.1.chg hc (fun e => by have e' : w.heap.size = r := e; omega), h.rz.2.chg hc (fun e => by have e' : w.heap.size + 1 = r := e; omega)⟩,
    h.bel.trans (hc.below (fun k e => by have e' : k = r := e; omega) h.bel.size), hr, h.low⟩

/-- the cells that the rest of next reads and writes -/
theorem Hd.facts {F : Foot} {s r : Nat} {b q : List UInt8} {br : Bool} {w wr : World} (h : Hd F s b br w r q wr) (hs : s < w.heap.size) :
    (∃ A c, wr.cell? ⟨s, 0, none⟩ = some (.slice A b.length c) ∧ (A = none → c = 0) ∧ b.length ≤ c ∧ c ≤ maxLen) ∧ wr.cell? ⟨s, 1, none⟩ = some (.bool br) ∧ (∀ i, wr.frozen? ⟨s, i, none⟩ = false) ∧
      wr.cell? ⟨w.heap.size, 0, none⟩ = some (.int .i64 0) ∧ wr.cell? ⟨w.heap.size, 1, none⟩ = some (.slice none 0 0) ∧ (∀ i, wr.frozen? ⟨w.heap.size, i, none⟩ = false) ∧
      wr.cell? ⟨w.heap.size + 1, 0, none⟩ = some (.int .i64 0) ∧ wr.cell? ⟨w.heap.size + 1, 1, none⟩ = some (.int .i64 0) ∧ wr.cell? ⟨w.heap.size + 1, 2, none⟩ = some (.slice none 0 0) ∧ (∀ i, wr.frozen? ⟨w.heap.size + 1, i, none⟩ = false) ∧
      s < wr.heap.size ∧ w.heap.size < wr.heap.size ∧ w.heap.size + 1 < wr.heap.size := by
  obtain ⟨A, c, G, hk, h1, h2, h3, _⟩ := h.st
  have hk0 := hk.cell 0
  have hk1 := hk.cell 1
  have a0 := h.rz.1.cell 0
  have a1 := h.rz.1.cell 1
  have b0 := h.rz.2.cell 0
  have b1 := h.rz.2.cell 1
  have b2 := h.rz.2.cell 2
  exact ⟨⟨A, c, hk0, h1, h2, h3⟩, hk1, fun i => hk.free i, a0, a1, fun i => h.rz.1.free i, b0, b1, b2, fun i => h.rz.2.free i, hk.lt, h.rz.1.lt, h.rz.2.lt⟩

/-- the two results are written -/
theorem Rz.write {w V : World} (h : Rz w (.int .i64 0) (.slice none 0 0) V) (x0 x1 y0 y1 y2 : Value) :
    Bk (((((V.setCell ⟨w.heap.size, 0, none⟩ x0).setCell ⟨w.heap.size, 1, none⟩ x1).setCell ⟨w.heap.size + 1, 0, none⟩ y0).setCell ⟨w.heap.size + 1, 1, none⟩ y1).setCell ⟨w.heap.size + 1, 2, none⟩ y2) w.heap.size 77 #[x0, x1] ∧
    Bk (((((V.setCell ⟨w.heap.size, 0, none⟩ x0).setCell ⟨w.heap.size, 1, none⟩ x1).setCell ⟨w.heap.size + 1, 0, none⟩ y0).setCell ⟨w.heap.size + 1, 1, none⟩ y1).setCell ⟨w.heap.size + 1, 2, none⟩ y2) (w.heap.size + 1) 53 #[y0, y1, y2] ∧
    Chg (fun k => k = w.heap.size ∨ k = w.heap.size + 1) V (((((V.setCell ⟨w.heap.size, 0, none⟩ x0).setCell ⟨w.heap.size, 1, none⟩ x1).setCell ⟨w.heap.size + 1, 0, none⟩ y0).setCell ⟨w.heap.size + 1, 1, none⟩ y1).setCell ⟨w.heap.size + 1, 2, none⟩ y2) := by
  have h1 := ((((h.1.put 0 x0).put 1 x1).far (p := ⟨w.heap.size + 1, 0, none⟩) (by simp) y0).far (p := ⟨w.heap.size + 1, 1, none⟩) (by simp) y1).far (p := ⟨w.heap.size + 1, 2, none⟩) (by simp) y2
  have h2 := ((((h.2.far (p := ⟨w.heap.size, 0, none⟩) (by simp) x0).far (p := ⟨w.heap.size, 1, none⟩) (by simp) x1).put 0 y0).put 1 y1).put 2 y2
  exact ⟨by simpa using h1, by simpa using h2, ((((Chg.refl (fun k => k = w.heap.size ∨ k = w.heap.size + 1) V).put (p := ⟨w.heap.size, 0, none⟩) (.inl (.inl rfl)) _).put (p := ⟨w.heap.size, 1, none⟩) (.inl (.inl rfl)) _).put (p := ⟨w.heap.size + 1, 0, none⟩) (.inl (.inr rfl)) _).put (p := ⟨w.heap.size + 1, 1, none⟩) (.inl (.inr rfl)) _ |>.put (p := ⟨w.heap.size + 1, 2, none⟩) (.inl (.inr rfl)) _⟩

theorem Hd.bad_end {F : Foot} {s r : Nat} {b q td : List UInt8} {br : Bool} {w w5 : World} {tc ts : Int} {At : Option Addr} {ct : Nat} (h : Hd F s b br w r q w5) (hF : ∀ k, F k → k < w.heap.size) (hn : nextF b = .bad (tc, ts, td)) (hN : Nb w At ct td w5) (hne : ∀ ad, At = some ad → w.heap.size + 2 ≤ ad.block) (Z : Obj) (W : World)
    (hW : W = ((((((((w5.setCell ⟨s, 0, none⟩ (.slice none 0 0)).setCell ⟨s, 1, none⟩ (.bool true)).setCell ⟨w.heap.size, 0, none⟩ (.int .i64 0)).setCell ⟨w.heap.size, 1, none⟩ (.slice none 0 0)).setCell ⟨w.heap.size + 1, 0, none⟩ (.int .i64 tc)).setCell ⟨w.heap.size + 1, 1, none⟩ (.int .i64 ts)).setCell ⟨w.heap.size + 1, 2, none⟩ (.slice At td.length ct)).alloc Z).drew) :
    W.heap[w.heap.size]? = some (.cells #[.int .i64 0, .slice none 0 0] 77 (0, 0)) ∧ W.heap[w.heap.size + 1]? = some (.cells #[.int .i64 tc, .int .i64 ts, .slice At td.length ct] 53 (0, 0)) ∧
      NextP F s b br w (.returned (.tuple #[.agg #[.int .i64 0, .slice none 0 0], .bool false, .agg #[.int .i64 tc, .int .i64 ts, .slice At td.length ct]])) W := by
  obtain ⟨s1, c1⟩ := h.st.clear true
  have hz : Rz w (.int .i64 0) (.slice none 0 0) ((w5.setCell ⟨s, 0, none⟩ (.slice none 0 0)).setCell ⟨s, 1, none⟩ (.bool true)) := ⟨h.rz.1.chg c1 fun e => by have := hF _ e; omega, h.rz.2.chg c1 fun e => by have := hF _ e; omega⟩
  obtain ⟨k1, k2, c2⟩ := hz.write (.int .i64 0) (.slice none 0 0) (.int .i64 tc) (.int .i64 ts) (.slice At td.length ct)
  generalize (w5.setCell ⟨s, 0, none⟩ (.slice none 0 0)).setCell ⟨s, 1, none⟩ (.bool true) = V at *
  generalize ((((V.setCell ⟨w.heap.size, 0, none⟩ (.int .i64 0)).setCell ⟨w.heap.size, 1, none⟩ (.slice none 0 0)).setCell ⟨w.heap.size + 1, 0, none⟩ (.int .i64 tc)).setCell ⟨w.heap.size + 1, 1, none⟩ (.int .i64 ts)).setCell ⟨w.heap.size + 1, 2, none⟩ (.slice At td.length ct) = V2 at *
  have hb : Below V2.heap.size V2 (V2.alloc Z).drew := ((Below.refl _ _).alloc (Nat.le_refl _) Z).drew
  subst hW
  refine ⟨k1.below hb k1.lt, k2.below hb k2.lt, ?_⟩
  unfold NextP
  rw [hn]
  have hc : Chg (fun k => F k ∨ k = w.heap.size ∨ k = w.heap.size + 1) w5 (V2.alloc Z).drew := ((c1.mono fun _ _ e => .inl e).trans c2 fun _ _ e => .inr e).bel hb
  refine ⟨At, ct, rfl, hN.chg hc fun ad e e2 => ?_, (s1.chg c2 fun k hk e => ?_).bel hb, (Chg.of_below (Below.refl _ w) F).trans (G := fun k => F k ∨ w.heap.size ≤ k) ?_ fun k hk e => ?_⟩
  · have := hne ad e
    rcases e2 with e2 | e2 | e2
    · have := hF _ e2; omega
    · omega
    · omega
  · have := hF k hk
    rcases e with e | e <;> omega
  · have h1 : Chg (fun k => F k ∨ w.heap.size ≤ k) w w5 := ⟨h.bel.os, h.bel.tape, h.bel.output, h.bel.size, fun k hk _ => h.bel.block k hk⟩
    exact h1.trans hc fun k _ e => by
      rcases e with e | e | e
      · exact .inl e
      · exact .inr (by omega)
      · exact .inr (by omega)
  · rcases e with e | e
    · exact e
    · omega

theorem rdr_beside {w : World} {r s : Nat} {l : List UInt8} {bad x : Bool} {t : TypeId} {A : Option Addr} {n c : Nat} (hr : Rdr w r l bad) (hk : Bk w s t #[.slice A n c, .bool x]) (hne : r ≠ s) (u : Value) : Rdr (w.setCell ⟨s, 0, none⟩ u) r l bad := by
  obtain ⟨Ar, cr, g1, g2, g3, g4, g5⟩ := hr
  refine ⟨Ar, cr, g1.far (p := ⟨s, 0, none⟩) hne u, g2, g3, g4, g5.1, fun hn => ?_⟩
  obtain ⟨b, off, e, hb, hc⟩ := g5.2 hn
  refine ⟨b, off, e, hb, fun j v hv => ?_⟩
  have hcell := hc j v hv
  have hbs : b ≠ s := by
    rintro rfl
    rw [hk.cell] at hcell
    have hv2 : ∃ m : Int, v = .int .u8 m := by
      unfold bv at hv
      rw [List.getElem?_map] at hv
      cases h : l[j]? with
      | none => rw [h] at hv; cases hv
      | some y => rw [h] at hv; simp at hv; exact ⟨_, hv.symm⟩
    obtain ⟨m, rfl⟩ := hv2
    match h : off + j with
    | 0 => rw [h] at hcell; simp at hcell
    | 1 => rw [h] at hcell; simp at hcell
    | k + 2 => rw [h] at hcell; simp at hcell
  rw [World.cell?_of_block (w := w) (Below.heap_setCell w ⟨s, 0, none⟩ u b hbs)]
  exact hcell

/-- a message is taken: the stream's bytes are cut, the reader stays -/
theorem Hd.cut {F : Foot} {s r : Nat} {b q : List UInt8} {br : Bool} {w w5 : World} (h : Hd F s b br w r q w5) (hs : s < w.heap.size) (n : Nat) (hn : n ≤ b.length) (Z : Obj) :
    ∃ As cs A' c', w5.cell? ⟨s, 0, none⟩ = some (.slice As b.length cs) ∧ (∀ w, (Instr.slice 23 (.slice As b.length cs) (some (.int .i64 n)) none none).run Try.prog w = .ok (.slice A' (b.length - n) c') w) ∧
      St ((w5.setCell ⟨s, 0, none⟩ (.slice A' (b.length - n) c')).alloc Z) F s (b.drop n) br ∧ Rz w (.int .i64 0) (.slice none 0 0) ((w5.setCell ⟨s, 0, none⟩ (.slice A' (b.length - n) c')).alloc Z) ∧ Rdr ((w5.setCell ⟨s, 0, none⟩ (.slice A' (b.length - n) c')).alloc Z) r q false ∧
      Chg (fun k => F k ∨ w.heap.size ≤ k) w ((w5.setCell ⟨s, 0, none⟩ (.slice A' (b.length - n) c')).alloc Z) := by
  obtain ⟨As, cs, G, hk, h1, h2, h3, hr, hFs, hG, hlt⟩ := h.st
  obtain ⟨A', c', g1, g2, g3, grun, grd⟩ := outq.cut_hiG As cs b.length n h1 h2 h3 hn
  have hlow := h.low
  have hc : Chg (fun k => k = s) w5 (w5.setCell ⟨s, 0, none⟩ (.slice A' (b.length - n) c')) := (Chg.refl (fun k => k = s) w5).put (p := ⟨s, 0, none⟩) (.inl rfl) _
  have hb : Below (w5.setCell ⟨s, 0, none⟩ (.slice A' (b.length - n) c')).heap.size (w5.setCell ⟨s, 0, none⟩ (.slice A' (b.length - n) c')) ((w5.setCell ⟨s, 0, none⟩ (.slice A' (b.length - n) c')).alloc Z) := (Below.refl _ _).alloc (Nat.le_refl _) Z
  have e1 : (b.drop n).length = b.length - n := by simp
  have hst : St (w5.setCell ⟨s, 0, none⟩ (.slice A' (b.length - n) c')) F s (b.drop n) br :=
    ⟨A', c', G, by rw [e1]; simpa using hk.put 0 (.slice A' (b.length - n) c'), g1, by rw [e1]; exact g2, g3, (grd w5 G b rfl hr).chg hc fun k _ hk e => (hG k hk).2 e, hFs, hG, fun k hk => Nat.lt_of_lt_of_le (hlt k hk) hc.size⟩
  have r1 : Bk (w5.setCell ⟨s, 0, none⟩ (.slice A' (b.length - n) c')) w.heap.size 77 #[.int .i64 0, .slice none 0 0] := h.rz.1.far (p := ⟨s, 0, none⟩) (fun e => by have e' : w.heap.size = s := e; omega) _
  have r2 : Bk (w5.setCell ⟨s, 0, none⟩ (.slice A' (b.length - n) c')) (w.heap.size + 1) 53 #[.int .i64 0, .int .i64 0, .slice none 0 0] := h.rz.2.far (p := ⟨s, 0, none⟩) (fun e => by have e' : w.heap.size + 1 = s := e; omega) _
  have r3 := rdr_beside h.rd hk (by omega) (.slice A' (b.length - n) c')
  have h5 : Chg (fun k => F k ∨ w.heap.size ≤ k) w w5 := ⟨h.bel.os, h.bel.tape, h.bel.output, h.bel.size, fun k hk _ => h.bel.block k hk⟩
  refine ⟨As, cs, A', c', hk.cell 0, grun, hst.bel hb, ⟨r1.below hb r1.lt, r2.below hb r2.lt⟩, r3.below hb r3.lt, (h5.trans hc fun k _ e => ?_).bel hb⟩
  have e' : k = s := e
  rw [e']; exact .inl hFs

theorem got_end {F : Foot} {s : Nat} {b body rest : List UInt8} {br : Bool} {w w6 : World} {kind : Nat} {Ab : Option Addr} {cb : Nat} (hst : St w6 F s rest br) (hrz : Rz w (.int .i64 0) (.slice none 0 0) w6) (hc : Chg (fun k => F k ∨ w.heap.size ≤ k) w w6) (hF : ∀ k, F k → k < w.heap.size) (hn : nextF b = .got kind body rest) (hN : Nb w Ab cb body w6) (hne : ∀ ad, Ab = some ad → w.heap.size + 2 ≤ ad.block) :
    (((((w6.setCell ⟨w.heap.size, 0, none⟩ (.int .i64 kind)).setCell ⟨w.heap.size, 1, none⟩ (.slice Ab body.length cb)).setCell ⟨w.heap.size + 1, 0, none⟩ (.int .i64 0)).setCell ⟨w.heap.size + 1, 1, none⟩ (.int .i64 0)).setCell ⟨w.heap.size + 1, 2, none⟩ (.slice none 0 0)).heap[w.heap.size]? = some (.cells #[.int .i64 kind, .slice Ab body.length cb] 77 (0, 0)) ∧
    (((((w6.setCell ⟨w.heap.size, 0, none⟩ (.int .i64 kind)).setCell ⟨w.heap.size, 1, none⟩ (.slice Ab body.length cb)).setCell ⟨w.heap.size + 1, 0, none⟩ (.int .i64 0)).setCell ⟨w.heap.size + 1, 1, none⟩ (.int .i64 0)).setCell ⟨w.heap.size + 1, 2, none⟩ (.slice none 0 0)).heap[w.heap.size + 1]? = some (.cells #[.int .i64 0, .int .i64 0, .slice none 0 0] 53 (0, 0)) ∧
      NextP F s b br w (.returned (.tuple #[.agg #[.int .i64 kind, .slice Ab body.length cb], .bool true, .agg #[.int .i64 0, .int .i64 0, .slice none 0 0]])) (((((w6.setCell ⟨w.heap.size, 0, none⟩ (.int .i64 kind)).setCell ⟨w.heap.size, 1, none⟩ (.slice Ab body.length cb)).setCell ⟨w.heap.size + 1, 0, none⟩ (.int .i64 0)).setCell ⟨w.heap.size + 1, 1, none⟩ (.int .i64 0)).setCell ⟨w.heap.size + 1, 2, none⟩ (.slice none 0 0)) := by
  obtain ⟨k1, k2, c2⟩ := hrz.write (.int .i64 kind) (.slice Ab body.length cb) (.int .i64 0) (.int .i64 0) (.slice none 0 0)
  generalize ((((w6.setCell ⟨w.heap.size, 0, none⟩ (.int .i64 kind)).setCell ⟨w.heap.size, 1, none⟩ (.slice Ab body.length cb)).setCell ⟨w.heap.size + 1, 0, none⟩ (.int .i64 0)).setCell ⟨w.heap.size + 1, 1, none⟩ (.int .i64 0)).setCell ⟨w.heap.size + 1, 2, none⟩ (.slice none 0 0) = V2 at *
  refine ⟨k1, k2, ?_⟩
  unfold NextP
  rw [hn]
  refine ⟨Ab, cb, rfl, hN.chg c2 fun ad e e2 => ?_, hst.chg c2 fun k hk e => ?_, (hc.trans c2 fun k _ e => ?_).mono fun k hk e => ?_⟩
  · have := hne ad e
    rcases e2 with e2 | e2 <;> omega
  · have := hF k hk
    rcases e with e | e <;> omega
  · rcases e with e | e
    · exact .inr (by omega)
    · exact .inr (by omega)
  · rcases e with e | e
    · exact e
    · omega

theorem rd_drop (x : List UInt8) (n : Nat) (h : n ≤ x.length) : rget x false (n : Int) = x.take n ∧ rleft x false (n : Int) = x.drop n ∧ (!rok x false (n : Int)) = false := by
  have h1 : rok x false (n : Int) = true := by rw [rok_iff]; exact ⟨rfl, by omega, by omega⟩
  unfold rget rleft
  rw [if_pos h1, if_pos h1, h1]
  simp

set_option maxRecDepth 100000 in
set_option maxHeartbeats 1000000 in
theorem next_long {F : Foot} {s : Nat} {b : List UInt8} {br : Bool} (w : World) (hl : 19 ≤ b.length) (hll : b.length ≤ 1099511627776) (h : St w F s b br) :
    Calls Try.prog 49 #[.pointer (some ⟨s, 0, none⟩)] w (NextP F s b br w) := by
  have HF := Lib.hid h.lt
  have h0 := h
  obtain ⟨A, c, G, hk, hA, hc, hm, hr, hFs, hG, _⟩ := h
  have k0 := hk.cell 0
  have k1 := hk.cell 1
  have hs := hk.lt
  simp at k0 k1
  have hb0 : Below w.heap.size w ((w.alloc (.cells #[.int .i64 0, .slice none 0 0] 77)).alloc (.cells #[.int .i64 0, .int .i64 0, .slice none 0 0] 53)) := ((Below.refl _ _).alloc (Nat.le_refl _) _).alloc (by simp) _
  have HNw := Lib.hid (New_any A c w.heap.size b _ hll hA (by simp; omega) (Rd.below hr.rd hb0 (Nat.le_refl _)))
  have HR0 : Hid (Rz w (.int .i64 0) (.slice none 0 0) ((w.alloc (.cells #[.int .i64 0, .slice none 0 0] 77)).alloc (.cells #[.int .i64 0, .int .i64 0, .slice none 0 0] 53))) := by
    refine ⟨(Bk.new w _ _).alloc _, ?_⟩
    have := Bk.new (w.alloc (.cells #[.int .i64 0, .slice none 0 0] 77)) 53 #[.int .i64 0, .int .i64 0, .slice none 0 0]
    simpa [Bk] using this
  have HS0 := Lib.hid (h0.bel hb0)
  have HB0 := Lib.hid hb0
  have hz : ((w.alloc (.cells #[.int .i64 0, .slice none 0 0] 77)).alloc (.cells #[.int .i64 0, .int .i64 0, .slice none 0 0] 53)).heap.size = w.heap.size + 2 := by simp
  have HZ := Lib.hid hz
  clear hk hr hG hb0 h0 hz
  go_enter Try.func49, Try.ntmps49
  go_wp2_with fail
  refine HNw.out.mono ?_; rintro e w1 ⟨⟨r, rfl, hr0, hr⟩, hb1⟩
  have H1 : Hid (Hd F s b br w r b w1) := ⟨HS0.out.bel hb1, ⟨HR0.out.1.below hb1 HR0.out.1.lt, HR0.out.2.below hb1 HR0.out.2.lt⟩, HB0.out.trans (hb1.mono HB0.out.size), hr, by have := HZ.out; omega⟩
  have ht := Take_own r b false 16 w1 hll hr
  obtain ⟨e1, e2, e3⟩ := rd_drop b 16 (by omega)
  rw [show ((16 : Nat) : Int) = 16 from rfl] at e1 e2 e3
  rw [e1, e2, e3] at ht
  have HT := Lib.hid ht
  clear hr0 hr hb1 HNw HR0 HS0 HB0 HZ ht e1 e2 e3
  go_wp2_with fail
  refine HT.out.mono ?_; rintro e w2 ⟨Am, cm, rfl, ho, hR, hGr⟩
  have H2 := Lib.hid (H1.out.read HF.out hR hGr)
  obtain ⟨hom, hlm⟩ := Own.of_row ho
  have hr1 := H1.out.rd.lt
  have HM2 := Lib.hid hom
  have HML : Hid (∀ k, sf Am k → k ≠ r) := fun k hk => by have := hlm k hk; omega
  have hu := u16_any r (b.drop 16) false w2 hR
  obtain ⟨e1, e2, e3⟩ := rd_drop (b.drop 16) 2 (by simp; omega)
  rw [show ((2 : Nat) : Int) = 2 from rfl] at e1 e2 e3
  rw [List.drop_drop] at e2
  rw [e1, e2, e3] at hu
  have HU := Lib.hid hu
  clear ho hR hGr hom hlm hu e1 e2 e3 HT H1 hr1
  go_wp2_with fail
  refine HU.out.mono ?_; rintro e w3 ⟨rfl, hR, hGr⟩
  have H3 := Lib.hid (H2.out.read HF.out hR hGr)
  have HM3 := Lib.hid (HM2.out.chg (F := fun k => k = r) (Chg.grown hGr fun g e => by cases e; rfl) fun k _ hk => HML.out k hk)
  have hu := u8_any r (b.drop 18) false w3 hR
  obtain ⟨e1, e2, e3⟩ := rd_drop (b.drop 18) 1 (by simp; omega)
  rw [show ((1 : Nat) : Int) = 1 from rfl] at e1 e2 e3
  rw [List.drop_drop] at e2
  rw [e1, e2, e3] at hu
  have HU := Lib.hid hu
  clear hR hGr hu e1 e2 e3 H2 HM2
  go_wp2_with fail
  refine HU.out.mono ?_; rintro e w4 ⟨rfl, hR, hGr⟩
  have H4 := Lib.hid (H3.out.read HF.out hR hGr)
  have HM4 := Lib.hid (HM3.out.chg (F := fun k => k = r) (Chg.grown hGr fun g e => by cases e; rfl) fun k _ hk => HML.out k hk)
  have hjd := judge_any Am cm w4.heap.size (b.take 16) (num ((b.drop 16).take 2)) (num ((b.drop 18).take 1)) w4 (by simp; omega) (num_two _ (by simp; omega)) (num_one _ (by simp; omega)) (Nat.le_refl _) HM4.out.rg.rd
  rw [List.length_take] at hjd
  have HJd := Lib.hid hjd
  clear hjd
  have HEb : Hid (judgeN (b.take 16) (num ((b.drop 16).take 2)) (num ((b.drop 18).take 1)) = hbad b) := rfl
  have HEl : Hid (num ((b.drop 16).take 2) = hlen b) := rfl
  have HEk : Hid (num ((b.drop 18).take 1) = hkind b) := rfl
  rw [HEb.out] at HJd
  clear hR hGr H3 HM3 HM4 HML HU
  generalize num ((b.drop 16).take 2) = n at *
  generalize num ((b.drop 18).take 1) = kind at *
  go_wp2_with fail
  with_reducible refine HJd.out.mono ?_
  rintro e w5 ⟨At, ct, rfl, t1, t2, t3, t4, t5, hb5⟩
  have H5 := Lib.hid (H4.out.bel' hb5)
  have HTt : Hid (Nb w At ct (hbad b).2.2 w5) := ⟨t1, t2, t3, t4, fun ad e => by have := t5 ad e; have := H4.out.bel.size; omega⟩
  have HTn : Hid (∀ ad, At = some ad → w4.heap.size ≤ ad.block) := t5
  have hw45 := hb5.size
  have hw4 : w.heap.size + 2 ≤ w4.heap.size := by have := H4.out.rz.2.lt; omega
  clear t1 t2 t3 t4 t5 hb5 HJd HEb H4
  by_cases hz : (hbad b).1 = 0
  case' neg =>
    have hz1 : (hbad b).1 = 1 := by
      rcases judgeN_code (hmark b) (hlen b) (hkind b) with h | h
      · exact absurd h hz
      · exact h
    have hnf : nextF b = .bad (hbad b) := by unfold nextF; rw [if_neg (by omega), if_pos (by exact hz)]
    have Hnf := Lib.hid hnf
    clear hnf hz
    generalize hbad b = t at *
    obtain ⟨tc, ts, td⟩ := t
    simp only at hz1
    subst hz1
    obtain ⟨⟨As, cs, s0, _⟩, s1, sf0, a0, a1, af, b0, b1, b2, bf, l1, l2, l3⟩ := H5.out.facts hs
    have n1 : s ≠ w.heap.size := by omega
    have n2 : s ≠ w.heap.size + 1 := by omega
    have n3 : w.heap.size ≠ s := by omega
    have n4 : w.heap.size + 1 ≠ s := by omega
    clear k0 k1
    go_wp2_with fail
    go_region
    all_goals
      go_wp2_with fail
      obtain ⟨g1, g2, g3⟩ := H5.out.bad_end HF.out Hnf.out HTt.out (fun ad e => by have := HTn.out ad e; omega) _ _ rfl
      exact bodyPost_ret (results_ctc rfl _ _ w.heap.size (w.heap.size + 1) 77 53 (.bool false) _ _ (0, 0) (0, 0) _ _ rfl g1 Try.underlying77 rfl info_frame rfl rfl g2 Try.underlying53 rfl info_notice) rfl g3
  case' pos =>
    have hok := judgeN_ok hz
    have hn1 : 19 ≤ n := by rw [HEl.out]; exact hok.1
    have hn2 : n ≤ 4096 := by rw [HEl.out]; exact hok.2.1
    have Hz := Lib.hid hz
    clear hok
    generalize ht : hbad b = t at *
    obtain ⟨tc, ts, td⟩ := t
    simp only at hz
    subst hz
    have HB := Lib.hid ht
    clear ht k0 k1
    by_cases hln : b.length < n
    · have HP : Hid (∀ w', Below w.heap.size w w' → NextP F s b br w (.returned (.tuple #[.agg #[.int .i64 0, .slice none 0 0], .bool false, .agg #[.int .i64 0, .int .i64 0, .slice none 0 0]])) w') := fun w' hb => by
        have e : nextF b = .wait := by unfold nextF; rw [if_neg (by omega), if_neg (by rw [HB.out]; simp), if_pos (by rw [← HEl.out]; exact hln)]
        unfold NextP
        rw [e]
        exact ⟨rfl, hb⟩
      obtain ⟨⟨As, cs, s0, _⟩, s1, sf0, a0, a1, af, b0, b1, b2, bf, l1, l2, l3⟩ := H5.out.facts hs
      have n1 : s ≠ w.heap.size := by omega
      have n2 : s ≠ w.heap.size + 1 := by omega
      have n3 : w.heap.size ≠ s := by omega
      have n4 : w.heap.size + 1 ≠ s := by omega
      clear hl
      go_wp2_with fail
      obtain ⟨g1, g2, g3⟩ := H5.out.rz.write (.int .i64 0) (.slice none 0 0) (.int .i64 0) (.int .i64 0) (.slice none 0 0)
      have hg : Below w.heap.size w5 (((((w5.setCell ⟨w.heap.size, 0, none⟩ (.int .i64 0)).setCell ⟨w.heap.size, 1, none⟩ (.slice none 0 0)).setCell ⟨w.heap.size + 1, 0, none⟩ (.int .i64 0)).setCell ⟨w.heap.size + 1, 1, none⟩ (.int .i64 0)).setCell ⟨w.heap.size + 1, 2, none⟩ (.slice none 0 0)) :=
        g3.below (fun k e => by rcases e with e | e <;> omega) H5.out.bel.size
      refine bodyPost_ret (results_ctc rfl _ _ w.heap.size (w.heap.size + 1) 77 53 (.bool false) _ _ (0, 0) (0, 0) _ _ rfl (g1.alloc _) Try.underlying77 rfl info_frame rfl rfl (g2.alloc _) Try.underlying53 rfl info_notice) rfl (HP.out _ ((H5.out.bel.trans hg).alloc (Nat.le_trans H5.out.bel.size hg.size) _))
    · obtain ⟨As, cs, A', c', s0, hrun, hst, hrz, hrd, hch⟩ := H5.out.cut hs n (by omega) (.cells #[.int .i64 0, .int .i64 ts, .slice At td.length ct] 53)
      have hnl : ¬ b.length < n := hln
      have hnf : nextF b = .got kind ((b.drop 19).take (n - 19)) (b.drop n) := by
        unfold nextF; rw [if_neg (by omega), if_neg (by rw [HB.out]; simp), if_neg (by rw [← HEl.out]; exact hln), ← HEl.out, ← HEk.out]
      obtain ⟨_, s1, sf0, a0, a1, af, b0, b1, b2, bf, l1, l2, l3⟩ := H5.out.facts hs
      have htk := Take_own r (b.drop 19) false (n - 19 : Nat) _ (by simp; omega) hrd
      obtain ⟨e1, e2, e3⟩ := rd_drop (b.drop 19) (n - 19) (by simp; omega)
      rw [e1, e2, e3, show ((n - 19 : Nat) : Int) = (n : Int) - 19 from by omega] at htk
      have HTk := Lib.hid htk
      have HSt := Lib.hid hst
      have HRz := Lib.hid hrz
      have HCh := Lib.hid hch
      have HRlow := Lib.hid H5.out.low
      have Hnf := Lib.hid hnf
      have n1 : s ≠ w.heap.size := by omega
      have n2 : s ≠ w.heap.size + 1 := by omega
      have n3 : w.heap.size ≠ s := by omega
      have n4 : w.heap.size + 1 ≠ s := by omega
      clear htk hst hrz hrd hch hnf e1 e2 e3 hl
      generalize (b.drop 19).take (n - 19) = body at *
      go_wp2_with fail
      refine HTk.out.mono ?_; rintro e w6 ⟨Ab, cb, rfl, hob, hRb, hGb⟩
      have hlow := HRlow.out
      have hc6 : Chg (fun k => k = r) ((w5.setCell ⟨s, 0, none⟩ (.slice A' (b.length - n) c')).alloc (.cells #[.int .i64 0, .int .i64 ts, .slice At td.length ct] 53)) w6 := Chg.grown hGb fun g e => by cases e; rfl
      have hst6 := HSt.out.chg hc6 fun k hk e => by have := HF.out k hk; have e' : k = r := e; omega
      have hrz6 : Rz w (.int .i64 0) (.slice none 0 0) w6 := ⟨HRz.out.1.chg hc6 (fun e => by have e' : w.heap.size = r := e; omega), HRz.out.2.chg hc6 (fun e => by have e' : w.heap.size + 1 = r := e; omega)⟩
      have hch6 : Chg (fun k => F k ∨ w.heap.size ≤ k) w w6 := HCh.out.trans hc6 fun k _ e => by have e' : k = r := e; exact .inr (by omega)
      obtain ⟨ho, hlo⟩ := Own.of_row hob
      have hzz : w5.heap.size + 1 = ((w5.setCell ⟨s, 0, none⟩ (.slice A' (b.length - n) c')).alloc (.cells #[.int .i64 0, .int .i64 ts, .slice At td.length ct] 53)).heap.size := by simp [World.setCell]
      have hN6 : Nb w Ab cb body w6 := ⟨ho.nil, ho.cap, ho.max, ho.rg.rd, fun ad e => by have := hlo ad.block ⟨ad, e, rfl⟩; omega⟩
      obtain ⟨g1, g2, g3⟩ := got_end hst6 hrz6 hch6 HF.out Hnf.out hN6 (fun ad e => by have := hlo ad.block ⟨ad, e, rfl⟩; omega)
      have q0 := hrz6.1.cell 0
      have q1 := hrz6.1.cell 1
      have u0 := hrz6.2.cell 0
      have u1 := hrz6.2.cell 1
      have u2 := hrz6.2.cell 2
      have qf := fun i => hrz6.1.free i
      have uf := fun i => hrz6.2.free i
      simp at q0 q1 u0 u1 u2
      have HG1 := Lib.hid g1
      have HG2 := Lib.hid g2
      have HG3 := Lib.hid g3
      clear hc6 hst6 hrz6 hch6 ho hlo hzz hN6 g1 g2 g3 hob hRb hGb HTk HSt HRz HCh Hnf
      go_wp2_with fail
      exact bodyPost_ret (results_ctc rfl _ _ w.heap.size (w.heap.size + 1) 77 53 (.bool true) _ _ (0, 0) (0, 0) _ _ rfl HG1.out Try.underlying77 rfl info_frame rfl rfl HG2.out Try.underlying53 rfl info_notice) rfl HG3.out

theorem next_any {F : Foot} {s : Nat} {b : List UInt8} {br : Bool} (w : World) (hll : b.length ≤ 1099511627776) (h : St w F s b br) :
    Calls Try.prog 49 #[.pointer (some ⟨s, 0, none⟩)] w (NextP F s b br w) := by
  by_cases hl : b.length < 19
  · exact next_short w hl h
  · exact next_long w (by omega) hll h
end Go.Proofs.Ythoclemgiopjpaa.frame
