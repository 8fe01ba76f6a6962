/- What (*frame.Stream).feed does. Condition: at most 2^39 bytes. -/
import Derived.Test.YthoclemgiopjpaaFrameNext
import Derived.Test.YthoclemgiopjpaaRel
import Derived.Deep.LoopGhost
namespace Go.Proofs.Ythoclemgiopjpaa.frame
open Go.RowKit Go.Proofs.Ythoclemgiopjpaa.kit Go.Proofs.Ythoclemgiopjpaa.mem Go.Proofs.Ythoclemgiopjpaa.foot Go.Proofs.Ythoclemgiopjpaa.octet
set_option linter.unusedVariables false
set_option linter.unusedSimpArgs false

/-- a frame: its type and body -/
def rFr : Rel (Int × List UInt8) := rPair (rInt .i64) rBs
theorem keeps_fr : Keeps 2 rFr := keeps_pair (n := 1) (m := 1) (keeps_int _) keeps_bs
def frs (l : List (Nat × List UInt8)) : List (Int × List UInt8) := l.map fun p => ((p.1 : Int), p.2)
theorem frs_app (l r : List (Nat × List UInt8)) : frs (l ++ r) = frs l ++ frs r := by simp [frs]
theorem frs_len (l : List (Nat × List UInt8)) : (frs l).length = l.length := by simp [frs]
theorem info_fr : (Try.prog.info? 77).map (fun i => (i.zero, i.size, i.bytes)) = some (some (.agg #[.int .i64 0, .slice none 0 0]), 2, 32) := by kernel_rfl

/-- what is told with a stream's messages -/
def ntOf : Option Nt → Nt
  | none => (0, 0, [])
  | some t => t
/-- what is left of a stream -/
def leftOf (x : Fed) : List UInt8 := if x.2.2.isSome then [] else x.2.1

/-- what feed hands back, and leaves -/
def FeedP (x : Fed) (s : Nat) (F : Foot) (br : Bool) (w : World) (e : Ending) (w' : World) : Prop :=
  ∃ A c At ct, e = .returned (.tuple #[.slice A x.1.length c, .agg #[.int .i64 (ntOf x.2.2).1, .int .i64 (ntOf x.2.2).2.1, .slice At (ntOf x.2.2).2.2.length ct]]) ∧ (A = none → c = 0) ∧ x.1.length ≤ c ∧ c ≤ maxLen ∧ Nb w At ct (ntOf x.2.2).2.2 w' ∧
    ∃ F', St w' F' s (leftOf x) (br || x.2.2.isSome) ∧ Chg F w w' ∧ Fresh w F F' ∧ Els 2 rFr w' (fun k => w.heap.size ≤ k ∧ ¬ F' k) A (frs x.1) ∧ (∀ ad, At = some ad → ¬ F' ad.block)

/-- so far -/
structure FJ (l : List UInt8) (s : Nat) (F F' : Foot) (br : Bool) (w : World) (out : List (Nat × List UInt8)) (cur : List UInt8) (A : Option Addr) (c : Nat) (vs : List Value) (wr : World) : Prop where
  st : St wr F' s cur br
  own : Own wr 77 2 A out.length c vs
  all : rAll rFr wr (fun k => w.heap.size < k ∧ ¬ F' k ∧ ¬ sf A k) vs (frs out)
  low : ∀ k, sf A k → w.heap.size < k ∧ ¬ F' k
  rz : Bk wr w.heap.size 53 #[.int .i64 0, .int .i64 0, .slice none 0 0]
  nr : ¬ F' w.heap.size
  chg : Chg F w wr
  fr : Fresh w F F'
  eq : feed l = (out ++ (feed cur).1, (feed cur).2.1, (feed cur).2.2)
  len : out.length + cur.length ≤ l.length

section
variable {l cur body rest : List UInt8} {s c kind : Nat} {F F' : Foot} {br : Bool} {w wr w3 w4 : World} {out : List (Nat × List UInt8)} {A Ab : Option Addr} {cb : Nat} {vs : List Value}
theorem FJ.grow (h : FJ l s F F' br w out cur A c vs wr) (hb : Below wr.heap.size wr w3) : FJ l s F F' br w out cur A c vs w3 := by
  exact ⟨h.st.bel hb, h.own.bel hb, h.all.chg keeps_fr (F := fun _ => False) (Chg.of_below hb _) fun _ _ _ e => e, h.low, h.rz.below hb h.rz.lt, h.nr, h.chg.bel hb, h.fr, h.eq, h.len⟩
/-- one message more is taken, and put behind -/
theorem FJ.next {A4 : Option Addr} {c4 : Nat} (h : FJ l s F F' br w out cur A c vs wr) (hn : nextF cur = .got kind body rest) (hst : St w3 F' s rest br) (hc : Chg F' wr w3) (hN : Nb wr Ab cb body w3) (hb : Below w3.heap.size w3 w4) {w5 : World}
    (ho : Own w5 77 2 A4 (out.length + 1) c4 (vs ++ [.int .i64 kind, .slice Ab body.length cb])) (hc5 : Chg (sf A) w4 w5) (hf5 : Fresh w4 (sf A) (sf A4)) :
    FJ l s F F' br w (out ++ [(kind, body)]) rest A4 c4 (vs ++ [.int .i64 kind, .slice Ab body.length cb]) w5 := by
  have h1 := h.own
  have h2 := h.all
  have g := nextF_got hn
  have hs4 : wr.heap.size ≤ w4.heap.size := Nat.le_trans hc.size hb.size
  have hch4 : Chg F' wr w4 := hc.bel hb
  have hA : ∀ k, sf A k → k < wr.heap.size := h1.lt
  have hA4 : ∀ k, sf A4 k → sf A k ∨ w4.heap.size ≤ k := hf5
  have hF4 : ∀ k, F' k → k < w4.heap.size := fun k hk => Nat.lt_of_lt_of_le (h.st.lt k hk) hs4
  refine ⟨(hst.bel hb).chg hc5 fun k hk e => (h.low k e).2 hk, by rw [List.length_append]; exact ho, ?_, fun k hk => ?_, (h.rz.chg hch4 h.nr).chg hc5 fun e => by have := (h.low _ e).1; omega, h.nr, ?_, h.fr, ?_, ?_⟩
  · rw [frs_app]
    have hkeep : ∀ k, k < w4.heap.size → (w.heap.size < k ∧ ¬ F' k ∧ ¬ sf A k) → (w.heap.size < k ∧ ¬ F' k ∧ ¬ sf A4 k) := fun k hk hx => ⟨hx.1, hx.2.1, fun e => by
      rcases hA4 k e with e | e
      · exact hx.2.2 e
      · omega⟩
    refine rAll.app ?_ (rAll.single ?_)
    · have h3 := h2.mono keeps_fr (H := fun k => k < wr.heap.size ∧ (w.heap.size < k ∧ ¬ F' k ∧ ¬ sf A k)) fun k hk hx => ⟨hk, hx⟩
      have h4 := (h3.chg keeps_fr hch4 fun k _ hx => hx.2.2.1).chg keeps_fr hc5 fun k _ hx => hx.2.2.2
      exact h4.mono keeps_fr fun k _ hx => hkeep k (by omega) hx.2
    · obtain ⟨n1, n2, n3, n4, n5⟩ := hN
      refine ⟨[.int .i64 kind], [.slice Ab body.length cb], rfl, ⟨rfl, by have := hkind_lt cur; have := g.2.2.2.2.2.1; simp [Lit.wf, IntKind.min, IntKind.max, IntKind.signed, IntKind.bits]; omega⟩, Ab, cb, rfl, n1, n2, n3, ?_⟩
      have r3 : Rg w3 (fun k => wr.heap.size ≤ k ∧ k < w3.heap.size) 1 Ab body.length (bv body) := (Rg.of_rd (G := fun k => wr.heap.size ≤ k) n4 (Nat.le_refl _) fun ad e => n5 ad e).mono fun k hk hx => ⟨hx, hk⟩
      have r4 := (r3.bel hb).chg hc5 fun k _ hx e => by have := hA k e; omega
      exact r4.mono fun k _ hx => ⟨Nat.lt_of_lt_of_le h.rz.lt hx.1, fun e => by have := h.st.lt k e; omega, fun e => by
        rcases hA4 k e with e | e
        · have := hA k e; omega
        · have := hb.size; omega⟩
  · rcases hA4 k hk with e | e
    · exact h.low k e
    · exact ⟨by have := h.rz.lt; omega, fun e2 => by have := hF4 k e2; omega⟩
  · exact ((h.chg.step h.fr hch4).trans hc5 fun i hi e => by have := (h.low i e).1; omega)
  · rw [h.eq, feed_got hn]; simp
  · have := h.len; simp; omega
/-- none is left, or its head may not be -/
theorem FJ.done {n : Option Nt} {At : Option Addr} {ct : Nat} (h : FJ l s F F' br w out cur A c vs wr) (hx : feed cur = ([], cur, n)) (hst : St w3 F' s (leftOf ([], cur, n)) (br || n.isSome)) (hc : Chg (fun k => F' k ∨ k = w.heap.size) wr w3) (hN : Nb wr At ct (ntOf n).2.2 w3) :
    FeedP (feed l) s F br w (.returned (.tuple #[.slice A out.length c, .agg #[.int .i64 (ntOf n).1, .int .i64 (ntOf n).2.1, .slice At (ntOf n).2.2.length ct]])) w3 := by
  have he : feed l = (out, cur, n) := by rw [h.eq, hx]; simp
  rw [he]
  have h1 := h.own
  obtain ⟨n1, n2, n3, n4, n5⟩ := hN
  refine ⟨A, c, At, ct, rfl, h1.nil, h1.cap, h1.max, ⟨n1, n2, n3, n4, fun ad e => Nat.le_trans h.chg.size (n5 ad e)⟩, F', hst, ?_, h.fr, ?_, fun ad e hF => by have := n5 ad e; have := h.st.lt _ hF; omega⟩
  · refine h.chg.trans hc fun i hi e => ?_
    rcases e with e | e
    · rcases h.fr i e with e | e
      · exact e
      · omega
    · omega
  · refine ⟨vs, ?_, ?_⟩
    · rw [frs_len]
      exact (h1.chg hc fun k _ hk e => by
        rcases e with e | e
        · exact (h.low k hk).2 e
        · have := (h.low k hk).1; omega).rg.mono fun k _ hk => ⟨Nat.le_of_lt (h.low k hk).1, (h.low k hk).2⟩
    · exact (h.all.chg keeps_fr hc fun k _ hk e => by
        rcases e with e | e
        · exact hk.2.1 e
        · omega).mono keeps_fr fun k _ hk => ⟨Nat.le_of_lt hk.1, hk.2.1⟩
/-- the notice is handed back -/
theorem FJ.fin {n : Option Nt} {At : Option Addr} {ct : Nat} (h : FJ l s F F' br w out cur A c vs wr) (hx : feed cur = ([], cur, n)) (hst : St w3 F' s (leftOf ([], cur, n)) (br || n.isSome)) (hc : Chg F' wr w3) (hN : Nb wr At ct (ntOf n).2.2 w3) (Y Z : Obj) (W : World)
    (hW : W = (((((w3.setCell ⟨w.heap.size, 0, none⟩ (.int .i64 (ntOf n).1)).setCell ⟨w.heap.size, 1, none⟩ (.int .i64 (ntOf n).2.1)).setCell ⟨w.heap.size, 2, none⟩ (.slice At (ntOf n).2.2.length ct)).alloc Y).alloc Z).drew) :
    W.heap[w.heap.size]? = some (.cells #[.int .i64 (ntOf n).1, .int .i64 (ntOf n).2.1, .slice At (ntOf n).2.2.length ct] 53 (0, 0)) ∧
    FeedP (feed l) s F br w (.returned (.tuple #[.slice A out.length c, .agg #[.int .i64 (ntOf n).1, .int .i64 (ntOf n).2.1, .slice At (ntOf n).2.2.length ct]])) W := by
  have hk3 := h.rz.chg hc h.nr
  have hk4 := ((hk3.put 0 (.int .i64 (ntOf n).1)).put 1 (.int .i64 (ntOf n).2.1)).put 2 (.slice At (ntOf n).2.2.length ct)
  have c4 : Chg (fun k => k = w.heap.size) w3 (((w3.setCell ⟨w.heap.size, 0, none⟩ (.int .i64 (ntOf n).1)).setCell ⟨w.heap.size, 1, none⟩ (.int .i64 (ntOf n).2.1)).setCell ⟨w.heap.size, 2, none⟩ (.slice At (ntOf n).2.2.length ct)) :=
    (((Chg.refl (fun k => k = w.heap.size) w3).put (p := ⟨w.heap.size, 0, none⟩) (.inl rfl) _).put (p := ⟨w.heap.size, 1, none⟩) (.inl rfl) _).put (p := ⟨w.heap.size, 2, none⟩) (.inl rfl) _
  generalize (((w3.setCell ⟨w.heap.size, 0, none⟩ (.int .i64 (ntOf n).1)).setCell ⟨w.heap.size, 1, none⟩ (.int .i64 (ntOf n).2.1)).setCell ⟨w.heap.size, 2, none⟩ (.slice At (ntOf n).2.2.length ct)) = V at *
  have hb : Below V.heap.size V ((V.alloc Y).alloc Z).drew := (((Below.refl _ _).alloc (Nat.le_refl _) _).alloc (by simp) _).drew
  subst hW
  have hcall : Chg (fun k => F' k ∨ k = w.heap.size) wr ((V.alloc Y).alloc Z).drew := ((hc.mono fun _ _ e => .inl e).trans c4 fun _ _ e => .inr e).bel hb
  refine ⟨(show Bk ((V.alloc Y).alloc Z).drew w.heap.size _ _ from Bk.below (by simpa using hk4) hb (Bk.lt (by simpa using hk4))), h.done hx ((hst.chg c4 fun k hk e => ?_).bel hb) hcall ((hN.chg c4 fun ad e e2 => ?_).chg (Chg.of_below hb (fun _ => False)) fun _ _ e => e)⟩
  · exact h.nr (by have e' : k = w.heap.size := e; rw [← e']; exact hk)
  · have e' : ad.block = w.heap.size := e2
    have := hN.2.2.2.2 ad e
    have := h.rz.lt
    omega
end

theorem results_tc {P : Program} {fn : Func} {p m : Tmp} {ty : TypeId} (h : fn.results = #[.tmp m, .cell p ty]) (tmps : Array Value) (w : World) (g : Nat) (t : TypeId) (v : Value) (cs : Array Value) (fr : Nat × Nat) (d : TypeDesc)
    (hm : tmps.getD m undef = v) (hp : tmps.getD p undef = .pointer (some ⟨g, 0, none⟩)) (hg : w.heap[g]? = some (.cells cs t fr))
    (hu : P.underlying ty = some d) (hd : (match d with | .struct _ | .array _ _ => true | _ => false) = true) (hi : (P.info? ty).map (·.size) = some cs.size) :
    (results fn tmps).run P w = .ok (.tuple #[v, .agg cs]) w := by
  have hp' : tmps[p]?.getD undef = .pointer (some ⟨g, 0, none⟩) := by simpa using hp
  have hm' : tmps[m]?.getD undef = v := by simpa using hm
  simp [results, h, hp', hm', asAddr, run_loadVar_row w g t ty cs fr d hg hu hd hi]

set_option maxRecDepth 100000 in
set_option maxHeartbeats 1000000 in
theorem feed_any {F : Foot} {s : Nat} {x b : List UInt8} {br : Bool} {A0 : Option Addr} {c0 B : Nat} (w : World) (hx : x.length ≤ 549755813888) (hb : b.length ≤ 549755813888) (hA0 : A0 = none → c0 = 0) (hB : B ≤ w.heap.size) (hs : Bs w B A0 b) (h : St w F s x br) :
    Calls Try.prog 44 #[.pointer (some ⟨s, 0, none⟩), .slice A0 b.length c0] w (FeedP (feed (x ++ b)) s F br w) := by
  obtain ⟨i0, hi, hz0, hz1, hz2⟩ := info_parts info_u8
  have Hi := Lib.hid hi
  have Hz0 := Lib.hid hz0
  have Hz1 := Lib.hid hz1
  have Hz2 := Lib.hid hz2
  have hb0 : Below w.heap.size w (w.alloc (.cells #[.int .i64 0, .int .i64 0, .slice none 0 0] 53)) := (Below.refl _ _).alloc (Nat.le_refl _) _
  have HR0 : Hid (Bk (w.alloc (.cells #[.int .i64 0, .int .i64 0, .slice none 0 0] 53)) w.heap.size 53 #[.int .i64 0, .int .i64 0, .slice none 0 0]) := Bk.new w _ _
  have HB0 := Lib.hid hb0
  have HF := Lib.hid h.lt
  have Hs := Lib.hid hs
  obtain ⟨A, c, G, hk, hA, hc, hm, hr, hFs, hG, hlt⟩ := h
  have hs1 := hk.lt
  have k0 := hk.cell 0
  have k1 := hk.cell 1
  have kf := fun i => hk.free i
  simp at k0 k1
  have Hk := Lib.hid (hk.below hb0 hk.lt)
  have HCl := Lib.hid (clone_own A c w.heap.size x _ (by omega) hA (by simp) (Rd.below hr.rd hb0 (Nat.le_refl _)))
  clear hi hz0 hz1 hz2 hk hr hs hb0
  go_enter Try.func44, Try.ntmps44
  go_wp2_with fail
  refine HCl.out.mono ?_; rintro e w1 ⟨A1, c1, rfl, ho1, hb1⟩
  obtain ⟨hown1, hlo1⟩ := Own.of_row ho1
  have hz1 : w.heap.size + 1 = (w.alloc (.cells #[.int .i64 0, .int .i64 0, .slice none 0 0] 53)).heap.size := by simp
  have HB1 := Lib.hid (HB0.out.trans (hb1.mono HB0.out.size))
  have hk1 := Hk.out.below hb1 Hk.out.lt
  have hR1 := HR0.out.below hb1 HR0.out.lt
  have hlo2 : ∀ k, sf A1 k → w.heap.size < k := fun k hk => by have := hlo1 k hk; omega
  have q0 := hk1.cell 0
  have q1 := hk1.cell 1
  have qf := fun i => hk1.free i
  simp at q0 q1
  have HSt : Hid (∀ {A2 c2 w2}, Own w2 5 1 A2 (x.length + b.length) c2 (bv x ++ bv b) → Chg (sf A1) w1 w2 → Fresh w1 (sf A1) (sf A2) → w2.cell? ⟨s, 0, none⟩ = some (.slice A x.length c) ∧ (∀ i, w2.frozen? ⟨s, i, none⟩ = false) ∧ ∃ F', FJ (x ++ b) s F F' br w [] (x ++ b) none 0 [] (w2.setCell ⟨s, 0, none⟩ (.slice A2 (x.length + b.length) c2))) := fun {A2 c2 w2} h1 h2 h3 => by
    have hk2 := hk1.chg h2 fun e => by have := hlo2 s e; omega
    have hR2 := hR1.chg h2 fun e => by have := hlo2 _ e; omega
    have hA2 : ∀ k, sf A2 k → w.heap.size < k := fun k hk => by
      rcases h3 k hk with e | e
      · exact hlo2 k e
      · have := HB1.out.size; have := hR1.lt; omega
    have hc3 : Chg (fun k => k = s) w2 (w2.setCell ⟨s, 0, none⟩ (.slice A2 (x.length + b.length) c2)) := (Chg.refl (fun k => k = s) w2).put (p := ⟨s, 0, none⟩) (.inl rfl) _
    refine ⟨hk2.cell 0, fun i => hk2.free i, fun k => k = s ∨ sf A2 k, ?_⟩
    have e1 : (x ++ b).length = x.length + b.length := List.length_append
    refine ⟨⟨A2, c2, sf A2, ?_, h1.nil, by rw [e1]; exact h1.cap, h1.max, ?_, .inl rfl, fun k hk => ⟨.inr hk, fun e => by have := hA2 k hk; omega⟩, fun k hk => ?_⟩, Own.none_ _ _ _, rfl, fun k hk => absurd hk (sf_none k), ?_, ?_, ?_, fun k hk => ?_, by simp, by simp⟩
    · rw [e1]; simpa using hk2.put 0 (.slice A2 (x.length + b.length) c2)
    · rw [e1, bv_app]
      exact (h1.chg hc3 fun k _ hk e => by have := hA2 k hk; have e' : k = s := e; omega).rg
    · have hsz := hc3.size
      rcases hk with e | e
      · rw [e]; exact Nat.lt_of_lt_of_le hk2.lt hsz
      · exact Nat.lt_of_lt_of_le (h1.lt k e) hsz
    · exact hR2.far (p := ⟨s, 0, none⟩) (fun e => by have e' : w.heap.size = s := e; omega) _
    · intro e
      rcases e with e | e
      · omega
      · have := hA2 _ e; omega
    · have g1 : Chg F w w1 := Chg.of_below HB1.out F
      have g2 : Chg F w w2 := g1.trans h2 fun i hi e => by have := hlo2 i e; omega
      exact g2.put (.inl hFs) _
    · rcases hk with e | e
      · exact .inl (e ▸ hFs)
      · exact .inr (Nat.le_of_lt (hA2 k e))
  have HOw := Lib.hid hown1
  have HRb := Lib.hid (Rg.of_rd (G := fun _ => True) (Rd.below Hs.out HB1.out hB) (Nat.le_trans hB HB1.out.size) fun _ _ => trivial)
  have HA0 := Lib.hid hA0
  clear ho1 hb1 hown1 hlo1 hlo2 hk1 hR1 hz1 HCl Hk HR0 k0 k1 kf hG hA0
  go_wp2_with (at_builtin; refine wpList_app _ rfl (.tmp 15) (.tmp 16) _ rfl 5 i0 _ 1 1 Try.underlying23 Hi.out Hz0.out Hz1.out Hz2.out rfl (by omega) A1 x.length c1 (bv x) rfl HOw.out _ A0 b.length c0 HA0.out (bv b) rfl HRb.out (bv_one _) (by unfold maxLen; omega) (by omega) ?_; intro A2 c2 w2 ho2 hc2 hf2; obtain ⟨k0, kf, HFJ⟩ := HSt.out ho2 hc2 hf2; have HFJ := Lib.hid HFJ; clear ho2 hc2 hf2)
  obtain ⟨F', hFJ⟩ := HFJ.out
  have HFJ2 := Lib.hid hFJ
  have hxb : (x ++ b).length ≤ 1099511627776 := by simp; omega
  obtain ⟨j0, hj, hy0, hy1, hy2⟩ := info_parts info_fr
  have Hj := Lib.hid hj
  have Hy0 := Lib.hid hy0
  have Hy1 := Lib.hid hy1
  have Hy2 := Lib.hid hy2
  clear hFJ HFJ HSt k0 kf q0 q1 qf HOw HRb HA0 hj hy0 hy1 hy2
  generalize x ++ b = l at *
  go_loopg [6] l.length (fun g vo wr => ∃ (out : List (Nat × List UInt8)) (cur : List UInt8) (A : Option Addr) (c : Nat) (vs : List Value), cur.length ≤ g ∧ vo = .slice A out.length c ∧ FJ l s F F' br w out cur A c vs wr)
  case atStart => exact ⟨[], l, none, 0, [], Nat.le_refl _, rfl, HFJ2.out⟩
  case round =>
    obtain ⟨out, cur, A, c, vs, hg, rfl, hJ⟩ := hrel
    clear HFJ2
    have HJ := Lib.hid hJ
    have hlen := hJ.len
    have hcur : cur.length ≤ 1099511627776 := by omega
    have hout : out.length ≤ 1099511627776 := by omega
    have HN := Lib.hid (next_any wr hcur hJ.st)
    clear hJ
    rcases hn : nextF cur with _ | t | ⟨kind, body, rest⟩
    case' wait =>
      have HP : Hid (Calls Try.prog 49 #[.pointer (some ⟨s, 0, none⟩)] wr fun e w' => e = .returned (.tuple #[.agg #[.int .i64 0, .slice none 0 0], .bool false, .agg #[.int .i64 0, .int .i64 0, .slice none 0 0]]) ∧ Below wr.heap.size wr w') := HN.out.mono fun e w' h => by
        unfold NextP at h; rw [hn] at h; exact h
      have Hn := Lib.hid hn
      clear HN hn
      go_wp2_with fail
      refine HP.out.mono ?_; rintro e w3 ⟨rfl, hb3⟩
      have HJ3 := Lib.hid (HJ.out.grow hb3)
      have q0 := HJ3.out.rz.cell 0
      have q1 := HJ3.out.rz.cell 1
      have q2 := HJ3.out.rz.cell 2
      have qf := fun i => HJ3.out.rz.free i
      have ql := HJ3.out.rz.lt
      simp at q0 q1 q2
      have HB3 := Lib.hid hb3
      clear hb3
      go_wp2_with fail
      go_region
      all_goals
        go_wp2_with fail
        obtain ⟨g1, g2⟩ := FJ.fin (n := none) (At := none) (ct := 0) HJ.out (feed_wait Hn.out) (by simpa [leftOf] using HJ3.out.st) (Chg.of_below HB3.out _) (Nb.none_ _ _) _ _ _ rfl
        exact bodyPost_ret (results_tc rfl _ _ w.heap.size 53 (.slice A out.length c) _ (0, 0) _ rfl rfl g1 Try.underlying53 rfl info_notice) rfl g2
    case' bad =>
      obtain ⟨tc, ts, td⟩ := t
      have HP : Hid (Calls Try.prog 49 #[.pointer (some ⟨s, 0, none⟩)] wr fun e w' => ∃ A c, e = .returned (.tuple #[.agg #[.int .i64 0, .slice none 0 0], .bool false, .agg #[.int .i64 tc, .int .i64 ts, .slice A td.length c]]) ∧ Nb wr A c td w' ∧ St w' F' s [] true ∧ Chg F' wr w') := HN.out.mono fun e w' h => by
        unfold NextP at h; rw [hn] at h; exact h
      have Hn := Lib.hid hn
      clear HN hn
      go_wp2_with fail
      refine HP.out.mono ?_; rintro e w3 ⟨At, ct, rfl, hN3, hst3, hc3⟩
      have hk3 := HJ.out.rz.chg hc3 HJ.out.nr
      have q0 := hk3.cell 0
      have q1 := hk3.cell 1
      have q2 := hk3.cell 2
      have qf := fun i => hk3.free i
      have ql := hk3.lt
      simp at q0 q1 q2
      have HN3 := Lib.hid hN3
      have HS3 := Lib.hid hst3
      have HC3 := Lib.hid hc3
      clear hN3 hst3 hc3 hk3 HP
      go_wp2_with fail
      go_region
      all_goals
        go_wp2_with fail
        obtain ⟨g1, g2⟩ := FJ.fin (n := some (tc, ts, td)) HJ.out (feed_bad Hn.out) (by simpa [leftOf] using HS3.out) HC3.out HN3.out _ _ _ rfl
        exact bodyPost_ret (results_tc rfl _ _ w.heap.size 53 (.slice A out.length c) _ (0, 0) _ rfl rfl g1 Try.underlying53 rfl info_notice) rfl g2
    case' got =>
      have HP : Hid (Calls Try.prog 49 #[.pointer (some ⟨s, 0, none⟩)] wr fun e w' => ∃ A c, e = .returned (.tuple #[.agg #[.int .i64 kind, .slice A body.length c], .bool true, .agg #[.int .i64 0, .int .i64 0, .slice none 0 0]]) ∧ Nb wr A c body w' ∧ St w' F' s rest br ∧ Chg F' wr w') := HN.out.mono fun e w' h => by
        unfold NextP at h; rw [hn] at h; exact h
      have Hn := Lib.hid hn
      have hgot := nextF_got hn
      have hrl : rest.length < cur.length := by have := hgot.2.2.1; have := hgot.2.2.2.2.2.2.2.2.1; omega
      clear HN hn hgot
      go_wp2_with fail
      refine HP.out.mono ?_; rintro e w3 ⟨Ab, cb, rfl, hN3, hst3, hc3⟩
      have hb4 : Below w3.heap.size w3 (((w3.alloc (.cells #[.int .i64 kind, .slice Ab body.length cb] 77)).alloc (.cells #[.int .i64 0, .int .i64 0, .slice none 0 0] 53)).alloc (.cells #[.int .i64 kind, .slice Ab body.length cb] 77)) := (((Below.refl _ _).alloc (Nat.le_refl _) _).alloc (by simp) _).alloc (by simp; omega) _
      have HO4 := Lib.hid ((HJ.out.own.chg hc3 fun k _ hk => (HJ.out.low k hk).2).bel hb4)
      have HR4 : Hid (Rg (((w3.alloc (.cells #[.int .i64 kind, .slice Ab body.length cb] 77)).alloc (.cells #[.int .i64 0, .int .i64 0, .slice none 0 0] 53)).alloc (.cells #[.int .i64 kind, .slice Ab body.length cb] 77)) (fun _ => True) 2 (some ⟨w3.heap.size + 1 + 1, 0, none⟩) 1 [.int .i64 kind, .slice Ab body.length cb]) := by
        have := Rg.new ((w3.alloc (.cells #[.int .i64 kind, .slice Ab body.length cb] 77)).alloc (.cells #[.int .i64 0, .int .i64 0, .slice none 0 0] 53)) 77 2 1 #[.int .i64 kind, .slice Ab body.length cb] rfl
        simpa [Hid] using this.mono (H := fun _ => True) fun _ _ _ => trivial
      have HNx : Hid (∀ {A4 c4 w5}, Own w5 77 2 A4 (out.length + 1) c4 (vs ++ [.int .i64 kind, .slice Ab body.length cb]) → Chg (sf A) _ w5 → Fresh _ (sf A) (sf A4) → FJ l s F F' br w (out ++ [(kind, body)]) rest A4 c4 (vs ++ [.int .i64 kind, .slice Ab body.length cb]) w5) := fun h1 h2 h3 => HJ.out.next Hn.out hst3 hc3 hN3 hb4 h1 h2 h3
      clear hb4 hN3 hst3 hc3 HP
      go_wp2_with (at_builtin; refine wpList_app _ rfl (.tmp 30) (.tmp 32) _ rfl 77 j0 _ 2 32 Try.underlying51 Hj.out Hy0.out Hy1.out Hy2.out rfl (by omega) A out.length c vs rfl HO4.out _ (some ⟨w3.heap.size + 1 + 1, 0, none⟩) 1 1 (by intro h; cases h) [.int .i64 kind, .slice Ab body.length cb] rfl HR4.out (by intro u hu; simp at hu; rcases hu with rfl | rfl <;> rfl) (by unfold maxLen; omega) (by omega) ?_; intro A4 c4 w5 ho5 hc5 hf5; have HJ5 := Lib.hid (HNx.out ho5 hc5 hf5); clear ho5 hc5 hf5)
      go_roundg rest.length
      case measure => omega
      case rel => exact ⟨_, rest, A4, c4, _, Nat.le_refl _, by rw [List.length_append]; rfl, HJ5.out⟩
end Go.Proofs.Ythoclemgiopjpaa.frame
