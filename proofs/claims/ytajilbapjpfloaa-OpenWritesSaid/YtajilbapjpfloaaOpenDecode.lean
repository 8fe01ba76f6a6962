/- What open.Decode returns. Condition: at most 2^39 bytes. -/
import Derived.Test.YtajilbapjpfloaaOpenPar
import Derived.Test.YtajilbapjpfloaaOpenJudge
namespace Go.Proofs.Ytajilbapjpfloaa.openk
open Go.RowKit Go.Proofs.Ytajilbapjpfloaa.kit Go.Proofs.Ytajilbapjpfloaa.mem Go.Proofs.Ytajilbapjpfloaa.octet Go.Proofs.Ytajilbapjpfloaa.openJudges
set_option linter.unusedVariables false

theorem results_cell_row2 {P : Program} {fn : Func} {p q : Tmp} {ty tz : TypeId} (h : fn.results = #[.cell p ty, .cell q tz]) (tmps : Array Value) (w : World) (g k : Nat) (t u : TypeId) (cs ds : Array Value) (fr fs : Nat × Nat) (d e : TypeDesc)
    (hp : tmps.getD p undef = .pointer (some ⟨g, 0, none⟩)) (hg : w.heap[g]? = some (.cells cs t fr))
    (hu : P.underlying ty = some d) (hd : (match d with | .struct _ | .array _ _ => true | _ => false) = true) (hi : (P.info? ty).map (·.size) = some cs.size)
    (hq : tmps.getD q undef = .pointer (some ⟨k, 0, none⟩)) (hk : w.heap[k]? = some (.cells ds u fs))
    (hv : P.underlying tz = some e) (he : (match e with | .struct _ | .array _ _ => true | _ => false) = true) (hj : (P.info? tz).map (·.size) = some ds.size) :
    (results fn tmps).run P w = .ok (.tuple #[.agg cs, .agg ds]) w := by
  have hp' : tmps[p]?.getD undef = .pointer (some ⟨g, 0, none⟩) := by simpa using hp
  have hq' : tmps[q]?.getD undef = .pointer (some ⟨k, 0, none⟩) := by simpa using hq
  simp [results, h, hp', hq', asAddr, run_loadVar_row w g t ty cs fr d hg hu hd hi, run_loadVar_row w k u tz ds fs e hk hv he hj]

/-- an Open and a notice of bytes -/
def odec (l : List UInt8) : (Nat × Nat × Nat × Bool) × Int × Int × List UInt8 :=
  if l.length < 10 then ((0, 0, 0, false), 2, 0, [])
  else if num (l.take 1) ≠ 4 then ((0, 0, 0, false), 2, 1, [0, 4])
  else if num ((l.drop 1).take 2) = 0 then ((0, 0, 0, false), 2, 2, [])
  else if holdsB (num ((l.drop 3).take 2)) = false then ((0, 0, 0, false), 2, 6, [])
  else if num ((l.drop 5).take 4) = 0 then ((0, 0, 0, false), 2, 3, [])
  else if num ((l.drop 9).take 1) ≠ (l.drop 10).length then ((0, 0, 0, false), 2, 0, [])
  else match parAll (l.drop 10) (num ((l.drop 1).take 2), false) with
    | .inl s => ((s.1, num ((l.drop 3).take 2), num ((l.drop 5).take 4), s.2), 0, 0, [])
    | .inr e => ((0, 0, 0, false), 2, e, [])

/-- what open's reader says of bytes in the end -/
def Res (l : List UInt8) (a h i : Nat) (f : Bool) (sb : Int) (bd : Bool) : Prop :=
  (bd = false → odec l = ((a, h, i, f), 0, 0, [])) ∧ (bd = true → odec l = ((0, 0, 0, false), 2, sb, if sb = 1 then [0, 4] else []))

theorem headS_short (k v A H I n m : Nat) (h : k < 10) : headS k v A H I n m = (0, true) := by
  have h1 : decide ((k : Int) < 10) = true := by simp; omega
  unfold headS
  rw [h1, spl_yes, spl_bad, spl_bad, spl_bad, spl_bad, spl_bad]

theorem parAll_ne1 : ∀ (f : Nat) (l : List UInt8) (s : Nat × Bool) (e : Int), pars f l s = .inr e → e ≠ 1 := by
  intro f
  induction f with
  | zero => intro l s e h; simp only [pars] at h; injection h with h; omega
  | succ f ih =>
    intro l s e h
    match l with
    | [] => cases h
    | [_] => simp only [pars] at h; injection h with h; omega
    | c :: n :: t =>
      simp only [pars] at h
      split at h
      · split at h
        · split at h
          · exact ih _ _ _ h
          · injection h with h; omega
        · injection h with h; omega
      · injection h with h; omega

theorem rd_seq (l : List UInt8) (k n : Nat) (h : k + n ≤ l.length) : RdN (l.drop k) false (n : Int) (num ((l.drop k).take n)) (l.drop (k + n)) false := by
  obtain ⟨e1, e2, e3⟩ := rd_in (l.drop k) n (by simp; omega)
  unfold RdN
  rw [e1, e2, e3, List.drop_drop]
  exact ⟨rfl, rfl, rfl⟩

theorem res_long (l : List UInt8) (h : 10 ≤ l.length) (st : Int × Bool)
    (hst : headS l.length (num (l.take 1)) (num ((l.drop 1).take 2)) (num ((l.drop 3).take 2)) (num ((l.drop 5).take 4)) (num ((l.drop 9).take 1)) (l.drop 10).length = st) :
    (st.2 = true → Res l (num ((l.drop 1).take 2)) (num ((l.drop 3).take 2)) (num ((l.drop 5).take 4)) false st.1 true) ∧
    (st.2 = false → st.1 = 0 ∧ ∀ (a : Nat) (f : Bool) (sb : Int) (bd : Bool), (bd = false → parAll (l.drop 10) (num ((l.drop 1).take 2), false) = .inl (a, f) ∧ sb = 0) → (bd = true → parAll (l.drop 10) (num ((l.drop 1).take 2), false) = .inr sb) → Res l a (num ((l.drop 3).take 2)) (num ((l.drop 5).take 4)) f sb bd) := by
  unfold Res odec
  rw [if_neg (by omega)]
  have h1 : decide ((l.length : Int) < 10) = false := by simp; omega
  unfold headS at hst
  rw [h1, spl_no] at hst
  generalize num (l.take 1) = v at *
  generalize num ((l.drop 1).take 2) = A at *
  generalize num ((l.drop 3).take 2) = H at *
  generalize num ((l.drop 5).take 4) = I at *
  generalize num ((l.drop 9).take 1) = n at *
  by_cases hv : v = 4
  · have d : ((v : Int) != 4) = false := by simp; omega
    rw [d, spl_no] at hst
    rw [if_neg (by simpa using hv)]
    by_cases hA : A = 0
    · have d : ((A : Int) == 0) = true := by simp; omega
      rw [d, spl_yes, spl_bad, spl_bad, spl_bad] at hst
      subst hst
      rw [if_pos hA]
      exact ⟨fun _ => ⟨(fun e => by cases e), fun _ => rfl⟩, (fun e => by cases e)⟩
    · have d : ((A : Int) == 0) = false := by simp; omega
      rw [d, spl_no] at hst
      rw [if_neg hA]
      by_cases hH : holdsB (H : Int) = false
      · rw [hH] at hst
        simp only [Bool.not_false] at hst
        rw [spl_yes, spl_bad, spl_bad] at hst
        subst hst
        rw [if_pos hH]
        exact ⟨fun _ => ⟨(fun e => by cases e), fun _ => rfl⟩, (fun e => by cases e)⟩
      · have hH' : holdsB (H : Int) = true := by simpa using hH
        rw [hH'] at hst
        simp only [Bool.not_true] at hst
        rw [spl_no] at hst
        rw [if_neg hH]
        by_cases hI : I = 0
        · have d : ((I : Int) == 0) = true := by simp; omega
          rw [d, spl_yes, spl_bad] at hst
          subst hst
          rw [if_pos hI]
          exact ⟨fun _ => ⟨(fun e => by cases e), fun _ => rfl⟩, (fun e => by cases e)⟩
        · have d : ((I : Int) == 0) = false := by simp; omega
          rw [d, spl_no] at hst
          rw [if_neg hI]
          by_cases hn : n = (l.drop 10).length
          · have d : ((n : Int) != ((l.drop 10).length : Int)) = false := by rw [hn]; simp
            rw [d, spl_no] at hst
            subst hst
            rw [if_neg (by simpa using hn)]
            refine ⟨(fun e => by cases e), fun _ => ⟨rfl, fun a f sb bd g1 g2 => ⟨fun e => ?_, fun e => ?_⟩⟩⟩
            · obtain ⟨g3, rfl⟩ := g1 e
              rw [g3]
            · have g3 := g2 e
              have g4 := parAll_ne1 _ _ _ _ g3
              rw [g3, if_neg g4]
          · have d : ((n : Int) != ((l.drop 10).length : Int)) = true := by rw [bne_iff_ne]; omega
            rw [d, spl_yes] at hst
            subst hst
            rw [if_pos (by simpa using hn)]
            exact ⟨fun _ => ⟨(fun e => by cases e), fun _ => rfl⟩, (fun e => by cases e)⟩
  · have d : ((v : Int) != 4) = true := by rw [bne_iff_ne]; omega
    rw [d, spl_yes, spl_bad, spl_bad, spl_bad, spl_bad] at hst
    subst hst
    rw [if_pos (by simpa using hv)]
    exact ⟨fun _ => ⟨(fun e => by cases e), fun _ => rfl⟩, (fun e => by cases e)⟩
/-- what a Decode hands back -/
def OpenPost (l : List UInt8) (w : World) (e : Ending) (w' : World) : Prop :=
  ∃ A c, e = .returned (.tuple #[.agg #[.int .u32 ((odec l).1.1 : Int), .int .i64 ((odec l).1.2.1 : Int), .int .u32 ((odec l).1.2.2.1 : Int), .bool (odec l).1.2.2.2], .agg #[.int .i64 (odec l).2.1, .int .i64 (odec l).2.2.1, .slice A (odec l).2.2.2.length c]]) ∧
    (A = none → c = 0) ∧ Bs w' w'.heap.size A (odec l).2.2.2 ∧ Below w.heap.size w w'

theorem info_open : (Try.prog.info? 52).map (·.size) = some 4 := by kernel_rfl

/-- both result variables written whole -/
def wr7 (w : World) (g : Nat) (a0 a1 a2 a3 b0 b1 b2 : Value) : World :=
  ((((((w.setCell ⟨g, 0, none⟩ a0).setCell ⟨g, 1, none⟩ a1).setCell ⟨g, 2, none⟩ a2).setCell ⟨g, 3, none⟩ a3).setCell ⟨g + 1, 0, none⟩ b0).setCell ⟨g + 1, 1, none⟩ b1).setCell ⟨g + 1, 2, none⟩ b2
theorem wr7_end {w : World} {g : Nat} {x0 x1 x2 x3 y0 y1 y2 : Value} (h0 : Bk w g 52 #[x0, x1, x2, x3]) (h1 : Bk w (g + 1) 55 #[y0, y1, y2]) (a0 a1 a2 a3 b0 b1 b2 : Value) :
    (wr7 w g a0 a1 a2 a3 b0 b1 b2).heap[g]? = some (.cells #[a0, a1, a2, a3] 52 (0, 0)) ∧ (wr7 w g a0 a1 a2 a3 b0 b1 b2).heap[g + 1]? = some (.cells #[b0, b1, b2] 55 (0, 0)) ∧ Below g w (wr7 w g a0 a1 a2 a3 b0 b1 b2) := by
  have e0 := ((((((h0.put 0 a0).put 1 a1).put 2 a2).put 3 a3).far (p := ⟨g + 1, 0, none⟩) (by simp) b0).far (p := ⟨g + 1, 1, none⟩) (by simp) b1).far (p := ⟨g + 1, 2, none⟩) (by simp) b2
  have e1 := ((((((h1.far (p := ⟨g, 0, none⟩) (by simp) a0).far (p := ⟨g, 1, none⟩) (by simp) a1).far (p := ⟨g, 2, none⟩) (by simp) a2).far (p := ⟨g, 3, none⟩) (by simp) a3).put 0 b0).put 1 b1).put 2 b2
  refine ⟨by simpa [Bk, wr7] using e0, by simpa [Bk, wr7] using e1, ?_⟩
  unfold wr7
  exact (((((((Below.refl g w).setCell (p := ⟨g, 0, none⟩) (Nat.le_refl _) _).setCell (p := ⟨g, 1, none⟩) (Nat.le_refl _) _).setCell (p := ⟨g, 2, none⟩) (Nat.le_refl _) _).setCell (p := ⟨g, 3, none⟩) (Nat.le_refl _) _).setCell (p := ⟨g + 1, 0, none⟩) (Nat.le_succ _) _).setCell (p := ⟨g + 1, 1, none⟩) (Nat.le_succ _) _).setCell (p := ⟨g + 1, 2, none⟩) (Nat.le_succ _) _
theorem bs_far {w : World} {B k : Nat} {l : List UInt8} (h : Bs w B (some ⟨k, 0, none⟩) l) {p : Addr} (hp : k ≠ p.block) (u : Value) : Bs (w.setCell p u) B (some ⟨k, 0, none⟩) l := by
  refine ⟨h.1, fun hn => ?_⟩
  obtain ⟨b, off, e, hb, hc⟩ := h.2 hn
  refine ⟨b, off, e, hb, fun j v hv => ?_⟩
  injection e with e
  injection e with e1 _
  rw [World.cell?_of_block (w := w) (Below.heap_setCell w p u b (by omega))]
  exact hc j v hv

set_option maxRecDepth 100000 in
set_option maxHeartbeats 2000000 in
theorem Decode_any (A : Option Addr) (c B : Nat) (l : List UInt8) (w : World) (hl : l.length ≤ 549755813888) (hA : A = none → c = 0) (hB : B ≤ w.heap.size) (hs : Bs w B A l) :
    Calls Try.prog 50 #[.slice A l.length c] w (OpenPost l w) := by
  -- the results' own blocks, the reader's, the bytes' copy
  obtain ⟨wa, hwa⟩ : ∃ wa, wa = ((w.alloc (.cells #[.int .u32 0, .int .i64 0, .int .u32 0, .bool false] 52)).alloc (.cells #[.int .i64 0, .int .i64 0, .slice none 0 0] 55)).alloc (.cells #[.int .u32 0, .int .i64 0, .int .u32 0, .bool false, .int .i64 0, .bool false] 101) := ⟨_, rfl⟩
  have hab : Below w.heap.size w wa := by rw [hwa]; exact (((Below.refl _ _).alloc (Nat.le_refl _) _).alloc (by simp) _).alloc (by simp; omega) _
  have g0 : Bk wa w.heap.size 52 #[.int .u32 0, .int .i64 0, .int .u32 0, .bool false] := by rw [hwa]; exact ((Bk.new w _ _).alloc _).alloc _
  have g1 : Bk wa (w.heap.size + 1) 55 #[.int .i64 0, .int .i64 0, .slice none 0 0] := by
    rw [hwa]
    have := (Bk.new (w.alloc (.cells #[.int .u32 0, .int .i64 0, .int .u32 0, .bool false] 52)) 55 #[.int .i64 0, .int .i64 0, .slice none 0 0]).alloc (.cells #[.int .u32 0, .int .i64 0, .int .u32 0, .bool false, .int .i64 0, .bool false] 101)
    simpa using this
  have g2 : Ord wa (w.heap.size + 2) 0 0 0 false 0 false := by
    rw [hwa]
    have := Bk.new ((w.alloc (.cells #[.int .u32 0, .int .i64 0, .int .u32 0, .bool false] 52)).alloc (.cells #[.int .i64 0, .int .i64 0, .slice none 0 0] 55)) 101 #[.int .u32 0, .int .i64 0, .int .u32 0, .bool false, .int .i64 0, .bool false]
    simpa [Ord, oc] using this
  have gz : wa.heap.size = w.heap.size + 3 := by rw [hwa]; simp
  have HN := Lib.hid (New_any A c B l wa (by omega) hA (by omega) (hs.below (hab.mono hB) (Nat.le_refl _)))
  have HAB := Lib.hid hab
  have G0 := Lib.hid g0
  have G1 := Lib.hid g1
  have G2 := Lib.hid g2
  have hgz : w.heap.size + 3 ≤ wa.heap.size := by omega
  have HWA := Lib.hid hwa
  clear hab g0 g1 g2 gz hA hs hwa
  go_enter Try.func50, Try.ntmps50
  go_wp2_with fail
  rw [← HWA.out]
  refine HN.out.mono ?_; rintro e w1 ⟨⟨b, rfl, hb0, hb⟩, hbel⟩
  have hRb : w.heap.size + 2 < b := by omega
  have K0 := Lib.hid (G0.out.below hbel (by omega))
  have K1 := Lib.hid (G1.out.below hbel (by omega))
  have hk2 : Ord w1 (w.heap.size + 2) 0 0 0 false 0 false := G2.out.below hbel (by omega)
  have HB1 := Lib.hid (HAB.out.trans (hbel.mono HAB.out.size))
  have hz1 : w.heap.size + 3 ≤ w1.heap.size := Nat.le_trans hgz hbel.size
  -- the head's reads
  obtain ⟨v, An, H, I, n, l1, l2, l3, l4, l5, b1, b2, b3, b4, b5, r1, r2, r3, r4, r5, hgo⟩ : ∃ (v An H I n : Nat) (l1 l2 l3 l4 l5 : List UInt8) (b1 b2 b3 b4 b5 : Bool), RdN l false 1 v l1 b1 ∧ RdN l1 b1 2 An l2 b2 ∧ RdN l2 b2 2 H l3 b3 ∧ RdN l3 b3 4 I l4 b4 ∧ RdN l4 b4 1 n l5 b5 ∧
      (((headS l.length v An H I n l5.length).2 = true → Res l An H I false (headS l.length v An H I n l5.length).1 true) ∧
       ((headS l.length v An H I n l5.length).2 = false → (headS l.length v An H I n l5.length).1 = 0 ∧ b5 = false ∧ l5.length ≤ l.length ∧ ∀ (a : Nat) (f : Bool) (sb : Int) (bd : Bool), (bd = false → parAll l5 (An, false) = .inl (a, f) ∧ sb = 0) → (bd = true → parAll l5 (An, false) = .inr sb) → Res l a H I f sb bd)) := by
    by_cases h10 : l.length < 10
    · refine ⟨_, _, _, _, _, _, _, _, _, _, _, _, _, _, _, ⟨rfl, rfl, rfl⟩, ⟨rfl, rfl, rfl⟩, ⟨rfl, rfl, rfl⟩, ⟨rfl, rfl, rfl⟩, ⟨rfl, rfl, rfl⟩, ?_, ?_⟩
      · intro _
        rw [headS_short _ _ _ _ _ _ _ h10]
        refine ⟨(fun e => by cases e), fun _ => ?_⟩
        unfold odec
        rw [if_pos h10]
        rfl
      · intro e
        rw [headS_short _ _ _ _ _ _ _ h10] at e
        cases e
    · have s1 := rd_seq l 0 1 (by omega)
      have s2 := rd_seq l 1 2 (by omega)
      have s3 := rd_seq l 3 2 (by omega)
      have s4 := rd_seq l 5 4 (by omega)
      have s5 := rd_seq l 9 1 (by omega)
      rw [List.drop_zero] at s1
      have hr := res_long l (by omega) _ rfl
      refine ⟨_, _, _, _, _, _, _, _, _, _, _, _, _, _, _, s1, s2, s3, s4, s5, hr.1, fun e => ?_⟩
      obtain ⟨q1, q2⟩ := hr.2 e
      exact ⟨q1, rfl, by simp, q2⟩
  have HH := Lib.hid (head_any (w.heap.size + 2) b l l1 l2 l3 l4 l5 v An H I n b1 b2 b3 b4 b5 w1 hRb hk2 hb r1 r2 r3 r4 r5 hl)
  have Hgo := Lib.hid hgo
  clear hgo r1 r2 r3 r4 r5 hb hk2 hbel HN
  go_wp2_with fail
  refine HH.out.mono ?_; rintro e w2 ⟨rfl, hk, hr, hc⟩
  have hpar : Calls Try.prog 73 #[.pointer (some ⟨w.heap.size + 2, 0, none⟩), .pointer (some ⟨b, 0, none⟩)] w2 fun e w' => e = .returned (.tuple #[]) ∧ ∃ (a h i : Nat) (f : Bool) (sb : Int) (bd : Bool), Ord w' (w.heap.size + 2) a h i f sb bd ∧ Chg2 (w.heap.size + 2) b w2 w' ∧ Res l a h i f sb bd := by
    rcases hbd : (headS l.length v An H I n l5.length).2 with _ | _
    · rw [hbd] at hk
      obtain ⟨q1, rfl, q2, q3⟩ := Hgo.out.2 hbd
      rw [q1] at hk
      refine (pars_any (w.heap.size + 2) b l5 (An, false) H I w2 hRb hk hr (by omega)).mono ?_
      rintro e w' ⟨rfl, q, bb, a, f, sb, bd, g1, g2, g3, g4, g5⟩
      exact ⟨rfl, a, H, I, f, sb, bd, g2, g3, q3 a f sb bd g4 g5⟩
    · rw [hbd] at hk
      refine (pars_bad (w.heap.size + 2) b An H I false _ w2 hk).mono ?_
      rintro e w' ⟨rfl, rfl⟩
      exact ⟨rfl, An, H, I, false, _, true, hk, Chg2.refl _ _ _, Hgo.out.1 hbd⟩
  have HPar := Lib.hid hpar
  have HC2 := Lib.hid hc
  clear hpar hk hr hc HH Hgo
  go_wp2_with fail
  refine HPar.out.mono ?_; rintro e w3 ⟨rfl, a, h, i, f, sb, bd, hk, hc, hres⟩
  have hcc := HC2.out.trans hc
  have M0 := Lib.hid (bk_chg K0.out hcc (by omega) (by omega))
  have M1 := Lib.hid (bk_chg K1.out hcc (by omega) (by omega))
  have HB3 := Lib.hid (HB1.out.trans (hcc.below (B := w.heap.size) (by omega) (by omega) (by omega)))
  have hz3 : w.heap.size + 3 ≤ w3.heap.size := Nat.le_trans hz1 hcc.size
  have z0 := hk.cell 0
  have z1 := hk.cell 1
  have z2 := hk.cell 2
  have z3 := hk.cell 3
  have z4 := hk.cell 4
  have z5 := hk.cell 5
  simp [oc] at z0 z1 z2 z3 z4 z5
  have HRes := Lib.hid hres
  clear hcc hk hc hres HPar HC2
  have m0 := M0.out.cell 0
  have m1 := M0.out.cell 1
  have m2 := M0.out.cell 2
  have m3 := M0.out.cell 3
  have n0 := M1.out.cell 0
  have n1 := M1.out.cell 1
  have n2 := M1.out.cell 2
  have k0 := M0.out.free 0
  have k1 := M0.out.free 1
  have k2 := M0.out.free 2
  have k3 := M0.out.free 3
  have j0 := M1.out.free 0
  have j1 := M1.out.free 1
  have j2 := M1.out.free 2
  simp at m0 m1 m2 m3 n0 n1 n2
  cases bd
  · have Hod := Lib.hid (HRes.out.1 rfl)
    have HW := Lib.hid (wr7_end M0.out M1.out (.int .u32 (a : Int)) (.int .i64 (h : Int)) (.int .u32 (i : Int)) (.bool f) (.int .i64 0) (.int .i64 0) (.slice none 0 0))
    clear HRes
    go_wp2_with fail
    refine bodyPost_ret (results_cell_row2 rfl _ _ w.heap.size (w.heap.size + 1) 52 55 #[.int .u32 (a : Int), .int .i64 (h : Int), .int .u32 (i : Int), .bool f] #[.int .i64 0, .int .i64 0, .slice none 0 0] (0, 0) (0, 0) _ _ rfl HW.out.1 Try.underlying52 rfl info_open rfl HW.out.2.1 Try.underlying55 rfl info_notice) rfl ?_
    unfold OpenPost
    rw [Hod.out]
    exact ⟨none, 0, rfl, fun _ => rfl, Rd.nil _ _ _ _, HB3.out.trans HW.out.2.2⟩
  · have Hod := Lib.hid (HRes.out.2 rfl)
    clear HRes
    by_cases hs1 : sb = 1
    · subst hs1
      have hal : Below w3.heap.size w3 (w3.alloc (.cells #[.int .u8 0, .int .u8 4] 5)) := (Below.refl _ _).alloc (Nat.le_refl _) _
      have hbs : Bs (w3.alloc (.cells #[.int .u8 0, .int .u8 4] 5)) (w3.heap.size + 1) (some ⟨w3.heap.size, 0, none⟩) [0, 4] := bs_new w3 [0, 4] _ (by simp [bv])
      have HBS := Lib.hid hbs
      have HAl := Lib.hid hal
      clear hal hbs m0 m1 m2 m3 n0 n1 n2 k0 k1 k2 k3 j0 j1 j2
      go_wp2_with fail
      refine (wrong_any 1 _ 2 2 _).mono ?_; rintro e w4 ⟨rfl, hb4'⟩
      have hb4 : Below w3.heap.size w3 w4 := HAl.out.trans (hb4'.mono HAl.out.size)
      have HBS4 : Hid (Bs w4 (w3.heap.size + 1) (some ⟨w3.heap.size, 0, none⟩) [0, 4]) := HBS.out.below hb4' (by simp)
      have M0 := Lib.hid (M0.out.below hb4 M0.out.lt)
      have M1 := Lib.hid (M1.out.below hb4 M1.out.lt)
      have HB4 := Lib.hid (HB3.out.trans (hb4.mono HB3.out.size))
      have HL4 : Hid (w3.heap.size + 1 ≤ w4.heap.size) := by have := hb4'.size; rw [Hid]; simpa using this
      have hz4 : w.heap.size + 3 ≤ w4.heap.size := Nat.le_trans hz3 hb4.size
      have HW := Lib.hid (wr7_end M0.out M1.out (.int .u32 0) (.int .i64 0) (.int .u32 0) (.bool false) (.int .i64 2) (.int .i64 1) (.slice (some ⟨w3.heap.size, 0, none⟩) 2 2))
      clear hb4 hb4'
      have m0 := M0.out.cell 0
      have m1 := M0.out.cell 1
      have m2 := M0.out.cell 2
      have m3 := M0.out.cell 3
      have n0 := M1.out.cell 0
      have n1 := M1.out.cell 1
      have n2 := M1.out.cell 2
      have k0 := M0.out.free 0
      have k1 := M0.out.free 1
      have k2 := M0.out.free 2
      have k3 := M0.out.free 3
      have j0 := M1.out.free 0
      have j1 := M1.out.free 1
      have j2 := M1.out.free 2
      simp at m0 m1 m2 m3 n0 n1 n2
      go_wp2_with fail
      refine bodyPost_ret (results_cell_row2 rfl _ _ w.heap.size (w.heap.size + 1) 52 55 #[.int .u32 0, .int .i64 0, .int .u32 0, .bool false] #[.int .i64 2, .int .i64 1, .slice (some ⟨w3.heap.size, 0, none⟩) 2 2] (0, 0) (0, 0) _ _ rfl HW.out.1 Try.underlying52 rfl info_open rfl HW.out.2.1 Try.underlying55 rfl info_notice) rfl ?_
      unfold OpenPost
      rw [Hod.out]
      refine ⟨some ⟨w3.heap.size, 0, none⟩, 2, rfl, (fun h => by cases h), ?_, HB4.out.trans HW.out.2.2⟩
      have hx := (bs_far (bs_far (bs_far (bs_far (bs_far (bs_far (bs_far HBS4.out (p := ⟨w.heap.size, 0, none⟩) (by simp; omega) (.int .u32 0)) (p := ⟨w.heap.size, 1, none⟩) (by simp; omega) (.int .i64 0)) (p := ⟨w.heap.size, 2, none⟩) (by simp; omega) (.int .u32 0)) (p := ⟨w.heap.size, 3, none⟩) (by simp; omega) (.bool false)) (p := ⟨w.heap.size + 1, 0, none⟩) (by simp; omega) (.int .i64 2)) (p := ⟨w.heap.size + 1, 1, none⟩) (by simp; omega) (.int .i64 1)) (p := ⟨w.heap.size + 1, 2, none⟩) (by simp; omega) (.slice (some ⟨w3.heap.size, 0, none⟩) 2 2))
      exact hx.more (by simpa [World.setCell] using HL4.out)
    · have d : (sb == 1) = false := by simpa using hs1
      have e0 : (if sb = 1 then ([0, 4] : List UInt8) else []) = [] := if_neg hs1
      rw [e0] at Hod
      clear e0 m0 m1 m2 m3 n0 n1 n2 k0 k1 k2 k3 j0 j1 j2
      go_wp2_with fail
      refine (wrong_any sb _ 0 0 _).mono ?_; rintro e w4 ⟨rfl, hb4⟩
      have M0 := Lib.hid (M0.out.below hb4 M0.out.lt)
      have M1 := Lib.hid (M1.out.below hb4 M1.out.lt)
      have HB4 := Lib.hid (HB3.out.trans (hb4.mono HB3.out.size))
      have hz4 : w.heap.size + 3 ≤ w4.heap.size := Nat.le_trans hz3 hb4.size
      have HW := Lib.hid (wr7_end M0.out M1.out (.int .u32 0) (.int .i64 0) (.int .u32 0) (.bool false) (.int .i64 2) (.int .i64 sb) (.slice none 0 0))
      clear hb4
      have m0 := M0.out.cell 0
      have m1 := M0.out.cell 1
      have m2 := M0.out.cell 2
      have m3 := M0.out.cell 3
      have n0 := M1.out.cell 0
      have n1 := M1.out.cell 1
      have n2 := M1.out.cell 2
      have k0 := M0.out.free 0
      have k1 := M0.out.free 1
      have k2 := M0.out.free 2
      have k3 := M0.out.free 3
      have j0 := M1.out.free 0
      have j1 := M1.out.free 1
      have j2 := M1.out.free 2
      simp at m0 m1 m2 m3 n0 n1 n2
      go_wp2_with fail
      refine bodyPost_ret (results_cell_row2 rfl _ _ w.heap.size (w.heap.size + 1) 52 55 #[.int .u32 0, .int .i64 0, .int .u32 0, .bool false] #[.int .i64 2, .int .i64 sb, .slice none 0 0] (0, 0) (0, 0) _ _ rfl HW.out.1 Try.underlying52 rfl info_open rfl HW.out.2.1 Try.underlying55 rfl info_notice) rfl ?_
      unfold OpenPost
      rw [Hod.out]
      exact ⟨none, 0, rfl, fun _ => rfl, Rd.nil _ _ _ _, HB4.out.trans HW.out.2.2⟩
end Go.Proofs.Ytajilbapjpfloaa.openk
