/- Which messages the reference finds. Condition: at most 2^39 bytes. -/
import Derived.Test.YthoclemgiopjpaaFrameHead
import Derived.RegionTactic
import Derived.ChangeAlike
import Derived.IntWalk
namespace Go.Proofs.Ythoclemgiopjpaa.frame
open Go.RowKit Go.Proofs.Ythoclemgiopjpaa.kit Go.Proofs.Ythoclemgiopjpaa.mem Go.Proofs.Ythoclemgiopjpaa.foot Go.Proofs.Ythoclemgiopjpaa.octet
set_option linter.unusedVariables false
set_option linter.unusedSimpArgs false

theorem results_ttc {P : Program} {fn : Func} {p m n : Tmp} {ty : TypeId} (h : fn.results = #[.tmp m, .tmp n, .cell p ty]) (tmps : Array Value) (w : World) (g : Nat) (t : TypeId) (v u : Value) (cs : Array Value) (fr : Nat × Nat) (d : TypeDesc)
    (hm : tmps.getD m undef = v) (hn : tmps.getD n undef = u) (hp : tmps.getD p undef = .pointer (some ⟨g, 0, none⟩)) (hg : w.heap[g]? = some (.cells cs t fr))
    (hu : P.underlying ty = some d) (hd : (match d with | .struct _ | .array _ _ => true | _ => false) = true) (hi : (P.info? ty).map (·.size) = some cs.size) :
    (results fn tmps).run P w = .ok (.tuple #[v, u, .agg cs]) w := by
  have hp' : tmps[p]?.getD undef = .pointer (some ⟨g, 0, none⟩) := by simpa using hp
  have hm' : tmps[m]?.getD undef = v := by simpa using hm
  have hn' : tmps[n]?.getD undef = u := by simpa using hn
  simp [results, h, hp', hm', hn', asAddr, run_loadVar_row w g t ty cs fr d hg hu hd hi]

theorem info_piece : (Try.prog.info? 85).map (fun i => (i.zero, i.size, i.bytes)) = some (some (.agg #[.int .i64 0, .slice none 0 0]), 2, 32) := by kernel_rfl

/-- what the reference hands back -/
def PiecesP (l : List UInt8) (w : World) (e : Ending) (w' : World) : Prop :=
  ∃ A c At ct, e = .returned (.tuple #[.slice A (feed l).1.length c, .int .i64 (endOf l : Int), .agg #[.int .i64 (ntOf (feed l).2.2).1, .int .i64 (ntOf (feed l).2.2).2.1, .slice At (ntOf (feed l).2.2).2.2.length ct]]) ∧
    (A = none → c = 0) ∧ (At = none → ct = 0) ∧ Bs w' w'.heap.size At (ntOf (feed l).2.2).2.2 ∧ Els 2 rFr w' (fun _ => True) A (frs (feed l).1) ∧ Below w.heap.size w w'

/-- so far -/
structure PJ (l : List UInt8) (w : World) (k : Nat) (out : List (Nat × List UInt8)) (A : Option Addr) (c : Nat) (vs : List Value) (wr : World) : Prop where
  own : Own wr 85 2 A out.length c vs
  all : rAll rFr wr (fun b => b < w.heap.size) vs (frs out)
  low : ∀ b, sf A b → w.heap.size < b
  rz : Bk wr w.heap.size 53 #[.int .i64 0, .int .i64 0, .slice none 0 0]
  bel : Below w.heap.size w wr
  eq : feed l = (out ++ (feed (l.drop k)).1, (feed (l.drop k)).2.1, (feed (l.drop k)).2.2)
  len : out.length ≤ k
  le : k ≤ l.length
section
variable {l : List UInt8} {w wr w3 : World} {k : Nat} {out : List (Nat × List UInt8)} {A : Option Addr} {c : Nat} {vs : List Value}
theorem PJ.grow (h : PJ l w k out A c vs wr) (hb : Below wr.heap.size wr w3) : PJ l w k out A c vs w3 :=
  ⟨h.own.bel hb, h.all.chg keeps_fr (F := fun _ => False) (Chg.of_below hb _) fun _ _ _ e => e, h.low, h.rz.below hb h.rz.lt, h.bel.trans (hb.mono h.bel.size), h.eq, h.len, h.le⟩
theorem PJ.fin {n : Option Nt} {At : Option Addr} {ct : Nat} (h : PJ l w k out A c vs w3) (hx : feed (l.drop k) = ([], l.drop k, n)) (hA : At = none → ct = 0) (hs : Bs w3 w3.heap.size At (ntOf n).2.2) (hne : ∀ ad, At = some ad → ad.block ≠ w.heap.size) (W : World)
    (hW : W = ((w3.setCell ⟨w.heap.size, 0, none⟩ (.int .i64 (ntOf n).1)).setCell ⟨w.heap.size, 1, none⟩ (.int .i64 (ntOf n).2.1)).setCell ⟨w.heap.size, 2, none⟩ (.slice At (ntOf n).2.2.length ct)) :
    W.heap[w.heap.size]? = some (.cells #[.int .i64 (ntOf n).1, .int .i64 (ntOf n).2.1, .slice At (ntOf n).2.2.length ct] 53 (0, 0)) ∧
    PiecesP l w (.returned (.tuple #[.slice A out.length c, .int .i64 (k : Int), .agg #[.int .i64 (ntOf n).1, .int .i64 (ntOf n).2.1, .slice At (ntOf n).2.2.length ct]])) W := by
  have hk4 := ((h.rz.put 0 (.int .i64 (ntOf n).1)).put 1 (.int .i64 (ntOf n).2.1)).put 2 (.slice At (ntOf n).2.2.length ct)
  have c4 : Chg (fun k => k = w.heap.size) w3 W := by
    rw [hW]
    exact (((Chg.refl (fun k => k = w.heap.size) w3).put (p := ⟨w.heap.size, 0, none⟩) (.inl rfl) _).put (p := ⟨w.heap.size, 1, none⟩) (.inl rfl) _).put (p := ⟨w.heap.size, 2, none⟩) (.inl rfl) _
  rw [← hW] at hk4
  have he : feed l = (out, l.drop k, n) := by rw [h.eq, hx]; simp
  have hend : endOf l = k := by
    have := h.le
    unfold endOf; rw [he]; simp; omega
  refine ⟨by simpa [Bk] using hk4, ?_⟩
  unfold PiecesP
  rw [he, hend]
  refine ⟨A, c, At, ct, rfl, h.own.nil, hA, ?_, ⟨vs, ?_, ?_⟩, ?_⟩
  · exact (Rg.chg (Rg.of_rd (G := fun b => b ≠ w.heap.size) hs (Nat.le_refl _) hne) c4 fun k _ h e => h e).rd
  · rw [frs_len]
    exact (h.own.chg c4 fun k _ hk e => by have := h.low k hk; have e' : k = w.heap.size := e; omega).rg.mono fun _ _ _ => trivial
  · exact (h.all.chg keeps_fr c4 fun k _ hk e => by have e' : k = w.heap.size := e; omega).mono keeps_fr fun _ _ _ => trivial
  · exact h.bel.trans (c4.below (fun k e => by have e' : k = w.heap.size := e; omega) h.bel.size)
theorem PiecesP.bel {e : Ending} {V W : World} (h : PiecesP l w e V) (hb : Below V.heap.size V W) : PiecesP l w e W := by
  obtain ⟨A, c, At, ct, he, h1, h2, h3, h4, h5⟩ := h
  exact ⟨A, c, At, ct, he, h1, h2, (h3.below hb (Nat.le_refl _)).more hb.size, h4.bel keeps_fr hb, h5.trans (hb.mono h5.size)⟩
/-- .. and more memory was made -/
theorem PJ.fin2 {n : Option Nt} {At : Option Addr} {ct : Nat} (h : PJ l w k out A c vs w3) (hx : feed (l.drop k) = ([], l.drop k, n)) (hA : At = none → ct = 0) (hs : Bs w3 w3.heap.size At (ntOf n).2.2) (hne : ∀ ad, At = some ad → ad.block ≠ w.heap.size) (V W : World)
    (hV : V = ((w3.setCell ⟨w.heap.size, 0, none⟩ (.int .i64 (ntOf n).1)).setCell ⟨w.heap.size, 1, none⟩ (.int .i64 (ntOf n).2.1)).setCell ⟨w.heap.size, 2, none⟩ (.slice At (ntOf n).2.2.length ct)) (hW : Below V.heap.size V W) :
    W.heap[w.heap.size]? = some (.cells #[.int .i64 (ntOf n).1, .int .i64 (ntOf n).2.1, .slice At (ntOf n).2.2.length ct] 53 (0, 0)) ∧
    PiecesP l w (.returned (.tuple #[.slice A out.length c, .int .i64 (k : Int), .agg #[.int .i64 (ntOf n).1, .int .i64 (ntOf n).2.1, .slice At (ntOf n).2.2.length ct]])) W := by
  obtain ⟨g1, g2⟩ := h.fin hx hA hs hne V hV
  have g1 : Bk V w.heap.size _ _ := g1
  exact ⟨g1.below hW g1.lt, g2.bel hW⟩
/-- one message more -/
theorem PJ.next {A4 : Option Addr} {c4 cb g off n : Nat} {kind : Nat} {body rest : List UInt8} (hnn : n = hlen (l.drop k)) (h : PJ l w k out A c vs wr) (hn : nextF (l.drop k) = .got kind body rest) (hb : Below wr.heap.size wr w3) {w5 : World}
    (hc : body.length ≤ cb) (hm : cb ≤ maxLen) (hg : g < w.heap.size) (hr : ∀ w', Below w.heap.size w w' → Bs w' w.heap.size (some ⟨g, off, none⟩) body)
    (ho : Own w5 85 2 A4 (out.length + 1) c4 (vs ++ [.int .i64 kind, .slice (some ⟨g, off, none⟩) body.length cb])) (hc5 : Chg (sf A) w3 w5) (hf5 : Fresh w3 (sf A) (sf A4)) :
    PJ l w (k + n) (out ++ [(kind, body)]) A4 c4 (vs ++ [.int .i64 kind, .slice (some ⟨g, off, none⟩) body.length cb]) w5 := by
  subst hnn
  have g3 := h.grow hb
  have hgot := nextF_got hn
  have hA : ∀ k, sf A k → w.heap.size < k := h.low
  have hbel : Below w.heap.size w w5 := g3.bel.trans (hc5.below (fun k e => Nat.le_of_lt (hA k e)) g3.bel.size)
  refine ⟨by rw [List.length_append]; exact ho, ?_, fun b hb' => ?_, g3.rz.chg hc5 fun e => by have := hA _ e; omega, hbel, feed_at_got h.eq hn, by have := h.len; simp; omega, by have := h.le; have := hgot.2.2.2.2.1; simp at this; omega⟩
  · rw [frs_app]
    refine rAll.app (g3.all.chg keeps_fr hc5 fun k _ hk e => by have := hA k e; omega) (rAll.single ⟨[.int .i64 kind], [.slice (some ⟨g, off, none⟩) body.length cb], rfl, ⟨rfl, ?_⟩, some ⟨g, off, none⟩, cb, rfl, (fun h => by cases h), hc, hm, ?_⟩)
    · have := hkind_lt (l.drop k)
      have := hgot.2.2.2.2.2.1
      simp [Lit.wf, IntKind.min, IntKind.max, IntKind.signed, IntKind.bits]; omega
    · exact Rg.of_rd (hr _ hbel) hbel.size (fun ad e => by cases e; exact hg)
  · rcases hf5 b hb' with e | e
    · exact hA b e
    · have := hb.size; have := h.rz.lt; omega
end

theorem run_cut_end (g off n : Nat) (x : Int) (hx : x = (n : Int)) (hm : n ≤ maxLen) (w : World) :
    (Instr.slice 23 (.slice (some ⟨g, off, none⟩) n n) (some (.int .i64 x)) (some (.int .i64 x)) none).run Try.prog w = .ok (.slice (some ⟨g, off, none⟩) 0 0) w := by
  unfold maxLen at hm
  subst hx
  go_simp
theorem bs_low {w : World} {B B' g off : Nat} {l : List UInt8} (h : Bs w B (some ⟨g, off, none⟩) l) (hg : g < B') : Bs w B' (some ⟨g, off, none⟩) l := by
  refine ⟨h.1, fun hn => ?_⟩
  obtain ⟨b, o, e, _, hc⟩ := h.2 hn
  refine ⟨b, o, e, ?_, hc⟩
  cases e; exact hg
theorem run_cut (g off n c lo hi : Nat) (x y : Int) (hx : x = (lo : Int)) (hy : y = (hi : Int)) (h1 : lo ≤ hi) (h2 : hi ≤ n) (h3 : lo < c) (hc : n ≤ c) (hm : c ≤ maxLen) (w : World) :
    (Instr.slice 23 (.slice (some ⟨g, off, none⟩) n c) (some (.int .i64 x)) (some (.int .i64 y)) none).run Try.prog w = .ok (.slice (some ⟨g, off + lo, none⟩) (hi - lo) (c - lo)) w := by
  unfold maxLen at hm
  subst hx hy
  have a1 : (lo : Int) ≤ (hi : Int) := by omega
  have a2 : (hi : Int) ≤ (c : Int) := by omega
  have a3 : ¬ c = lo := by omega
  have a4 : c - lo ≠ 0 := by omega
  go_simp
  try (intro h; omega)

set_option maxRecDepth 100000 in
set_option maxHeartbeats 2000000 in
theorem Pieces_any (A0 : Option Addr) (c0 B : Nat) (l : List UInt8) (w : World) (hl : l.length ≤ 549755813888) (hA : A0 = none → c0 = 0) (hc : l.length ≤ c0) (hm : c0 ≤ maxLen) (hB : B ≤ w.heap.size) (hs : Bs w B A0 l) :
    Calls Try.prog 28 #[.slice A0 l.length c0] w (PiecesP l w) := by
  obtain ⟨i0, hi, hz0, hz1, hz2⟩ := info_parts info_piece
  have Hi := Lib.hid hi
  have Hz0 := Lib.hid hz0
  have Hz1 := Lib.hid hz1
  have Hz2 := Lib.hid hz2
  have HJ0 : Hid (PJ l w 0 [] (some ⟨w.heap.size + 1, 0, none⟩) 0 [] ((w.alloc (.cells #[.int .i64 0, .int .i64 0, .slice none 0 0] 53)).alloc (.cells #[] 85))) := by
    refine ⟨?_, rfl, fun b hb => by rw [sf_some] at hb; have hb' : w.heap.size + 1 = b := hb; omega, (Bk.new w _ _).alloc _, ((Below.refl _ _).alloc (Nat.le_refl _) _).alloc (by simp) _, by simp, by simp, by simp⟩
    have := Own.made (w.alloc (.cells #[.int .i64 0, .int .i64 0, .slice none 0 0] 53)) 85 2 0 0 #[] [] (Nat.le_refl _) (Nat.zero_le _) rfl rfl rfl
    simpa using this
  have HS := Lib.hid hs
  clear hi hz0 hz1 hz2 hs
  unfold maxLen at hm
  go_enter Try.func28, Try.ntmps28
  go_wp2_with fail
  go_loopw [5, 6, 7, 8] (fun o i _ _ wr => ∃ (k : Nat) (out : List (Nat × List UInt8)) (A : Option Addr) (c : Nat) (vs : List Value), i = .int .i64 k ∧ o = .slice A out.length c ∧ PJ l w k out A c vs wr) (fun _ i _ _ _ => l.length - (intOf i).toNat)
  case atStart => exact ⟨0, [], _, 0, [], rfl, rfl, HJ0.out⟩
  case round =>
    obtain ⟨k, out, A, c, vs, rfl, rfl, hJ⟩ := hrel
    have HJ := Lib.hid hJ
    have hkl := hJ.le
    have hkl2 : (k : Int) ≤ 549755813888 := by omega
    have hout := hJ.len
    have hout2 : out.length ≤ 549755813888 := by omega
    clear hJ HJ0
    by_cases hlt : k + 19 ≤ l.length
    · have d1 : decide ((k : Int) + 19 ≤ (l.length : Int)) = true := by simp; omega
      obtain ⟨g, off, rfl, hgB, _⟩ := HS.out.2 (by omega)
      have hg : g < w.heap.size := by omega
      have hs1 := run_cut g off l.length c0 k (k + 19) k (k + 19) rfl (by omega) (by omega) hlt (by omega) hc (by unfold maxLen; omega)
      have hs2 := run_cut g off l.length c0 (k + 16) (k + 18) ((k : Int) + 16) ((k : Int) + 18) (by omega) (by omega) (by omega) (by omega) (by omega) hc (by unfold maxLen; omega)
      have e19 : k + 19 - k = 19 := by omega
      have e2 : k + 18 - (k + 16) = 2 := by omega
      rw [e19] at hs1
      rw [e2] at hs2
      have HRw : Hid (∀ (lo hi : Nat) (w' : World), lo ≤ hi → hi ≤ l.length → Below w.heap.size w w' → Rg w' (fun b => b < w.heap.size) 1 (some ⟨g, off + lo, none⟩) (hi - lo) (bv ((l.drop lo).take (hi - lo)))) := fun lo hi w' h1 h2 hb' =>
        rg_part (Rg.of_rd (HS.out.below hb' hB) (Nat.le_trans hB hb'.size) (fun ad e => by cases e; exact hg)) lo hi h1 h2
      have hl19 : ((l.drop k).take 19).length = 19 := by simp; omega
      have HH : Hid (Calls Try.prog 45 #[.slice (some ⟨g, off + k, none⟩) 19 (c0 - k)] wr (HeadP g ((l.drop k).take 19) wr)) := by
        have := HRw.out k (k + 19) wr (by omega) hlt HJ.out.bel
        rw [e19] at this
        exact Head_any g (off + k) (c0 - k) _ _ wr hl19 (by omega) (by unfold maxLen; omega) (by rw [hl19]; exact this)
      have HHe : Hid (hbad ((l.drop k).take 19) = hbad (l.drop k)) := hbad_take _
      have HLen : Hid (hlen (l.drop k) = num ((l.drop (k + 16)).take 2)) := by rw [Hid]; unfold hlen; rw [List.drop_drop]
      have HCs := Lib.hid (nextF_cases (s := l.drop k) (by simp; omega))
      have hn16 := hlen_lt (l.drop k)
      have HHl := Lib.hid hl19
      clear hl19 e19 e2
      go_wp2_with fail
      refine HH.out.mono ?_; rintro e w1 ⟨At, ct, rfl, a1, a2, a3, a4, a5, a6⟩
      rw [HHe.out] at a2 a4 ⊢
      have HJ1 := Lib.hid (HJ.out.grow a6)
      have q0 := HJ1.out.rz.cell 0
      have q1 := HJ1.out.rz.cell 1
      have q2 := HJ1.out.rz.cell 2
      have qf := fun i => HJ1.out.rz.free i
      have ql := HJ1.out.rz.lt
      simp at q0 q1 q2
      have HA1 := Lib.hid a1
      have HA4 := Lib.hid (a4.more a6.size)
      have HA5 := Lib.hid a5
      have HA6 := Lib.hid a6
      clear a1 a2 a3 a4 a5 a6 HH HHe
      rcases HCs.out with ⟨c1, c2⟩ | ⟨c1, c3, c2⟩ | ⟨c1, c3, c2⟩
      case' inl =>
        have HX := Lib.hid (feed_bad c2)
        generalize hbad (l.drop k) = t at *
        obtain ⟨tc, ts, td⟩ := t
        have d2 : (tc != 0) = true := by rw [bne_iff_ne]; exact c1
        clear c1 c2 HCs
        go_wp2_with fail
        go_region
        all_goals
          go_wp2_with fail
          obtain ⟨g1, g2⟩ := PJ.fin2 (n := some (tc, ts, td)) HJ1.out HX.out HA1.out HA4.out (fun ad e => by have := HA5.out ad e; omega) _ _ rfl (((Below.refl _ _).alloc (Nat.le_refl _) _).drew)
          exact bodyPost_ret (results_ttc rfl _ _ w.heap.size 53 (.slice A out.length c) (.int .i64 k) _ (0, 0) _ rfl rfl rfl g1 Try.underlying53 rfl info_notice) rfl g2
      case' inr.inl =>
        obtain ⟨ct', c4, c5⟩ := hbad_ok c1
        rw [ct']
        have HX := Lib.hid (feed_wait c2)
        have HNum : Hid (∀ (w' : World), Below w.heap.size w w' → Calls Try.prog 46 #[.slice (some ⟨g, off + (k + 16), none⟩) 2 (c0 - (k + 16))] w' fun e w'' => e = .returned (.int .u32 (hlen (l.drop k) : Int)) ∧ w' = w'') := fun w' hb' => by
          have h1 := HRw.out (k + 16) (k + 18) w' (by omega) (by omega) hb'
          rw [show k + 18 - (k + 16) = 2 from by omega] at h1
          have h2 : ((l.drop (k + 16)).take 2).length = 2 := by simp; omega
          have := Num_any (some ⟨g, off + (k + 16), none⟩) (c0 - (k + 16)) w'.heap.size ((l.drop (k + 16)).take 2) w' (by omega) (bs_of h1.rd h2)
          rw [h2, ← HLen.out] at this
          exact this
        have HNu := Lib.hid (HNum.out (w1.alloc (.cells #[.int .i64 0, .int .i64 0, .slice At 0 ct] 53)) (HJ1.out.bel.trans ((Below.refl _ _).alloc HJ1.out.bel.size _)))
        have d4 : decide ((l.length : Int) < (k : Int) + (hlen (l.drop k) : Int)) = true := by simp at c3 ⊢; omega
        generalize hlen (l.drop k) = n at *
        clear c1 c2 c3 HCs ct' HNum
        go_wp2_with fail
        refine HNu.out.mono ?_; rintro e w' ⟨rfl, rfl⟩
        go_wp2_with fail
        obtain ⟨g1, g2⟩ := PJ.fin2 (n := none) (At := none) (ct := 0) HJ1.out HX.out (fun _ => rfl) (Rd.nil _ _ _ _) (fun _ h => by cases h) _ _ rfl ((Below.refl _ _).alloc (Nat.le_refl _) (.cells #[.int .i64 0, .int .i64 0, .slice At 0 ct] 53))
        exact bodyPost_ret (results_ttc rfl _ _ w.heap.size 53 (.slice A out.length c) (.int .i64 k) _ (0, 0) _ rfl rfl rfl g1 Try.underlying53 rfl info_notice) rfl g2
      case' inr.inr =>
        obtain ⟨ct', c4, c5⟩ := hbad_ok c1
        rw [ct']
        have hkd8 := hkind_lt (l.drop k)
        have hlt18 : k + 18 < l.length := by omega
        have HKd : Hid (((l[k + 18]).toNat : Int) = (hkind (l.drop k) : Int)) := by
          have h1 : ((l.drop k).drop 18).take 1 = [l[k + 18]] := by rw [List.drop_drop, List.drop_eq_getElem_cons hlt18]; rfl
          rw [Hid]; unfold hkind; rw [h1]; simp [num]
        have HNum : Hid (∀ (w' : World), Below w.heap.size w w' → Calls Try.prog 46 #[.slice (some ⟨g, off + (k + 16), none⟩) 2 (c0 - (k + 16))] w' fun e w'' => e = .returned (.int .u32 (hlen (l.drop k) : Int)) ∧ w' = w'') := fun w' hb' => by
          have h1 := HRw.out (k + 16) (k + 18) w' (by omega) (by omega) hb'
          rw [show k + 18 - (k + 16) = 2 from by omega] at h1
          have h2 : ((l.drop (k + 16)).take 2).length = 2 := by simp; omega
          have := Num_any (some ⟨g, off + (k + 16), none⟩) (c0 - (k + 16)) w'.heap.size ((l.drop (k + 16)).take 2) w' (by omega) (bs_of h1.rd h2)
          rw [h2, ← HLen.out] at this
          exact this
        have hbN : Below w1.heap.size w1 (w1.alloc (.cells #[.int .i64 0, .int .i64 0, .slice At 0 ct] 53)) := (Below.refl _ _).alloc (Nat.le_refl _) _
        have HBN := Lib.hid (HJ1.out.bel.trans (hbN.mono HJ1.out.bel.size))
        have HNu := Lib.hid (HNum.out _ HBN.out)
        have d4 : decide ((l.length : Int) < (k : Int) + (hlen (l.drop k) : Int)) = false := by simp at c3 ⊢; omega
        have hc18 : w1.cell? ⟨g, off + (k + 18), none⟩ = some (.int .u8 (hkind (l.drop k) : Int)) := by
          have h1 := HRw.out (k + 18) (k + 19) w1 (by omega) (by omega) HJ1.out.bel
          obtain ⟨b', o', e, _, _, h⟩ := h1.2 (by omega)
          cases e
          have h2 := h 0 (.int .u8 (l[k + 18].toNat : Int)) (by rw [List.drop_eq_getElem_cons hlt18, show k + 19 - (k + 18) = 1 from by omega]; rfl)
          rw [HKd.out] at h2
          exact h2
        have hle : k + hlen (l.drop k) ≤ l.length := by simp at c3; omega
        have HG := Lib.hid c2
        obtain ⟨o', cb, hs3, hcb1, hcb2, hcb3⟩ : ∃ o' cb, (∀ w', (Instr.slice 23 (.slice (some ⟨g, off, none⟩) l.length c0) (some (.int .i64 ((k : Int) + 19))) (some (.int .i64 ((k : Int) + (hlen (l.drop k) : Int)))) none).run Try.prog w' = .ok (.slice (some ⟨g, o', none⟩) (hlen (l.drop k) - 19) cb) w') ∧
            hlen (l.drop k) - 19 ≤ cb ∧ cb ≤ 9223372036854775807 ∧ ∀ (w' : World) (B : Nat) (x : List UInt8), x.length = hlen (l.drop k) - 19 → Bs w' B (some ⟨g, off + (k + 19), none⟩) x → Bs w' B (some ⟨g, o', none⟩) x := by
          by_cases hz : k + 19 < c0
          · refine ⟨off + (k + 19), c0 - (k + 19), ?_, by omega, by omega, fun _ _ _ _ h => h⟩
            have := run_cut g off l.length c0 (k + 19) (k + hlen (l.drop k)) ((k : Int) + 19) ((k : Int) + (hlen (l.drop k) : Int)) (by omega) (by omega) (by omega) hle hz hc (by unfold maxLen; omega)
            rw [show k + hlen (l.drop k) - (k + 19) = hlen (l.drop k) - 19 from by omega] at this
            exact this
          · have z1 : c0 = k + 19 := by omega
            have z2 : hlen (l.drop k) = 19 := by omega
            refine ⟨off, 0, fun w' => ?_, by omega, by omega, fun w' B x hx _ => ?_⟩
            · rw [z2]
              have z3 : l.length = k + 19 := by omega
              rw [z3, z1]
              exact run_cut_end g off (k + 19) ((k : Int) + 19) (by omega) (by unfold maxLen; omega) w'
            · have : x = [] := List.eq_nil_of_length_eq_zero (by omega)
              subst this
              exact Rd.nil _ _ _ _
        have HBody : Hid ((((l.drop k).drop 19).take (hlen (l.drop k) - 19)).length = hlen (l.drop k) - 19) := by rw [Hid]; simp; omega
        generalize hq1 : hlen (l.drop k) = n at *
        generalize hkind (l.drop k) = kd at *
        have HNN := Lib.hid hq1
        have HCB := Lib.hid hcb3
        clear hcb3
        clear hq1
        have hk18 : (0 : Int) ≤ (k : Int) + 18 := by omega
        have hk18b : (k : Int) + 18 < (l.length : Int) := by omega
        have hgw : g < w1.heap.size := by have := HJ1.out.bel.size; omega
        clear c1 c2 c3 HCs ct' HNum hbN HKd
        have v1 : IntKind.i64.wrap ((k : Int) + 18) = (k : Int) + 18 := IntWalk.i64_in _ (by omega)
        have v2 : IntKind.i64.wrap ((k : Int) + 19) = (k : Int) + 19 := IntWalk.i64_in _ (by omega)
        have v3 : IntKind.i64.wrap ((k : Int) + (n : Int)) = (k : Int) + (n : Int) := IntWalk.i64_in _ (by omega)
        have v4 : ((k : Int) + 18).toNat = k + 18 := by omega
        have v5 : IntKind.i64.wrap (kd : Int) = (kd : Int) := IntWalk.i64_in _ (by omega)
        have HO4 : Hid (∀ (N P : Obj), Own ((w1.alloc N).alloc P) 85 2 A out.length c vs) := fun N P => (HJ1.out.grow (((Below.refl _ _).alloc (Nat.le_refl _) N).alloc (by simp) P)).own
        have HR4 : Hid (∀ N, Rg ((w1.alloc N).alloc (.cells #[.int .i64 kd, .slice (some ⟨g, o', none⟩) (n - 19) cb] 85)) (fun _ => True) 2 (some ⟨w1.heap.size + 1, 0, none⟩) 1 [.int .i64 kd, .slice (some ⟨g, o', none⟩) (n - 19) cb]) := fun N => by
          have := Rg.new (w1.alloc N) 85 2 1 #[.int .i64 kd, .slice (some ⟨g, o', none⟩) (n - 19) cb] rfl
          simpa [Hid] using this.mono (H := fun _ => True) fun _ _ _ => trivial
        have HBB : Hid (∀ N P : Obj, Below w1.heap.size w1 ((w1.alloc N).alloc P)) := fun N P => ((Below.refl _ _).alloc (Nat.le_refl _) N).alloc (by simp) P
        have HC18 := Lib.hid hc18
        have HNx : Hid (∀ {A4 : Option Addr} {c4 : Nat} {w5 : World} (W4 : World), Below w1.heap.size w1 W4 → Own w5 85 2 A4 (out.length + 1) c4 (vs ++ [.int .i64 kd, .slice (some ⟨g, o', none⟩) (n - 19) cb]) → Chg (sf A) W4 w5 → Fresh W4 (sf A) (sf A4) →
            w5.cell? ⟨g, off + (k + 18), none⟩ = some (.int .u8 (kd : Int)) ∧ PJ l w (k + n) (out ++ [(kd, ((l.drop k).drop 19).take (n - 19))]) A4 c4 (vs ++ [.int .i64 kd, .slice (some ⟨g, o', none⟩) (n - 19) cb]) w5) := fun {A4 c4 w5} W4 hb4 ho hc hf => by
          refine ⟨?_, ?_⟩
          · rw [World.cell?_of_block (w := w1) ((hc.block g (Nat.lt_of_lt_of_le hgw hb4.size) fun e => by have := HJ1.out.low g e; omega).trans (hb4.block g hgw))]
            exact HC18.out
          · have := PJ.next (n := n) HNN.out.symm (w3 := W4) (w5 := w5) (A4 := A4) (c4 := c4) (cb := cb) (g := g) (off := o') HJ1.out HG.out hb4 (by rw [HBody.out]; omega) (by unfold maxLen; omega) hg (fun w' hb' => by
              have h1 := HRw.out (k + 19) (k + n) w' (by omega) (by omega) hb'
              rw [show k + n - (k + 19) = n - 19 from by omega, ← List.drop_drop] at h1
              have h2 := HCB.out _ _ _ HBody.out (bs_of h1.rd HBody.out)
              exact bs_low h2 hg) (by rw [HBody.out]; exact ho) hc hf
            rw [HBody.out] at this
            exact this
        go_wp2_with fail
        refine HNu.out.mono ?_; rintro e w' ⟨rfl, rfl⟩
        go_wp2_with fail
        go_region_held3 (fun w' => w'.cell? ⟨g, off + (k + 18), none⟩ = some (.int .u8 (kd : Int))) (go_keep) ((refine step_app _ (by rfl) (.tmp 44) (.tmp 59) _ (by rfl) 85 i0 _ 2 32 Try.underlying56 Hi.out Hz0.out Hz1.out Hz2.out rfl (by omega) A out.length c vs (by rfl) (by exact HO4.out _ _) _ (some ⟨w1.heap.size + 1, 0, none⟩) 1 1 (by intro h; cases h) [.int .i64 kd, .slice (some ⟨g, o', none⟩) (n - 19) cb] (by rfl) (by exact HR4.out _) (by intro u hu; simp at hu; rcases hu with rfl | rfl <;> rfl) (by unfold maxLen; omega) (by omega) ?_; intro A4 c4 w5 ho5 hc5 hf5; clear hc18; go_must (obtain ⟨hc18, hpj⟩ := HNx.out _ (by first | exact HBB.out _ _ | exact (HBB.out _ _).drew) ho5 hc5 hf5); go_must (have HPJ := Lib.hid hpj); clear ho5 hc5 hf5 hpj))
        go_wp2_with fail
        go_roundw
        case measure => simp [intOf]; omega
        case rel => exact ⟨k + n, _, A4, c4, _, by go_num, by rw [List.length_append]; rfl, HPJ.out⟩
    · have d1 : decide ((k : Int) + 19 ≤ (l.length : Int)) = false := by simp; omega
      have HX : Hid (feed (l.drop k) = ([], l.drop k, none)) := feed_wait (nextF_short (by simp; omega))
      have q0 := HJ.out.rz.cell 0
      have q1 := HJ.out.rz.cell 1
      have q2 := HJ.out.rz.cell 2
      have qf := fun i => HJ.out.rz.free i
      have ql := HJ.out.rz.lt
      simp at q0 q1 q2
      go_wp2_with fail
      obtain ⟨g1, g2⟩ := PJ.fin (At := none) (ct := 0) HJ.out HX.out (fun _ => rfl) (Rd.nil _ _ _ _) (fun _ h => by cases h) _ rfl
      exact bodyPost_ret (results_ttc rfl _ _ w.heap.size 53 (.slice A out.length c) (.int .i64 k) _ (0, 0) _ rfl rfl rfl g1 Try.underlying53 rfl info_notice) rfl g2
end Go.Proofs.Ythoclemgiopjpaa.frame
