/- What confluencelaw12.same and frame.Split return. Condition: at most 2^39 bytes. -/
import Derived.Test.YthoclemgiopjpaaFramePieces
import Derived.Deep.QuietTactic
import Derived.BigQuiet
namespace Go.Proofs.Ythoclemgiopjpaa.frame
open Go.RowKit Go.Proofs.Ythoclemgiopjpaa.kit Go.Proofs.Ythoclemgiopjpaa.mem Go.Proofs.Ythoclemgiopjpaa.foot Go.Proofs.Ythoclemgiopjpaa.octet
set_option linter.unusedVariables false
set_option linter.unusedSimpArgs false

set_option maxHeartbeats 1000000 in
theorem same_yes (A A' : Option Addr) (c c' : Nat) (l : List (Int × List UInt8)) (G G' : Foot) (w : World) (hl : l.length ≤ maxLen) (h : Els 2 rFr w G A l) (h' : Els 2 rFr w G' A' l) :
    Calls Try.prog 29 #[.slice A l.length c, .slice A' l.length c'] w fun e w' => e = .returned (.bool true) ∧ ∃ m, w' = w.drewN m := by
  have H := Lib.hid h
  have H' := Lib.hid h'
  clear h h'
  unfold maxLen at hl
  have d0 : ((l.length : Int) != (l.length : Int)) = false := by simp
  go_enter Try.func29, Try.ntmps29
  go_wp2_with fail
  go_loopw [5] (fun i wr => ∃ k m : Nat, k ≤ l.length ∧ i = .int .i64 k ∧ wr = w.drewN m) (fun i _ => l.length - (intOf i).toNat)
  case atStart => exact ⟨0, 0, by omega, rfl, rfl⟩
  case round =>
    obtain ⟨k, m, hk, rfl, rfl⟩ := hrel
    by_cases hlt : k < l.length
    · obtain ⟨b, off, cs, rfl, _, hb, hr, hcell⟩ := H.out.at_ keeps_fr hlt
      obtain ⟨b', off', cs', rfl, _, hb', hr', hcell'⟩ := H'.out.at_ keeps_fr hlt
      have hki : (k : Int) < (l.length : Int) := by omega
      generalize l[k] = p at *
      obtain ⟨d1, d2, rfl, ⟨rfl, _⟩, Ab, cb, rfl, _, _, _, hs⟩ := hr
      obtain ⟨d1', d2', rfl, ⟨rfl, _⟩, Ab', cb', rfl, _, _, _, hs'⟩ := hr'
      have c0 : w.cell? ⟨b, off + k * 2, none⟩ = some (.int .i64 p.1) := hcell 0 _ rfl
      have c1 : w.cell? ⟨b, off + k * 2 + 1, none⟩ = some (.slice Ab p.2.length cb) := hcell 1 _ rfl
      have c0' : w.cell? ⟨b', off' + k * 2, none⟩ = some (.int .i64 p.1) := hcell' 0 _ rfl
      have c1' : w.cell? ⟨b', off' + k * 2 + 1, none⟩ = some (.slice Ab' p.2.length cb') := hcell' 1 _ rfl
      have v1 : ∀ j, (convert 23 9 (.slice Ab p.2.length cb)).run Try.prog (w.drewN j) = .ok (.string ⟨p.2.toArray⟩) (w.drewN j) := fun j => run_str (w := w.drewN j) hs.rd
      have v2 : ∀ j, (convert 23 9 (.slice Ab' p.2.length cb')).run Try.prog (w.drewN j) = .ok (.string ⟨p.2.toArray⟩) (w.drewN j) := fun j => run_str (w := w.drewN j) hs'.rd
      have d2 : (p.1 != p.1) = false := by simp
      clear hcell hcell' hs hs'
      go_wp2_with fail
      go_quiet (fail)
      go_wp2_with fail
      go_roundw
      case rel => exact ⟨k + 1, _, by omega, by go_num, rfl⟩
      case measure => simp [intOf]; omega
    · obtain rfl : k = l.length := by omega
      go_wp2_with fail
      go_ret
      exact ⟨rfl, m, rfl⟩

theorem pieces_mk {l : List UInt8} {w wr V W : World} {t : Nt} {A At : Option Addr} {c ct : Nat} (ht : ntOf (feed l).2.2 = t) (hk : Bk wr w.heap.size 53 #[.int .i64 0, .int .i64 0, .slice none 0 0]) (hb : Below w.heap.size w wr) (hA : A = none → c = 0) (hAt : At = none → ct = 0)
    (hel : Els 2 rFr wr (fun k => k ≠ w.heap.size) A (frs (feed l).1)) (hs : Bs wr wr.heap.size At t.2.2) (hne : ∀ ad, At = some ad → ad.block ≠ w.heap.size)
    (hV : V = ((wr.setCell ⟨w.heap.size, 0, none⟩ (.int .i64 t.1)).setCell ⟨w.heap.size, 1, none⟩ (.int .i64 t.2.1)).setCell ⟨w.heap.size, 2, none⟩ (.slice At t.2.2.length ct)) (hW : Below V.heap.size V W) :
    W.heap[w.heap.size]? = some (.cells #[.int .i64 t.1, .int .i64 t.2.1, .slice At t.2.2.length ct] 53 (0, 0)) ∧
    PiecesP l w (.returned (.tuple #[.slice A (feed l).1.length c, .int .i64 (endOf l : Int), .agg #[.int .i64 t.1, .int .i64 t.2.1, .slice At t.2.2.length ct]])) W := by
  have hk4 := ((hk.put 0 (.int .i64 t.1)).put 1 (.int .i64 t.2.1)).put 2 (.slice At t.2.2.length ct)
  have c4 : Chg (fun k => k = w.heap.size) wr V := by
    rw [hV]
    exact (((Chg.refl (fun k => k = w.heap.size) wr).put (p := ⟨w.heap.size, 0, none⟩) (.inl rfl) _).put (p := ⟨w.heap.size, 1, none⟩) (.inl rfl) _).put (p := ⟨w.heap.size, 2, none⟩) (.inl rfl) _
  rw [← hV] at hk4
  have hk5 : Bk V w.heap.size 53 #[.int .i64 t.1, .int .i64 t.2.1, .slice At t.2.2.length ct] := by simpa [Bk] using hk4
  refine ⟨hk5.below hW hk5.lt, PiecesP.bel (V := V) ?_ hW⟩
  subst ht
  refine ⟨A, c, At, ct, rfl, hA, hAt, ?_, (hel.chg keeps_fr c4 fun k _ h e => h e).mono keeps_fr fun _ _ _ => trivial, ?_⟩
  · exact (Rg.chg (Rg.of_rd (G := fun b => b ≠ w.heap.size) hs (Nat.le_refl _) hne) c4 fun k _ h e => h e).rd
  · exact hb.trans (c4.below (fun k e => by have e' : k = w.heap.size := e; omega) hb.size)

set_option maxRecDepth 100000 in
set_option maxHeartbeats 1000000 in
theorem Split_any (A0 : Option Addr) (c0 B : Nat) (b : List UInt8) (w : World) (hl : b.length ≤ 549755813888) (hA : A0 = none → c0 = 0) (hB : B ≤ w.heap.size) (hs : Bs w B A0 b) :
    Calls Try.prog 27 #[.slice A0 b.length c0] w (PiecesP b w) := by
  obtain ⟨w2, hw2⟩ : ∃ w2, w2 = (w.alloc (.cells #[.int .i64 0, .int .i64 0, .slice none 0 0] 53)).alloc (.cells #[.slice none 0 0, .bool false] 81) := ⟨_, rfl⟩
  have hb2 : Below w.heap.size w w2 := by rw [hw2]; exact ((Below.refl _ _).alloc (Nat.le_refl _) _).alloc (by simp) _
  have hz2 : w2.heap.size = w.heap.size + 2 := by rw [hw2]; simp
  have hk2 : Bk w2 w.heap.size 53 #[.int .i64 0, .int .i64 0, .slice none 0 0] := by rw [hw2]; exact (Bk.new w _ _).alloc _
  have hst : St w2 (fun k => k = w.heap.size + 1) (w.heap.size + 1) [] false := by
    refine ⟨none, 0, fun _ => False, ?_, fun _ => rfl, Nat.le_refl _, Nat.zero_le _, Rg.nil _ _ _ _, rfl, fun _ h => h.elim, fun k hk => by rw [hk, hz2]; omega⟩
    rw [hw2]
    have := Bk.new (w.alloc (.cells #[.int .i64 0, .int .i64 0, .slice none 0 0] 53)) 81 #[.slice none 0 0, .bool false]
    simpa using this
  have hf := feed_any (B := B) w2 (x := []) (by simp) hl hA (Nat.le_trans hB hb2.size) (hs.below hb2 hB) hst
  rw [List.nil_append, hw2] at hf
  rw [hw2] at hk2 hb2 hz2
  have HF := Lib.hid hf
  have HK2 := Lib.hid hk2
  have HB2 := Lib.hid hb2
  have HZ2 := Lib.hid hz2
  clear hf hk2 hb2 hz2 hst hw2 hs hA w2
  go_enter Try.func27, Try.ntmps27
  go_wp2_with fail
  refine HF.out.mono ?_; rintro e w3 hP
  obtain ⟨A, c, At, ct, rfl, f1, f2, f3, f4, F', f5, f6, f7, f8, f9⟩ := hP
  have HB3 := Lib.hid (HB2.out.trans (f6.below (B := w.heap.size) (fun k e => by have e' : k = w.heap.size + 1 := e; omega) HB2.out.size))
  have HK3 := Lib.hid (HK2.out.chg f6 fun e => by have e' : w.heap.size = w.heap.size + 1 := e; omega)
  have HEl : Hid (Els 2 rFr w3 (fun k => k ≠ w.heap.size) A (frs (feed b).1)) := f8.mono keeps_fr fun k _ hk e => by have := hk.1; have := HZ2.out; omega
  have HNt : Hid ((At = none → ct = 0) ∧ Bs w3 w3.heap.size At (ntOf (feed b).2.2).2.2 ∧ ∀ ad, At = some ad → ad.block ≠ w.heap.size) := ⟨f4.1, f4.2.2.2.1, fun ad e e2 => by have := f4.2.2.2.2 ad e; have := HZ2.out; omega⟩
  have HA := Lib.hid f1
  have HSum : Hid (sumOf (feed b).1 = endOf b) := sum_end b
  have hend : endOf b ≤ 549755813888 := by have := (feed_left b).1; omega
  have hcnt := feed_count b
  clear f1 f2 f3 f4 f5 f6 f7 f8 f9 HF HK2 HB2
  have HFin : Hid (∀ wr V W, Below w3.heap.size w3 wr → V = (((wr.setCell ⟨w.heap.size, 0, none⟩ (.int .i64 (ntOf (feed b).2.2).1)).setCell ⟨w.heap.size, 1, none⟩ (.int .i64 (ntOf (feed b).2.2).2.1)).setCell ⟨w.heap.size, 2, none⟩ (.slice At (ntOf (feed b).2.2).2.2.length ct)) → Below V.heap.size V W → W.heap[w.heap.size]? = some (.cells #[.int .i64 (ntOf (feed b).2.2).1, .int .i64 (ntOf (feed b).2.2).2.1, .slice At (ntOf (feed b).2.2).2.2.length ct] 53 (0, 0)) ∧
    PiecesP b w (.returned (.tuple #[.slice A (feed b).1.length c, .int .i64 (endOf b : Int), .agg #[.int .i64 (ntOf (feed b).2.2).1, .int .i64 (ntOf (feed b).2.2).2.1, .slice At (ntOf (feed b).2.2).2.2.length ct]])) W) := fun wr V W hb h1 h2 =>
      pieces_mk rfl (HK3.out.below hb HK3.out.lt) (HB3.out.trans (hb.mono HB3.out.size)) HA.out HNt.out.1 (HEl.out.bel keeps_fr hb) ((HNt.out.2.1.below hb (Nat.le_refl _)).more hb.size) HNt.out.2.2 h1 h2
  generalize (feed b).1 = out at *
  generalize ntOf (feed b).2.2 = t at *
  have HKt : Hid (Bk (w3.alloc (.cells #[.int .i64 t.1, .int .i64 t.2.1, .slice At t.2.2.length ct] 53)) w3.heap.size 53 #[.int .i64 t.1, .int .i64 t.2.1, .slice At t.2.2.length ct]) := Bk.new _ _ _
  have HB4 : Hid (Below w3.heap.size w3 (w3.alloc (.cells #[.int .i64 t.1, .int .i64 t.2.1, .slice At t.2.2.length ct] 53))) := (Below.refl _ _).alloc (Nat.le_refl _) _
  have hmono : ∀ k, sumOf (out.take k) ≤ sumOf out := fun k => by
    have : sumOf out = sumOf (out.take k) + sumOf (out.drop k) := by
      unfold sumOf; rw [← List.sum_append, ← List.map_append, List.take_append_drop]
    omega
  have HMono := Lib.hid hmono
  clear hmono
  go_wp2_with fail
  go_loopw [7, 9, 19] (fun n _ i wr => ∃ k : Nat, k ≤ out.length ∧ i = .int .i64 k ∧ n = .int .i64 (sumOf (out.take k) : Int) ∧ Below (w3.alloc (.cells #[.int .i64 t.1, .int .i64 t.2.1, .slice At t.2.2.length ct] 53)).heap.size (w3.alloc (.cells #[.int .i64 t.1, .int .i64 t.2.1, .slice At t.2.2.length ct] 53)) wr) (fun _ _ i _ => out.length - (intOf i).toNat)
  case atStart => exact ⟨0, by omega, rfl, by simp [sumOf], Below.refl _ _⟩
  case round =>
    obtain ⟨k, hk, rfl, rfl, hbw⟩ := hrel
    have HBW := Lib.hid hbw
    have HBR := Lib.hid (HB4.out.trans (hbw.mono HB4.out.size))
    clear hbw
    by_cases hlt : k < out.length
    · obtain ⟨bb, off, cs, rfl, _, hb, hr, hcell⟩ := (HEl.out.bel keeps_fr HBR.out).at_ keeps_fr (k := k) (by rw [frs_len]; exact hlt)
      obtain ⟨d1, d2, rfl, ⟨rfl, _⟩, Ab, cb, rfl, _, _, _, _⟩ := hr
      have e0 : (frs out)[k]'(by rw [frs_len]; exact hlt) = ((out[k].1 : Int), out[k].2) := by simp [frs]
      rw [e0] at hcell
      have c0 : wr.cell? ⟨bb, off + k * 2, none⟩ = some (.int .i64 (out[k].1 : Int)) := hcell 0 _ rfl
      have c1 : wr.cell? ⟨bb, off + k * 2 + 1, none⟩ = some (.slice Ab out[k].2.length cb) := hcell 1 _ rfl
      have HSn : Hid (sumOf (out.take (k + 1)) = sumOf (out.take k) + (19 + out[k].2.length)) := by rw [Hid, List.take_succ_eq_append_getElem hlt, sumOf_snoc]
      have hs1 := HMono.out (k + 1)
      rw [HSn.out, HSum.out] at hs1
      have HBW2 := Lib.hid (HBW.out.alloc HBW.out.size (.cells #[.int .i64 (out[k].1 : Int), .slice Ab out[k].2.length cb] 77))
      clear hcell e0
      generalize sumOf (out.take k) = s at *
      generalize out[k] = p at *
      go_wp2_with fail
      go_roundw
      case measure => simp [intOf]; omega
      case rel => exact ⟨k + 1, by omega, by go_num, by rw [HSn.out]; congr 1, HBW2.out⟩
    · obtain rfl : k = out.length := by omega
      have HKr := Lib.hid (HKt.out.below HBW.out HKt.out.lt)
      have HKn := Lib.hid (HK3.out.below HBR.out HK3.out.lt)
      have hend2 : sumOf (out.take out.length) = endOf b := by rw [List.take_length]; exact HSum.out
      rw [hend2]
      clear hend2
      have q0 := HKn.out.cell 0
      have q1 := HKn.out.cell 1
      have q2 := HKn.out.cell 2
      have qf := fun i => HKn.out.free i
      have ql := HKn.out.lt
      have t0 := HKr.out.cell 0
      have t1 := HKr.out.cell 1
      have t2 := HKr.out.cell 2
      simp at q0 q1 q2 t0 t1 t2
      go_wp2_with fail
      go_region
      all_goals
        go_wp2_with fail
        obtain ⟨g1, g2⟩ := HFin.out wr _ _ HBR.out rfl ((Below.refl _ _).drew)
        exact bodyPost_ret (results_ttc rfl _ _ w.heap.size 53 (.slice A out.length c) (.int .i64 (endOf b : Int)) _ (0, 0) _ rfl rfl rfl g1 Try.underlying53 rfl info_notice) rfl g2
end Go.Proofs.Ythoclemgiopjpaa.frame
