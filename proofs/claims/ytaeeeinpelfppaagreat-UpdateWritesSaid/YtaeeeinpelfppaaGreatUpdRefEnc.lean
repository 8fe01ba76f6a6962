/- What confluenceref10.Encode and confluencelaw10.Few return. Condition: at most 50000 prefixes, numbers and pieces each; for Encode: good prefixes. -/
import Derived.Test.YtaeeeinpelfppaaGreatUpdLives
import Derived.Test.YtaeeeinpelfppaaGreatRefEnc8
import Derived.Test.YtaeeeinpelfppaaGreatNlriEnc2
import Derived.Test.YtaeeeinpelfppaaGreatUpdDecode
import Derived.Test.YtaeeeinpelfppaaGreatAttrOpen
namespace Go.Proofs.YtaeeeinpelfppaaGreat.upd
open Go.RowKit Go.Proofs.YtaeeeinpelfppaaGreat.kit Go.Proofs.YtaeeeinpelfppaaGreat.mem Go.Proofs.YtaeeeinpelfppaaGreat.foot Go.Proofs.YtaeeeinpelfppaaGreat.nums Go.Proofs.YtaeeeinpelfppaaGreat.asn Go.Proofs.YtaeeeinpelfppaaGreat.pth Go.Proofs.YtaeeeinpelfppaaGreat.octet Go.Proofs.YtaeeeinpelfppaaGreat.attr Go.Proofs.YtaeeeinpelfppaaGreat.mv
set_option linter.unusedVariables false
set_option linter.unusedSimpArgs false
theorem Bn.newsl {l : List UInt8} {w w' : World} {A : Option Addr} {c : Nat} (h : NewSl 1 l.length (bv l) w A c w') : Bn w' (fun k => w.heap.size ≤ k) A c l := ⟨h.nil, h.cap, h.max, Rg.of_rd h.rd (Nat.le_refl _) h.new⟩
section
variable (u : Upd) (A1 : Option Addr) (c1 : Nat) (Ap : Option Addr) (cp : Nat) (Ac : Option Addr) (cc : Nat) (A2 : Option Addr) (c2 : Nat) (G : Foot) (w : World)
set_option maxRecDepth 100000 in
set_option maxHeartbeats 8000000 in
theorem refEncode10_any (hm : Um w G u A1 c1 Ap cp Ac cc A2 c2) (hu : Ub u) (hg1 : nlri.goodL u.gone = true) (hg2 : nlri.goodL u.here = true) :
    Calls Tryz.prog 17 #[.agg (upc A1 u.gone.length c1 (atc u.a Ap cp Ac cc) A2 u.here.length c2).toArray] w (RetB (encUp u) w) := by
  obtain ⟨i0, hi, hz0, hz1, hz2⟩ := info_parts info_u8
  have Hi := Lib.hid hi
  have Hz0 := Lib.hid hz0
  have Hz1 := Lib.hid hz1
  have Hz2 := Lib.hid hz2
  have HSz : Hid ((Tryz.prog.info? 29).map (·.size) = some 9) := info_atr
  have HB : Hid (Below w.heap.size w (w.alloc (.cells (upc A1 u.gone.length c1 (atc u.a Ap cp Ac cc) A2 u.here.length c2).toArray 31))) := (Below.refl _ _).alloc (Nat.le_refl _) _
  have hgl : (nlri.enc u.gone).length ≤ 250000 := by have := nlri.enc_le u.gone; have := hu.gl; omega
  have hhl : (nlri.enc u.here).length ≤ 250000 := by have := nlri.enc_le u.here; have := hu.hl; omega
  have hal : (encB u.a).length ≤ 4000000 := by have := encU_len (a := u.a) hu.pl hu.cl 8; show (encU u.a 8).length ≤ _; omega
  have HCg : Hid (∀ w', Below w.heap.size w w' → Calls Tryz.prog 48 #[.slice A1 u.gone.length c1] w' fun e w2 => ∃ A c, e = .returned (.slice A (nlri.enc u.gone).length c) ∧ Bn w2 (fun k => w'.heap.size ≤ k) A c (nlri.enc u.gone) ∧ Below w'.heap.size w' w2) := fun w' h => (nlri.refEncode_any A1 c1 w'.heap.size u.gone w' (by have := hu.gl; omega) (Nat.le_refl _) (hm.gone.bel h).ps hu.gw hg1).mono fun _ _ ⟨A, c, e, h⟩ => ⟨A, c, e, Bn.newsl h, h.bel⟩
  have HCh : Hid (∀ w', Below w.heap.size w w' → Calls Tryz.prog 48 #[.slice A2 u.here.length c2] w' fun e w2 => ∃ A c, e = .returned (.slice A (nlri.enc u.here).length c) ∧ Bn w2 (fun k => w'.heap.size ≤ k) A c (nlri.enc u.here) ∧ Below w'.heap.size w' w2) := fun w' h => (nlri.refEncode_any A2 c2 w'.heap.size u.here w' (by have := hu.hl; omega) (Nat.le_refl _) (hm.here.bel h).ps hu.hw hg2).mono fun _ _ ⟨A, c, e, h⟩ => ⟨A, c, e, Bn.newsl h, h.bel⟩
  have HCa : Hid (∀ w', Below w.heap.size w w' → Calls Tryz.prog 49 #[.agg (atc u.a Ap cp Ac cc).toArray] w' fun e w2 => ∃ A c, e = .returned (.slice A (encB u.a).length c) ∧ Bn w2 (sf A) A c (encB u.a) ∧ Below w'.heap.size w' w2) := fun w' h => (refEncode_any u.a Ap Ac cp cc G w' (hm.at_.bel h) hu.pl hu.cl).mono fun _ _ ⟨A, c, e, h1, h2, h3⟩ => ⟨A, c, e, Bn.of_own h1, h3⟩
  have HE : Hid (∀ (A : Option Addr) (n c : Nat) (xs : List Value) (w3 w' : World), Below w.heap.size w w3 → n = 2 + (nlri.enc u.gone).length + 2 + (encB u.a).length + (nlri.enc u.here).length → xs = bv [octet.byteOf (((nlri.enc u.gone).length : Int) / 256), octet.byteOf ((nlri.enc u.gone).length : Int)] ++ bv (nlri.enc u.gone) ++ bv [octet.byteOf (((encB u.a).length : Int) / 256), octet.byteOf ((encB u.a).length : Int)] ++ bv (encB u.a) ++ bv (nlri.enc u.here) → Acc w3 5 1 w' A n c xs → RetB (encUp u) w (.returned (.slice A n c)) w') := fun A n c xs w3 w' hb hn hx h => by
    have e1 : (encUp u).length = n := by unfold encUp lenB; simp; omega
    have e2 : bv (encUp u) = xs := by rw [hx]; unfold encUp lenB; simp [bv]
    rw [← e1, ← e2] at h
    exact ⟨A, c, by rw [e1], h.own, fun k hk => Nat.le_trans hb.size (h.low k hk), hb.trans (h.bel.mono hb.size)⟩
  have HU : Hid (∀ w', Below (w.alloc (.cells (upc A1 u.gone.length c1 (atc u.a Ap cp Ac cc) A2 u.here.length c2).toArray 31)).heap.size (w.alloc (.cells (upc A1 u.gone.length c1 (atc u.a Ap cp Ac cc) A2 u.here.length c2).toArray 31)) w' → (w'.cell? ⟨w.heap.size, 0, none⟩ = some (.slice A1 u.gone.length c1) ∧ w'.rangeAt w.heap.size 1 (atc u.a Ap cp Ac cc)) ∧ w'.cell? ⟨w.heap.size, 10, none⟩ = some (.slice A2 u.here.length c2)) := fun w' h => by
    have K := (Bk.new w 31 (upc A1 u.gone.length c1 (atc u.a Ap cp Ac cc) A2 u.here.length c2).toArray).below h (by simp)
    exact ⟨⟨K.cell 0, Bk.range (pre := [.slice A1 u.gone.length c1]) K⟩, K.cell 10⟩
  generalize nlri.enc u.gone = eg at *
  generalize encB u.a = ea at *
  generalize nlri.enc u.here = eh at *
  obtain ⟨Q, hQ⟩ : ∃ Q, Q = RetB (encUp u) w := ⟨_, rfl⟩
  rw [← hQ] at HE ⊢
  obtain ⟨w1, hw1⟩ : ∃ w1, w1 = w.alloc (.cells (upc A1 u.gone.length c1 (atc u.a Ap cp Ac cc) A2 u.here.length c2).toArray 31) := ⟨_, rfl⟩
  rw [← hw1] at HB HU
  clear hm hg1 hg2 hQ hi hz0 hz1 hz2
  have HB1 := Lib.hid (fun w' => big2 eg.length (by omega) w')
  have HB2 := Lib.hid (fun w' => big2 ea.length (by omega) w')
  have HX1 : Hid (Below w1.heap.size w1 w1.drew) := (Below.refl _ _).drew
  go_enter Tryz.func17, Tryz.ntmps17
  go_upto_region 1 with fail
  rw [← hw1]
  clear hw1
  refine region_mv (S := fun w' => w'.cell? ⟨w.heap.size, 0, none⟩ = some (.slice A1 u.gone.length c1) ∧ w'.rangeAt w.heap.size 1 (atc u.a Ap cp Ac cc)) (A := List.range 8) (sq := [.p 0, .p 1, .p 3, .p 4, .c 2, .c 5, .p 6, .p 7]) (by kernel_rfl) (by kernel_rfl) ?_ (fun hHeld => ?_)
  · exact (HU.out _ HX1.out).1
  repeat ((with_reducible refine mv_at ?_); (first
    | (refine ⟨_, .agg (atc u.a Ap cp Ac cc).toArray, rfl, yieldsIf_load_mid (by rfl) 29 (.tmp 9) rfl w.heap.size 1 (by rfl) (atc u.a Ap cp Ac cc) _ (fun w h => h.2) Tryz.underlying29 (by rfl) HSz.out, ?_⟩)
    | (refine ⟨_, ?_, rfl, Or.inl ⟨by rfl, ?_⟩, ?_⟩; rotate_left; · (intro w hSw; (try dsimp only at hSw); go_simp <;> with_reducible rfl))
    | (refine ⟨_, undef, rfl, Or.inr ⟨by rfl, rfl⟩, ?_⟩)); try simp only [Act.put, List.getElem_toArray, List.getElem_cons_succ, List.getElem_cons_zero, List.setIfInBounds_toArray, List.set_cons_zero, List.set_cons_succ])
  refine mv_c (o := _) rfl (fun K hK => ?_)
  go_simp
  go_at_call 48
  refine (HCg.out _ HB.out.drew).mono ?_
  rintro e w2 ⟨A3, c3, rfl, h1, h2⟩
  have HN2 := Lib.hid h1
  have HX2 := Lib.hid (HX1.out.trans (h2.mono HX1.out.size))
  have HW2 := Lib.hid (HB.out.trans (HX2.out.mono HB.out.size))
  clear h1 h2
  refine hK.out _ _ ?_ (fun hHeld => ?_)
  · exact (HU.out _ HX2.out).1
  clear hK K
  try simp only [Act.put, List.getElem_toArray, List.getElem_cons_succ, List.getElem_cons_zero, List.setIfInBounds_toArray, List.set_cons_zero, List.set_cons_succ]
  refine mv_c (o := _) rfl (fun K hK => ?_)
  go_simp
  go_at_call 49
  refine (HCa.out _ HW2.out).mono ?_
  rintro e w3 ⟨A4, c4, rfl, h1, h2⟩
  have HN3 := Lib.hid (HN2.out.bel h2)
  have HM3 := Lib.hid h1
  have HX3 := Lib.hid (HX2.out.trans (h2.mono HX2.out.size))
  have HW3 := Lib.hid (HB.out.trans (HX3.out.mono HB.out.size))
  clear h1 h2
  refine hK.out _ _ ?_ (fun hHeld => ?_)
  · exact (HU.out _ HX3.out).1
  clear hK K
  try simp only [Act.put, List.getElem_toArray, List.getElem_cons_succ, List.getElem_cons_zero, List.setIfInBounds_toArray, List.set_cons_zero, List.set_cons_succ]
  repeat ((with_reducible refine mv_at ?_); (first
    | (refine ⟨_, .agg (atc u.a Ap cp Ac cc).toArray, rfl, yieldsIf_load_mid (by rfl) 29 (.tmp 9) rfl w.heap.size 1 (by rfl) (atc u.a Ap cp Ac cc) _ (fun w h => h.2) Tryz.underlying29 (by rfl) HSz.out, ?_⟩)
    | (refine ⟨_, ?_, rfl, Or.inl ⟨by rfl, ?_⟩, ?_⟩; rotate_left; · (intro w hSw; (try dsimp only at hSw); go_simp <;> with_reducible rfl))
    | (refine ⟨_, undef, rfl, Or.inr ⟨by rfl, rfl⟩, ?_⟩)); try simp only [Act.put, List.getElem_toArray, List.getElem_cons_succ, List.getElem_cons_zero, List.setIfInBounds_toArray, List.set_cons_zero, List.set_cons_succ])
  refine mv_end ?_
  go_wp2_with (first
    | (go_at_call 50; first
      | (refine (HB1.out w3).mono ?_; rintro e w4 ⟨A5, c5, rfl, h1, h2, h3⟩; have T4 : Hid (Acc w3 5 1 w4 A5 2 c5 (bv [octet.byteOf ((eg.length : Int) / 256), octet.byteOf (eg.length : Int)])) := ⟨h1, h3, h2⟩; have HN4 := Lib.hid (HN3.out.bel T4.out.bel); clear h1 h2 h3 HB1)
      | (refine (HB2.out w5).mono ?_; rintro e w6 ⟨A7, c7, rfl, h1, h2, h3⟩; have T6 := Lib.hid (T5.out.go h3); have HO6 := Lib.hid h1; have HM6 := Lib.hid (HM3.out.bel T6.out.bel); clear h1 h2 h3))
    | (go_at_call 48; refine (HCh.out w8 (HW3.out.trans (T8.out.bel.mono HW3.out.size))).mono ?_; rintro e w9 ⟨A9, c9, rfl, h1, h2⟩; have T9 := Lib.hid (T8.out.go h2); have HN9 := Lib.hid h1; clear h1 h2)
    | (at_builtin; refine wpList_app _ rfl (.tmp 15) (.tmp 16) _ rfl 5 i0 _ 1 1 Tryz.underlying22 Hi.out Hz0.out Hz1.out Hz2.out rfl (by omega) A5 2 c5 _ rfl T4.out.own _ A3 eg.length c3 HN4.out.nil _ rfl HN4.out.rg (bv_one _) (by unfold maxLen; omega) (by omega) ?_; intro A6 c6 w5 ho hc hf; have T5 := Lib.hid (T4.out.app ho hc hf); clear ho hc hf)
    | (at_builtin; refine wpList_app _ rfl (.tmp 18) (.tmp 22) _ rfl 5 i0 _ 1 1 Tryz.underlying22 Hi.out Hz0.out Hz1.out Hz2.out rfl (by omega) A6 (2 + eg.length) c6 _ rfl T6.out.own _ A7 2 c7 HO6.out.nil _ rfl HO6.out.rg (bv_one _) (by unfold maxLen; omega) (by omega) ?_; intro A8 c8 w7 ho hc hf; have T7 := Lib.hid (T6.out.app ho hc hf); have HM7 := Lib.hid (HM3.out.bel T7.out.bel); clear ho hc hf)
    | (at_builtin; refine wpList_app _ rfl (.tmp 23) (.tmp 24) _ rfl 5 i0 _ 1 1 Tryz.underlying22 Hi.out Hz0.out Hz1.out Hz2.out rfl (by omega) A8 (2 + eg.length + 2) c8 _ rfl T7.out.own _ A4 ea.length c4 HM7.out.nil _ rfl HM7.out.rg (bv_one _) (by unfold maxLen; omega) (by omega) ?_; intro A8b c8b w8 ho hc hf; have T8 := Lib.hid (T7.out.app ho hc hf); have x10 := (HU.out _ (HX3.out.trans (T8.out.bel.mono HX3.out.size))).2; clear ho hc hf)
    | (at_builtin; refine wpList_app _ rfl (.tmp 26) (.tmp 29) _ rfl 5 i0 _ 1 1 Tryz.underlying22 Hi.out Hz0.out Hz1.out Hz2.out rfl (by omega) A8b (2 + eg.length + 2 + ea.length) c8b _ rfl T9.out.own _ A9 eh.length c9 HN9.out.nil _ rfl HN9.out.rg (bv_one _) (by unfold maxLen; omega) (by omega) ?_; intro A10 c10 w10 ho hc hf; have T10 := Lib.hid (T9.out.app ho hc hf); clear ho hc hf))
  exact HE.out _ _ _ _ w3 _ HW3.out rfl rfl T10.out
end
/-- an Update, somewhat cut -/
def fewU (u : Upd) : Upd := ⟨u.gone.take 30, fewA u.a, u.here.take 30⟩
theorem fewU_twice (u : Upd) : fewU (fewU u) = fewU u := by
  show (⟨(u.gone.take 30).take 30, fewA (fewA u.a), (u.here.take 30).take 30⟩ : Upd) = fewU u
  rw [fewA_twice, List.take_take, List.take_take]
  rfl
/-- an Update handed back, in memory of its own -/
def RetU (u : Upd) (w : World) (e : Ending) (w' : World) : Prop :=
  ∃ A1 c1 Ap cp Ac cc A2 c2, e = .returned (.agg (upc A1 u.gone.length c1 (atc u.a Ap cp Ac cc) A2 u.here.length c2).toArray) ∧ Um w' (fun k => w.heap.size ≤ k) u A1 c1 Ap cp Ac cc A2 c2 ∧ Below w.heap.size w w'
set_option maxRecDepth 100000 in
set_option maxHeartbeats 8000000 in
theorem Few10_any (u : Upd) (A1 : Option Addr) (c1 : Nat) (Ap : Option Addr) (cp : Nat) (Ac : Option Addr) (cc : Nat) (A2 : Option Addr) (c2 : Nat) (G : Foot) (w : World) (hm : Um w G u A1 c1 Ap cp Ac cc A2 c2) :
    Calls Tryz.prog 11 #[.agg (upc A1 u.gone.length c1 (atc u.a Ap cp Ac cc) A2 u.here.length c2).toArray] w (RetU (fewU u) w) := by
  have HSz : Hid ((Tryz.prog.info? 29).map (·.size) = some 9) := info_atr
  have HSu : Hid ((Tryz.prog.info? 31).map (·.size) = some 11) := info_upd
  obtain ⟨h1, h2, h3⟩ := heads w (upc A1 u.gone.length c1 (atc u.a Ap cp Ac cc) A2 u.here.length c2) zeroUC 31 31
  have HCg : Hid (∀ w', Below w.heap.size w w' → Calls Tryz.prog 35 #[.slice A1 u.gone.length c1, .int .i64 30] w' fun e w2 => ∃ A c, e = .returned (.slice A (u.gone.take 30).length c) ∧ Pw w2 (fun k => w'.heap.size ≤ k) A c (u.gone.take 30) ∧ Below w'.heap.size w' w2) := fun w' h => (nlri.Few_any A1 c1 w'.heap.size u.gone 30 w' (by omega) hm.gone.cap (Nat.le_trans hm.gone.cap hm.gone.max) hm.gone.nil (Nat.le_refl _) (hm.gone.bel h).ps).mono fun _ _ ⟨A, c, e, h⟩ => ⟨A, c, e, Pw.new h, h.bel⟩
  have HCh : Hid (∀ w', Below w.heap.size w w' → Calls Tryz.prog 35 #[.slice A2 u.here.length c2, .int .i64 30] w' fun e w2 => ∃ A c, e = .returned (.slice A (u.here.take 30).length c) ∧ Pw w2 (fun k => w'.heap.size ≤ k) A c (u.here.take 30) ∧ Below w'.heap.size w' w2) := fun w' h => (nlri.Few_any A2 c2 w'.heap.size u.here 30 w' (by omega) hm.here.cap (Nat.le_trans hm.here.cap hm.here.max) hm.here.nil (Nat.le_refl _) (hm.here.bel h).ps).mono fun _ _ ⟨A, c, e, h⟩ => ⟨A, c, e, Pw.new h, h.bel⟩
  have HCa : Hid (∀ w', Below w.heap.size w w' → Calls Tryz.prog 36 #[.agg (atc u.a Ap cp Ac cc).toArray] w' (RetA (fewA u.a) w')) := fun w' h => Few8_any u.a Ap Ac cp cc G w' (hm.at_.bel h)
  obtain ⟨w1, hw1⟩ : ∃ w1, w1 = (w.alloc (.cells (upc A1 u.gone.length c1 (atc u.a Ap cp Ac cc) A2 u.here.length c2).toArray 31)).alloc (.cells zeroUC.toArray 31) := ⟨_, rfl⟩
  rw [← hw1] at h1 h2 h3
  have HB := Lib.hid h1
  have HU : Hid (∀ w', Below w1.heap.size w1 w' → (w'.cell? ⟨w.heap.size, 0, none⟩ = some (.slice A1 u.gone.length c1) ∧ w'.rangeAt w.heap.size 1 (atc u.a Ap cp Ac cc) ∧ w'.cell? ⟨w.heap.size, 10, none⟩ = some (.slice A2 u.here.length c2))) := fun w' h => by
    have K := h2.below h h2.lt
    exact ⟨K.cell 0, Bk.range (pre := [.slice A1 u.gone.length c1]) K, K.cell 10⟩
  have HK := Lib.hid h3
  have HL : Hid (w.heap.size + 1 < w1.heap.size) := h3.lt
  have HF : Hid (∀ (A B Bp Bc : Option Addr) (c d dp dc : Nat) (w' : World), Pw w' (fun k => w1.heap.size ≤ k) A c (u.gone.take 30) → Pw w' (fun k => w1.heap.size ≤ k) B d (u.here.take 30) → Am w' (fun k => w1.heap.size ≤ k) (fewA u.a) Bp dp Bc dc → Below w.heap.size w w' → RetU (fewU u) w (.returned (.agg (upc A (u.gone.take 30).length c (atc (fewA u.a) Bp dp Bc dc) B (u.here.take 30).length d).toArray)) w') := fun A B Bp Bc c d dp dc w' p1 p2 p3 hb => ⟨A, c, Bp, dp, Bc, dc, B, d, rfl, ⟨p1.mono fun k _ hk => Nat.le_trans HB.out.size hk, p3.mono fun k _ hk => Nat.le_trans HB.out.size hk, p2.mono fun k _ hk => Nat.le_trans HB.out.size hk⟩, hb⟩
  clear h1 h2 h3 hm
  have hw0 : w1 = (w.alloc (.cells (upc A1 u.gone.length c1 (atc u.a Ap cp Ac cc) A2 u.here.length c2).toArray 31)).alloc (.cells #[.slice none 0 0, .int .i64 0, .int .i64 0, .slice none 0 0, .int .u32 0, .int .u32 0, .int .u32 0, .int .u32 0, .int .u32 0, .slice none 0 0, .slice none 0 0] 31) := hw1
  clear hw1
  generalize u.gone.take 30 = fg at *
  generalize u.here.take 30 = fh at *
  generalize fewA u.a = fa at *
  obtain ⟨Q, hQ⟩ : ∃ Q, Q = RetU (fewU u) w := ⟨_, rfl⟩
  rw [← hQ] at HF ⊢
  clear hQ
  have HX1 : Hid (Below w1.heap.size w1 w1.drew) := (Below.refl _ _).drew
  go_enter Tryz.func11, Tryz.ntmps11
  go_upto_region 1 with fail
  rw [show (_ : World) = w1 from hw0.symm]
  clear hw0
  refine region_mv (S := fun w' => w'.cell? ⟨w.heap.size, 0, none⟩ = some (.slice A1 u.gone.length c1) ∧ w'.rangeAt w.heap.size 1 (atc u.a Ap cp Ac cc) ∧ w'.cell? ⟨w.heap.size, 10, none⟩ = some (.slice A2 u.here.length c2)) (A := List.range 10) (sq := [.p 0, .p 1, .p 3, .p 4, .p 6, .p 7, .c 2, .c 5, .c 8, .p 9, .d 10]) (by kernel_rfl) (by kernel_rfl) ?_ (fun hHeld => ?_)
  · exact HU.out _ HX1.out
  repeat ((with_reducible refine mv_at ?_); (first
    | (refine ⟨_, .agg (atc u.a Ap cp Ac cc).toArray, rfl, yieldsIf_load_mid (by rfl) 29 (.tmp 6) rfl w.heap.size 1 (by rfl) (atc u.a Ap cp Ac cc) _ (fun w h => h.2.1) Tryz.underlying29 (by rfl) HSz.out, ?_⟩)
    | (refine ⟨_, ?_, rfl, Or.inl ⟨by rfl, ?_⟩, ?_⟩; rotate_left; · (intro w hSw; (try dsimp only at hSw); go_simp <;> with_reducible rfl))
    | (refine ⟨_, undef, rfl, Or.inr ⟨by rfl, rfl⟩, ?_⟩)); try simp only [Act.put, List.getElem_toArray, List.getElem_cons_succ, List.getElem_cons_zero, List.setIfInBounds_toArray, List.set_cons_zero, List.set_cons_succ])
  refine mv_c (o := _) rfl (fun K hK => ?_)
  go_simp
  go_at_call 35
  refine (HCg.out _ HB.out.drew).mono ?_
  rintro e w2 ⟨A3, c3, rfl, h1, h2⟩
  have HX2 := Lib.hid (HX1.out.trans (h2.mono HX1.out.size))
  have HN2 := Lib.hid (h1.mono (H := fun k => w1.heap.size ≤ k) fun k _ hk => hk)
  have HW2 := Lib.hid (HB.out.trans (HX2.out.mono HB.out.size))
  clear h1 h2
  refine hK.out _ _ ?_ (fun hHeld => ?_)
  · exact HU.out _ HX2.out
  clear hK K
  try simp only [Act.put, List.getElem_toArray, List.getElem_cons_succ, List.getElem_cons_zero, List.setIfInBounds_toArray, List.set_cons_zero, List.set_cons_succ]
  refine mv_c (o := _) rfl (fun K hK => ?_)
  go_simp
  go_at_call 36
  refine (HCa.out _ HW2.out).mono ?_
  rintro e w3 ⟨Bp, dp, Bc, dc, rfl, h1, h2⟩
  have HX3 := Lib.hid (HX2.out.trans (h2.mono HX2.out.size))
  have HN3 := Lib.hid (HN2.out.bel h2)
  have HA3 := Lib.hid (h1.mono (H := fun k => w1.heap.size ≤ k) fun k _ hk => Nat.le_trans HX2.out.size hk)
  have HW3 := Lib.hid (HB.out.trans (HX3.out.mono HB.out.size))
  clear h1 h2
  refine hK.out _ _ ?_ (fun hHeld => ?_)
  · exact HU.out _ HX3.out
  clear hK K
  try simp only [Act.put, List.getElem_toArray, List.getElem_cons_succ, List.getElem_cons_zero, List.setIfInBounds_toArray, List.set_cons_zero, List.set_cons_succ]
  refine mv_c (o := _) rfl (fun K hK => ?_)
  go_simp
  go_at_call 35
  refine (HCh.out _ HW3.out).mono ?_
  rintro e w4 ⟨A5, c5, rfl, h1, h2⟩
  have HX4 := Lib.hid (HX3.out.trans (h2.mono HX3.out.size))
  have HN4 := Lib.hid (HN3.out.bel h2)
  have HA4 := Lib.hid (HA3.out.bel h2)
  have HM4 := Lib.hid (h1.mono (H := fun k => w1.heap.size ≤ k) fun k _ hk => Nat.le_trans HX3.out.size hk)
  have HK4 := Lib.hid (HK.out.below HX4.out HL.out)
  have HW4 := Lib.hid (HB.out.trans (HX4.out.mono HB.out.size))
  clear h1 h2
  refine hK.out _ _ ?_ (fun hHeld => ?_)
  · exact HU.out _ HX4.out
  clear hK K
  try simp only [Act.put, List.getElem_toArray, List.getElem_cons_succ, List.getElem_cons_zero, List.setIfInBounds_toArray, List.set_cons_zero, List.set_cons_succ]
  repeat ((with_reducible refine mv_at ?_); (first
    | (refine ⟨_, .agg (atc u.a Ap cp Ac cc).toArray, rfl, yieldsIf_load_mid (by rfl) 29 (.tmp 6) rfl w.heap.size 1 (by rfl) (atc u.a Ap cp Ac cc) _ (fun w h => h.2.1) Tryz.underlying29 (by rfl) HSz.out, ?_⟩)
    | (refine ⟨_, .agg (upc A3 fg.length c3 (atc fa Bp dp Bc dc) A5 fh.length c5).toArray, rfl, Or.inl ⟨by rfl, ?_⟩, ?_⟩; · (intro w hSw; kernel_rfl))
    | (refine ⟨_, ?_, rfl, Or.inl ⟨by rfl, ?_⟩, ?_⟩; rotate_left; · (intro w hSw; (try dsimp only at hSw); go_simp <;> with_reducible rfl))
    | (refine ⟨_, undef, rfl, Or.inr ⟨by rfl, rfl⟩, ?_⟩)); try simp only [Act.put, List.getElem_toArray, List.getElem_cons_succ, List.getElem_cons_zero, List.setIfInBounds_toArray, List.set_cons_zero, List.set_cons_succ])
  refine mv_d (o := _) rfl (fun K hK => ?_)
  refine wp_storeBk 31 (.tmp 2) (.tmp 12) rfl (w.heap.size + 1) (by rfl) (upc A3 fg.length c3 (atc fa Bp dp Bc dc) A5 fh.length c5).toArray (by rfl) 31 zeroUC.toArray HK4.out HSu.out rfl (by rfl) ?_
  intro w5 k5 f5 l5
  refine hK.out _ _ ?_
  clear hK K
  try simp only [Act.put, List.getElem_toArray, List.getElem_cons_succ, List.getElem_cons_zero, List.setIfInBounds_toArray, List.set_cons_zero, List.set_cons_succ]
  refine mv_end ?_
  have K5 := Lib.hid k5
  have C5 := Lib.hid f5
  clear k5 f5 l5
  go_wp2_with fail
  refine bodyPost_ret (results_cell_row rfl _ _ (w.heap.size + 1) 31 (upc A3 fg.length c3 (atc fa Bp dp Bc dc) A5 fh.length c5).toArray (0, 0) _ rfl K5.out Tryz.underlying31 rfl HSu.out) rfl ?_
  exact HF.out _ _ _ _ _ _ _ _ _ (HN4.out.chg C5.out fun k _ hk e => by have := HL.out; omega) (HM4.out.chg C5.out fun k _ hk e => by have := HL.out; omega) (HA4.out.chg C5.out fun k _ hk e => by have := HL.out; omega) (HW4.out.trans (C5.out.below (fun k e => by omega) HW4.out.size))
end Go.Proofs.YtaeeeinpelfppaaGreat.upd
