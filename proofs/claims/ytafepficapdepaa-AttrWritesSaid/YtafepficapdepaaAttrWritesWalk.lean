/- The walk of the law AttrWrites: the Go text returns true and writes nothing that was there. No condition. -/
import Derived.Test.YtafepficapdepaaAttrOpen
import Derived.Test.YtafepficapdepaaAttrDecode
import Derived.Test.YtafepficapdepaaAttrLives
import Derived.Test.YtafepficapdepaaRefEnc8
import Derived.Test.YtafepficapdepaaRefGood8
namespace Go.Proofs.Ytafepficapdepaa.attrWrites
open Go.RowKit Go.Proofs.Ytafepficapdepaa.kit Go.Proofs.Ytafepficapdepaa.mem Go.Proofs.Ytafepficapdepaa.foot Go.Proofs.Ytafepficapdepaa.nums Go.Proofs.Ytafepficapdepaa.asn Go.Proofs.Ytafepficapdepaa.pth Go.Proofs.Ytafepficapdepaa.octet Go.Proofs.Ytafepficapdepaa.attr
set_option linter.unusedVariables false
set_option linter.unusedSimpArgs false
set_option maxRecDepth 100000 in
set_option maxHeartbeats 8000000 in
theorem core (a : Atr) (Ap Ac : Option Addr) (cp cc : Nat) (G : Foot) (W : World) (hm : Am W G a Ap cp Ac cc) :
    Calls Try.prog 8 #[.agg (atc a Ap cp Ac cc).toArray] W fun e w' => e = .returned (.bool true) ∧ Below W.heap.size W w' := by
  have HSz : Hid ((Try.prog.info? 76).map (·.size) = some 9) := info_atr
  have HSn : Hid ((Try.prog.info? 34).map (·.size) = some 3) := info_ntc
  obtain ⟨i0, hi, hz0, hz1, hz2⟩ := info_parts info_u8
  have Hi := Lib.hid hi
  have Hz0 := Lib.hid hz0
  have Hz1 := Lib.hid hz1
  have Hz2 := Lib.hid hz2
  have hb1 : Below W.heap.size W (W.alloc (.cells (atc a Ap cp Ac cc).toArray 76)) := (Below.refl _ _).alloc (Nat.le_refl _) _
  have HF1 := Lib.hid (Few8_any a Ap Ac cp cc G (W.alloc (.cells (atc a Ap cp Ac cc).toArray 76)) (hm.bel hb1))
  have HB1 := Lib.hid hb1
  have HK1 := Lib.hid (Bk.new W 76 (atc a Ap cp Ac cc).toArray)
  have hpz : nsz (fewA a).path ≤ 3612 := fewP_sz a.path
  have hcz : (fewA a).comms.length ≤ 260 := by show (a.comms.take 260).length ≤ 260; rw [List.length_take]; omega
  have hf2 := fewA_twice a
  have HL1 : Hid (W.heap.size < (W.alloc (.cells (atc a Ap cp Ac cc).toArray 76)).heap.size) := by rw [Hid]; simp
  have HC1 : Hid ((atc a Ap cp Ac cc).length = 9) := rfl
  clear hi hz0 hz1 hz2 hb1
  generalize atc a Ap cp Ac cc = cs0 at *
  generalize fewA a = f at *
  have HF : Hid (∀ (w' : World) (Bp Bc : Option Addr) (dp dc : Nat) (E : Foot), Am w' E f Bp dp Bc dc → Calls Try.prog 42 #[.agg (atc f Bp dp Bc dc).toArray] w' (RetA f w')) := fun w' Bp Bc dp dc E h => by have := Few8_any f Bp Bc dp dc E w' h; rwa [hf2] at this
  have HLi := Lib.hid lives_any
  obtain ⟨z, hz⟩ := bool_of (GoodA f)
  have HGd := Lib.hid (fun (w' : World) (Bp Bc : Option Addr) (dp dc : Nat) (E : Foot) (h : Am w' E f Bp dp Bc dc) => refGood_any f Bp Bc dp dc E w' z hz h (by omega) (by omega))
  obtain ⟨g, hg⟩ : ∃ g, g = W.heap.size := ⟨_, rfl⟩
  obtain ⟨w1, hw1⟩ : ∃ w1, w1 = W.alloc (.cells cs0.toArray 76) := ⟨_, rfl⟩
  rw [← hw1] at HF1 HB1 HK1 HL1
  rcases z with _ | _
  · have hng : ¬ GoodA f := by simpa using hz
    have HEn := Lib.hid (fun (w' : World) (Bp Bc : Option Addr) (dp dc : Nat) (E : Foot) (h : Am w' E f Bp dp Bc dc) => Encode_no f Bp Bc dp dc E w' h (by omega) (by omega) hng)
    have HSi := Lib.hid (fun (w' : World) (Bp Bc : Option Addr) (dp dc : Nat) (E : Foot) (h : Am w' E f Bp dp Bc dc) => Size_no f Bp Bc dp dc E w' h (by omega) (by omega) hng)
    clear hm hpz hcz hf2 hz hng
    go_enter Try.func8, Try.ntmps8
    go_upto_region 1 with fail
    rw [← hw1, ← hg]
    rw [← hg] at HK1 HL1
    have HG := Lib.hid hg
    clear hw1 hg
    go_upto_region 2 with (first
      | (refine wpList_loadBk rfl 76 (.tmp 1) rfl g (by rfl) 76 cs0.toArray _ HK1.out Try.underlying76 (by rfl) (by rw [List.size_toArray, HC1.out]; exact HSz.out) ?_)
      | (go_at_call 42; go_loud (refine HF1.out.mono ?_; rintro e w2 ⟨Bp, dp, Bc, dc, rfl, h1, h2⟩); have HA2 := Lib.hid h1; have HB2 := Lib.hid (HB1.out.trans (h2.mono HB1.out.size)); have HK2 := Lib.hid (HK1.out.below h2 HL1.out); clear h1 h2)
      | (refine wpList_storeBk rfl 76 (.tmp 1) (.tmp 9) rfl g (by rfl) (atc f Bp dp Bc dc).toArray (by rfl) 76 cs0.toArray HK2.out HSz.out (by rw [List.size_toArray, HC1.out]; rfl) (by rfl) ?_; intro w3 h5 h6 h7; have K3 := Lib.hid h5; have HB3 := Lib.hid (HB2.out.trans (h6.below (fun k e => by rw [e, HG.out]; exact Nat.le_refl _) HB2.out.size)); have HA3 := Lib.hid (HA2.out.chg h6 (fun k _ hk e => by rw [e] at hk; exact absurd HL1.out (by omega))); clear h5 h6 h7))
    have HM3 := HA3
    go_upto_region 3 with (first
      | (refine wpList_loadBk rfl 76 (.tmp 1) rfl g (by rfl) 76 (atc f Bp dp Bc dc).toArray _ K3.out Try.underlying76 (by rfl) HSz.out ?_)
      | (go_at_call 42; refine (HF.out w3 Bp Bc dp dc _ HM3.out).mono ?_; rintro e w4 ⟨Cp, ep, Cc, ec, rfl, h1, h2⟩; have HA4 := Lib.hid h1; have HB4 := Lib.hid (HB3.out.trans (h2.mono HB3.out.size)); have K4 := Lib.hid (K3.out.below h2 K3.out.lt); have HM4 := Lib.hid (HM3.out.bel h2); clear h1 h2)
      | (go_at_call 43; refine (HEn.out w4 Cp Cc ep ec _ HA4.out).mono ?_; rintro e w5 ⟨rfl, h1⟩; have HB5 := Lib.hid (HB4.out.trans (h1.mono HB4.out.size)); have K5 := Lib.hid (K4.out.below h1 K4.out.lt); have HM5 := Lib.hid (HM4.out.bel h1); clear h1))
    go_upto_region 4 with (first
      | (refine wpList_loadBk rfl 76 (.tmp 1) rfl g (by rfl) 76 (atc f Bp dp Bc dc).toArray _ K5.out Try.underlying76 (by rfl) HSz.out ?_)
      | (go_at_call 44; refine (HGd.out w5 Bp Bc dp dc _ HM5.out).mono ?_; rintro e w6 ⟨rfl, h1⟩; have HB6 := Lib.hid (HB5.out.trans (h1.mono HB5.out.size)); have K6 := Lib.hid (K5.out.below h1 K5.out.lt); have HM6 := Lib.hid (HM5.out.bel h1); clear h1))
    have y0 := (K6.out.cell 0).trans (show _ = some (Value.int .i64 f.has) from rfl)
    have y1 := (K6.out.cell 1).trans (show _ = some (Value.int .i64 f.orig) from rfl)
    have y2 := (K6.out.cell 2).trans (show _ = some (Value.slice Bp f.path.length dp) from rfl)
    have y3 := (K6.out.cell 3).trans (show _ = some (Value.int .u32 f.hop) from rfl)
    have y4 := (K6.out.cell 4).trans (show _ = some (Value.int .u32 f.med) from rfl)
    have y5 := (K6.out.cell 5).trans (show _ = some (Value.int .u32 f.pref) from rfl)
    have y6 := (K6.out.cell 6).trans (show _ = some (Value.int .u32 f.aas) from rfl)
    have y7 := (K6.out.cell 7).trans (show _ = some (Value.int .u32 f.aid) from rfl)
    have y8 := (K6.out.cell 8).trans (show _ = some (Value.slice Bc f.comms.length dc) from rfl)
    go_wp2_with (first
      | (refine wpList_loadBk rfl 76 (.tmp 1) rfl g (by rfl) 76 (atc f Bp dp Bc dc).toArray _ K6.out Try.underlying76 (by rfl) HSz.out ?_)
      | (go_at_call 42; refine (HF.out w6 Bp Bc dp dc _ HM6.out).mono ?_; rintro e w7 ⟨Cp, ep, Cc, ec, rfl, h1, h2⟩; have HA7 := Lib.hid h1; have HB7 := Lib.hid (HB6.out.trans (h2.mono HB6.out.size)); have K7 := Lib.hid (K6.out.below h2 K6.out.lt); have HM7 := Lib.hid (HM6.out.bel h2); clear h1 h2)
      | (go_at_call 45; refine (HSi.out w7 Cp Cc ep ec _ HA7.out).mono ?_; rintro e w8 ⟨rfl, h1⟩; have HB8 := Lib.hid (HB7.out.trans (h1.mono HB7.out.size)); have K8 := Lib.hid (K7.out.below h1 K7.out.lt); have HM8 := Lib.hid (HM7.out.bel h1); clear h1)
      | (go_at_call 39; refine (HLi.out _).mono ?_; rintro e w9 ⟨rfl, h1⟩; have HB9 := Lib.hid (HB8.out.trans (h1.mono HB8.out.size)); clear h1))
    go_ret
    exact ⟨rfl, HB9.out⟩
  · have hgd : GoodA f := hz.1 rfl
    have HEn := Lib.hid (fun (w' : World) (Bp Bc : Option Addr) (dp dc : Nat) (E : Foot) (h : Am w' E f Bp dp Bc dc) => Encode_yes f Bp Bc dp dc E w' h (by omega) (by omega) hgd)
    have HSi := Lib.hid (fun (w' : World) (Bp Bc : Option Addr) (dp dc : Nat) (E : Foot) (h : Am w' E f Bp dp Bc dc) => Size_yes f Bp Bc dp dc E w' h (by omega) (by omega) hgd)
    have HRe := Lib.hid (fun (w' : World) (Bp Bc : Option Addr) (dp dc : Nat) (E : Foot) (h : Am w' E f Bp dp Bc dc) => refEncode_any f Bp Bc dp dc E w' h (by omega) (by omega))
    have HDf : Hid (Gw f → ∀ (A : Option Addr) (c : Nat) (w' : World), (A = none → c = 0) → Bs w' w'.heap.size A (encB f) → Calls Try.prog 36 #[.slice A (encB f).length c] w' (RetDec (.ok f) w')) := fun hw A c w' hA hs => by
      have := Decode_any A c (encB f) w' (encB_len hgd) hA hs
      rwa [dec_enc hgd hw] at this
    have HSm := Lib.hid (fun (w' : World) (Bp Bc Dp Dc : Option Addr) (dp dc fp fc : Nat) (E F : Foot) (h : Am w' E f Bp dp Bc dc) (h2 : Am w' F f Dp fp Dc fc) => refSame_any f f Bp Bc Dp Dc dp dc fp fc E F w' true (by simp) h h2 (by omega) (by omega) (by omega) (by omega))
    have HTd : Hid (∀ w', Calls Try.prog 13 #[.agg #[.int .i64 0, .int .i64 0, .slice none 0 0], .agg #[.int .i64 0, .int .i64 0, .slice none 0 0]] w' fun e w2 => e = .returned (.bool true) ∧ Below w'.heap.size w' w2) := fun w' => refTold_yes 0 0 none none [] 0 0 w' (Bn.nil_ w' (fun _ => True)).bs (Bn.nil_ w' (fun _ => True)).bs
    have hEl := encB_len hgd
    clear hm hpz hcz hf2 hz hgd
    generalize encB f = E at *
    go_enter Try.func8, Try.ntmps8
    go_upto_region 1 with fail
    rw [← hw1, ← hg]
    rw [← hg] at HK1 HL1
    have HG := Lib.hid hg
    clear hw1 hg
    go_upto_region 2 with (first
      | (refine wpList_loadBk rfl 76 (.tmp 1) rfl g (by rfl) 76 cs0.toArray _ HK1.out Try.underlying76 (by rfl) (by rw [List.size_toArray, HC1.out]; exact HSz.out) ?_)
      | (go_at_call 42; go_loud (refine HF1.out.mono ?_; rintro e w2 ⟨Bp, dp, Bc, dc, rfl, h1, h2⟩); have HA2 := Lib.hid h1; have HB2 := Lib.hid (HB1.out.trans (h2.mono HB1.out.size)); have HK2 := Lib.hid (HK1.out.below h2 HL1.out); clear h1 h2)
      | (refine wpList_storeBk rfl 76 (.tmp 1) (.tmp 9) rfl g (by rfl) (atc f Bp dp Bc dc).toArray (by rfl) 76 cs0.toArray HK2.out HSz.out (by rw [List.size_toArray, HC1.out]; rfl) (by rfl) ?_; intro w3 h5 h6 h7; have K3 := Lib.hid h5; have HB3 := Lib.hid (HB2.out.trans (h6.below (fun k e => by rw [e, HG.out]; exact Nat.le_refl _) HB2.out.size)); have HA3 := Lib.hid (HA2.out.chg h6 (fun k _ hk e => by rw [e] at hk; exact absurd HL1.out (by omega))); clear h5 h6 h7))
    have HM3 := HA3
    have HDc := Lib.hid (HDf.out HA3.out.gw)
    go_upto_region 3 with (first
      | (refine wpList_loadBk rfl 76 (.tmp 1) rfl g (by rfl) 76 (atc f Bp dp Bc dc).toArray _ K3.out Try.underlying76 (by rfl) HSz.out ?_)
      | (go_at_call 42; refine (HF.out w3 Bp Bc dp dc _ HM3.out).mono ?_; rintro e w4 ⟨Cp, ep, Cc, ec, rfl, h1, h2⟩; have HA4 := Lib.hid h1; have HB4 := Lib.hid (HB3.out.trans (h2.mono HB3.out.size)); have K4 := Lib.hid (K3.out.below h2 K3.out.lt); have HM4 := Lib.hid (HM3.out.bel h2); clear h1 h2)
      | (go_at_call 43; refine (HEn.out w4 Cp Cc ep ec _ HA4.out).mono ?_; rintro e w5 ⟨A1, c1, rfl, h1, h2, h3⟩; have HO5 := Lib.hid (Bn.of_own h1); have HB5 := Lib.hid (HB4.out.trans (h3.mono HB4.out.size)); have K5 := Lib.hid (K4.out.below h3 K4.out.lt); have HM5 := Lib.hid (HM4.out.bel h3); clear h1 h2 h3))
    go_upto_region 5 with (first
      | (refine wpList_loadBk rfl 76 (.tmp 1) rfl g (by rfl) 76 (atc f Bp dp Bc dc).toArray _ K5.out Try.underlying76 (by rfl) HSz.out ?_)
      | (go_at_call 44; refine (HGd.out w5 Bp Bc dp dc _ HM5.out).mono ?_; rintro e w6 ⟨rfl, h1⟩; have HB6 := Lib.hid (HB5.out.trans (h1.mono HB5.out.size)); have K6 := Lib.hid (K5.out.below h1 K5.out.lt); have HM6 := Lib.hid (HM5.out.bel h1); have HO6 := Lib.hid (HO5.out.bel h1); clear h1))
    go_upto_region 6 with (first
      | (refine wpList_loadBk rfl 76 (.tmp 1) rfl g (by rfl) 76 (atc f Bp dp Bc dc).toArray _ K6.out Try.underlying76 (by rfl) HSz.out ?_)
      | (go_at_call 46; refine (HRe.out w6 Bp Bc dp dc _ HM6.out).mono ?_; rintro e w7 ⟨A2, c2, rfl, h1, h2, h3⟩; have HN7 := Lib.hid (Bn.of_own h1); have HB7 := Lib.hid (HB6.out.trans (h3.mono HB6.out.size)); have K7 := Lib.hid (K6.out.below h3 K6.out.lt); have HM7 := Lib.hid (HM6.out.bel h3); have HO7 := Lib.hid (HO6.out.bel h3); have HN7a := Lib.hid (HN7.out.bel ((Below.refl w7.heap.size w7).alloc (Nat.le_refl _) (.cells #[] 5))); clear h1 h2 h3))
    go_upto_region 7 with (first
      | (at_builtin; refine wpList_app _ rfl (.tmp 38) (.tmp 39) _ rfl 5 i0 _ 1 1 Try.underlying32 Hi.out Hz0.out Hz1.out Hz2.out rfl (by omega) (some ⟨w7.heap.size, 0, none⟩) 0 0 [] rfl (foot.Own.empty (Bk.new w7 _ _)) _ A2 E.length c2 HN7.out.nil (bv E) rfl HN7a.out.rg (bv_one _) (by unfold maxLen; omega) (by omega) ?_; intro A3 c3 w8 ho hc hf; rw [Nat.zero_add] at ho ⊢; have HD8 : Hid (Bn w8 (sf A3) A3 c3 E) := Bn.of_own ho; have h8 : Below w7.heap.size w7 w8 := (((Below.refl _ _).alloc (Nat.le_refl _) _).trans (hc.below (fun j hj => by rw [sf_some] at hj; exact Nat.le_of_eq hj) (by simp))); have HB8 := Lib.hid (HB7.out.trans (h8.mono HB7.out.size)); have K8 := Lib.hid (K7.out.below h8 K7.out.lt); have HM8 := Lib.hid (HM7.out.bel h8); have HO8 := Lib.hid (HO7.out.bel h8); have HN8 := Lib.hid (HN7.out.bel h8); clear ho hc hf h8)
      | (go_at_call 36; refine (HDc.out A3 c3 w8 HD8.out.nil HD8.out.bs).mono ?_; rintro e w9 ⟨Dp, fp, Dc, fc, rfl, h1, h2⟩; have HA9 := Lib.hid h1; have HB9 := Lib.hid (HB8.out.trans (h2.mono HB8.out.size)); have K9 := Lib.hid (K8.out.below h2 K8.out.lt); have HM9 := Lib.hid (HM8.out.bel h2); have HO9 := Lib.hid (HO8.out.bel h2); have HN9 := Lib.hid (HN8.out.bel h2); have HK0 := Lib.hid (Bk.new w9 76 zeroC.toArray); clear h1 h2)
      | (refine wpList_storeBk rfl 76 (.tmp 6) (.tmp 42) rfl w9.heap.size (by rfl) (atc f Dp fp Dc fc).toArray (by rfl) 76 zeroC.toArray (HK0.out.alloc _) HSz.out rfl (by rfl) ?_; intro w10 h5 h6 h7; have K10 := Lib.hid h5; have C10 := Lib.hid h6; clear h5 h6 h7)
      | (refine wpList_storeBk rfl 34 (.tmp 7) (.tmp 43) rfl (w9.heap.size + 1) (by rfl) #[.int .i64 0, .int .i64 0, .slice none 0 0] (by rfl) 34 #[.int .i64 0, .int .i64 0, .slice none 0 0] (Bk.chg (by have := Bk.new (w9.alloc (.cells zeroC.toArray 76)) 34 #[.int .i64 0, .int .i64 0, .slice none 0 0]; rwa [World.size_alloc] at this) C10.out (by omega)) HSn.out rfl (by rfl) ?_; intro w11 h5 h6 h7; have N11 := Lib.hid h5; have C11 := Lib.hid h6; clear h5 h6 h7))
    have HB911 : Hid (Below w9.heap.size w9 w11) := by
      have h1 : Below w9.heap.size w9 ((w9.alloc (.cells zeroC.toArray 76)).alloc (.cells #[.int .i64 0, .int .i64 0, .slice none 0 0] 34)) := ((Below.refl _ _).alloc (Nat.le_refl _) _).alloc (by simp) _
      have h2 := h1.trans (C10.out.below (fun k e => by omega) h1.size)
      exact h2.trans (C11.out.below (fun k e => by omega) h2.size)
    have X11 := Lib.hid (K10.out.chg C11.out (by omega))
    have HB11 := Lib.hid (HB9.out.trans (HB911.out.mono HB9.out.size))
    have K11 := Lib.hid (K9.out.below HB911.out K9.out.lt)
    have HM11 := Lib.hid (HM9.out.bel HB911.out)
    have HO11 := Lib.hid (HO9.out.bel HB911.out)
    have HN11 := Lib.hid (HN9.out.bel HB911.out)
    have HX11 := Lib.hid (HA9.out.bel HB911.out)
    have y0 := (K11.out.cell 0).trans (show _ = some (Value.int .i64 f.has) from rfl)
    have y1 := (K11.out.cell 1).trans (show _ = some (Value.int .i64 f.orig) from rfl)
    have y2 := (K11.out.cell 2).trans (show _ = some (Value.slice Bp f.path.length dp) from rfl)
    have y3 := (K11.out.cell 3).trans (show _ = some (Value.int .u32 f.hop) from rfl)
    have y4 := (K11.out.cell 4).trans (show _ = some (Value.int .u32 f.med) from rfl)
    have y5 := (K11.out.cell 5).trans (show _ = some (Value.int .u32 f.pref) from rfl)
    have y6 := (K11.out.cell 6).trans (show _ = some (Value.int .u32 f.aas) from rfl)
    have y7 := (K11.out.cell 7).trans (show _ = some (Value.int .u32 f.aid) from rfl)
    have y8 := (K11.out.cell 8).trans (show _ = some (Value.slice Bc f.comms.length dc) from rfl)
    have cv1 := run_str (c := c1) HO11.out.bs
    have cv2 := run_str (c := c2) HN11.out.bs
    obtain ⟨g9, hg9⟩ : ∃ g, g = w9.heap.size := ⟨_, rfl⟩
    rw [← hg9] at X11 N11 ⊢
    clear hg9 HK0 K10 C10 C11 HB911
    go_wp2_with (first
      | (refine wpList_loadBk rfl 76 (.tmp 1) rfl g (by rfl) 76 (atc f Bp dp Bc dc).toArray _ (by first | exact K13.out | exact K11.out) Try.underlying76 (by rfl) HSz.out ?_)
      | (refine wpList_loadBk rfl 76 (.tmp 6) rfl g9 (by rfl) 76 (atc f Dp fp Dc fc).toArray _ X13.out Try.underlying76 (by rfl) HSz.out ?_)
      | (go_at_call 42; refine (HF.out w11 Bp Bc dp dc _ HM11.out).mono ?_; rintro e w12 ⟨Ep, ep2, Ec, ec2, rfl, h1, h2⟩; have HA12 := Lib.hid h1; have HB12 := Lib.hid (HB11.out.trans (h2.mono HB11.out.size)); have K12 := Lib.hid (K11.out.below h2 K11.out.lt); have HM12 := Lib.hid (HM11.out.bel h2); have HX12 := Lib.hid (HX11.out.bel h2); have X12 := Lib.hid (X11.out.below h2 X11.out.lt); have N12 := Lib.hid (N11.out.below h2 N11.out.lt); clear h1 h2)
      | (go_at_call 45; refine (HSi.out w12 Ep Ec ep2 ec2 _ HA12.out).mono ?_; rintro e w13 ⟨rfl, h1⟩; have HB13 := Lib.hid (HB12.out.trans (h1.mono HB12.out.size)); have K13 := Lib.hid (K12.out.below h1 K12.out.lt); have HM13 := Lib.hid (HM12.out.bel h1); have HX13 := Lib.hid (HX12.out.bel h1); have X13 := Lib.hid (X12.out.below h1 X12.out.lt); have N13 := Lib.hid (N12.out.below h1 N12.out.lt); have u0 := (K13.out.cell 0).trans (show _ = some (Value.int .i64 f.has) from rfl); have u1 := (K13.out.cell 1).trans (show _ = some (Value.int .i64 f.orig) from rfl); have u2 := (K13.out.cell 2).trans (show _ = some (Value.slice Bp f.path.length dp) from rfl); have u3 := (K13.out.cell 3).trans (show _ = some (Value.int .u32 f.hop) from rfl); have u4 := (K13.out.cell 4).trans (show _ = some (Value.int .u32 f.med) from rfl); have u5 := (K13.out.cell 5).trans (show _ = some (Value.int .u32 f.pref) from rfl); have u6 := (K13.out.cell 6).trans (show _ = some (Value.int .u32 f.aas) from rfl); have u7 := (K13.out.cell 7).trans (show _ = some (Value.int .u32 f.aid) from rfl); have u8 := (K13.out.cell 8).trans (show _ = some (Value.slice Bc f.comms.length dc) from rfl); have x0 := (X13.out.cell 0).trans (show _ = some (Value.int .i64 f.has) from rfl); have x1 := (X13.out.cell 1).trans (show _ = some (Value.int .i64 f.orig) from rfl); have x2 := (X13.out.cell 2).trans (show _ = some (Value.slice Dp f.path.length fp) from rfl); have x3 := (X13.out.cell 3).trans (show _ = some (Value.int .u32 f.hop) from rfl); have x4 := (X13.out.cell 4).trans (show _ = some (Value.int .u32 f.med) from rfl); have x5 := (X13.out.cell 5).trans (show _ = some (Value.int .u32 f.pref) from rfl); have x6 := (X13.out.cell 6).trans (show _ = some (Value.int .u32 f.aas) from rfl); have x7 := (X13.out.cell 7).trans (show _ = some (Value.int .u32 f.aid) from rfl); have x8 := (X13.out.cell 8).trans (show _ = some (Value.slice Dc f.comms.length fc) from rfl); clear h1)
      | (go_at_call 38; refine (HSm.out w13 Dp Dc Bp Bc fp fc dp dc _ _ HX13.out HM13.out).mono ?_; rintro e w14 ⟨rfl, h1⟩; have HB14 := Lib.hid (HB13.out.trans (h1.mono HB13.out.size)); have V4 := N13.out.below h1 N13.out.lt; have v0 := V4.cell 0; have v1 := V4.cell 1; have v2 := V4.cell 2; simp at v0 v1 v2; clear h1 V4)
      | (go_at_call 13; refine (HTd.out w14).mono ?_; rintro e w15 ⟨rfl, h1⟩; have HB15 := Lib.hid (HB14.out.trans (h1.mono HB14.out.size)); clear h1)
      | (go_at_call 39; refine (HLi.out _).mono ?_; rintro e w16 ⟨rfl, h1⟩; have HB16 := Lib.hid (HB15.out.trans (h1.mono HB15.out.size)); clear h1))
    go_ret
    exact ⟨rfl, HB16.out⟩
set_option maxRecDepth 100000 in
theorem walk {H : Type} {enc : TypeId × Value → H} {W : World} {base : Nat} {v0 : Value} {d0 : DataW H} {p0 : List MemPlace}
    (hv0 : Value.okWide Try.prog W .any base 76 v0) (h0 : DataW.Trod enc Try.prog W 0 (fun _ => true) true 76 v0 d0 p0) :
    Calls Try.prog 8 #[v0] W fun e w' => e = .returned (.bool true) ∧ Below W.heap.size W w' := by
  obtain ⟨cs0, a, rfl, Ap, cp, Ac, cc, hcs, hm⟩ := open_st Try.underlying76 opens_atr hv0 h0
  rw [arr_eq hcs]
  exact core a Ap Ac cp cc _ W hm
end Go.Proofs.Ytafepficapdepaa.attrWrites
