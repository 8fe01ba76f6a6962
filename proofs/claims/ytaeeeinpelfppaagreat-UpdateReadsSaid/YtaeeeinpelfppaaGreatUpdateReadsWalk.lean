/- The walk of the law UpdateReads: the Go text returns true and writes nothing that was there. No condition. -/
import Derived.Test.YtaeeeinpelfppaaGreatUpdRef
import Derived.Test.YtaeeeinpelfppaaGreatUpdLives
import Derived.Test.YtaeeeinpelfppaaGreatAttrPathsWalk
import Derived.Test.YtaeeeinpelfppaaGreatRefAttr
import Derived.Test.YtaeeeinpelfppaaGreatAttrDecSz
namespace Go.Proofs.YtaeeeinpelfppaaGreat.updateReads
open Go.RowKit Go.Proofs.YtaeeeinpelfppaaGreat.kit Go.Proofs.YtaeeeinpelfppaaGreat.mem Go.Proofs.YtaeeeinpelfppaaGreat.foot Go.Proofs.YtaeeeinpelfppaaGreat.nums Go.Proofs.YtaeeeinpelfppaaGreat.asn Go.Proofs.YtaeeeinpelfppaaGreat.pth Go.Proofs.YtaeeeinpelfppaaGreat.octet Go.Proofs.YtaeeeinpelfppaaGreat.attr Go.Proofs.YtaeeeinpelfppaaGreat.attrPaths Go.Proofs.YtaeeeinpelfppaaGreat.upd
set_option linter.unusedVariables false
set_option linter.unusedSimpArgs false
theorem two_decN {l : List UInt8} {g : List (Nat × Int)} (h : nlri.dec l = some g) : g.length ≤ l.length := nlri.dec_len _ l rfl g h
theorem uU_sz {l : List UInt8} (hl : l.length ≤ 50000) : (uU (updS l)).gone.length ≤ 100000 ∧ (uU (updS l)).here.length ≤ 100000 ∧ nsz (uU (updS l)).a.path ≤ 1000000 ∧ (uU (updS l)).a.comms.length ≤ 1000000 := by
  have hz : (zeroU.gone.length ≤ 100000 ∧ zeroU.here.length ≤ 100000 ∧ nsz zeroU.a.path ≤ 1000000 ∧ zeroU.a.comms.length ≤ 1000000) := ⟨Nat.zero_le _, Nat.zero_le _, Nat.zero_le _, Nat.zero_le _⟩
  unfold updS
  rcases hp : upd.part l with _ | ⟨x, q⟩
  · exact hz
  · obtain ⟨h1, h2, _⟩ := part_len hp
    dsimp only
    rcases hd : nlri.dec x with _ | g
    · exact hz
    · dsimp only
      have h3 := two_decN hd
      unfold updB
      rcases hp2 : upd.part q with _ | ⟨y, q2⟩
      · exact hz
      · obtain ⟨h4, h5, _⟩ := part_len hp2
        dsimp only
        rcases hda : decS y with a | ⟨s, d⟩
        · dsimp only
          have ha := attrReads.decF_sz _ y [] zeroA a (by omega) (Nat.zero_le _) (Nat.zero_le _) hda
          unfold updC
          split
          · exact ⟨by show g.length ≤ _; omega, Nat.zero_le _, Nat.zero_le _, Nat.zero_le _⟩
          · split
            · exact hz
            · rcases hd2 : nlri.dec q2 with _ | h
              · exact hz
              · have h6 := two_decN hd2
                exact ⟨by show g.length ≤ _; omega, by show h.length ≤ _; omega, by show nsz a.path ≤ _; omega, by show a.comms.length ≤ _; omega⟩
        · exact hz
set_option maxRecDepth 100000 in
set_option maxHeartbeats 8000000 in
theorem core (A : Option Addr) (c : Nat) (l : List UInt8) (W : World) (hA : A = none → c = 0) (hcap : l.length ≤ c) (hm : c ≤ maxLen) (hs : Bs W W.heap.size A l) :
    Calls Tryz.prog 3 #[.slice A l.length c] W fun e w' => e = .returned (.bool true) ∧ Below W.heap.size W w' := by
  have HSu : Hid ((Tryz.prog.info? 31).map (·.size) = some 11) := info_upd
  have HSn : Hid ((Tryz.prog.info? 33).map (·.size) = some 3) := info_ntc
  have HB1 := Lib.hid (bytesN_any A c 1500 l W (by omega) hcap hm hA hs)
  obtain ⟨M, hM⟩ : ∃ M, M = l.take 1500 := ⟨_, rfl⟩
  have hMl : M.length ≤ 1500 := by rw [hM, List.length_take]; omega
  have hMt : M.take 1500 = M := List.take_of_length_le hMl
  rw [← hM] at HB1
  have HB2 : Hid (∀ (A1 : Option Addr) (c1 : Nat) (G : Foot) (w : World), Bn w G A1 c1 M → Calls Tryz.prog 5 #[.slice A1 M.length c1, .int .i64 1500] w fun e w' => ∃ A' c', e = .returned (.slice A' M.length c') ∧ Bn w' (fun k => w.heap.size ≤ k) A' c' M ∧ Below w.heap.size w w') := fun A1 c1 G w h => by
    have := bytesN_any A1 c1 1500 M w (by omega) h.cap h.max h.nil h.bs
    rw [hMt] at this
    exact this
  have HDe : Hid (∀ (A1 : Option Addr) (c1 : Nat) (G : Foot) (w : World), Bn w G A1 c1 M → Calls Tryz.prog 6 #[.slice A1 M.length c1] w (RetUp (fun _ _ => True) (updS M) w)) := fun A1 c1 G w h => (upd.Decode_any A1 c1 M w (by omega) h.nil h.bs).mono fun _ _ h => by
    obtain ⟨A1, c1, Ap, cp, Ac, cc, A2, c2, An, cn, rfl, h1, h2, h3⟩ := h
    exact ⟨A1, c1, Ap, cp, Ac, cc, A2, c2, An, cn, rfl, h1.mono fun _ _ _ => trivial, h2.mono fun _ _ _ => trivial, h3⟩
  have HDr : Hid (∀ (A1 : Option Addr) (c1 : Nat) (G : Foot) (w : World), Bn w G A1 c1 M → Calls Tryz.prog 7 #[.slice A1 M.length c1] w (RetUp (fun _ _ => True) (updS M) w)) := fun A1 c1 G w h => upd.refDecode_any A1 c1 G M w (by omega) h
  have hdz := uU_sz (l := M) (by omega)
  obtain ⟨D, hD⟩ : ∃ D, D = updS M := ⟨_, rfl⟩
  rw [← hD] at HDe HDr hdz
  have HLi := Lib.hid upd.lives_any
  have HSm : Hid (∀ (w' : World) A1 c1 Ap cp Ac cc A2 c2 B1 d1 Bp dp Bc dc B2 d2, Um w' (fun _ => True) (uU D) A1 c1 Ap cp Ac cc A2 c2 → Um w' (fun _ => True) (uU D) B1 d1 Bp dp Bc dc B2 d2 → Calls Tryz.prog 8 #[.agg (upc A1 (uU D).gone.length c1 (atc (uU D).a Ap cp Ac cc) A2 (uU D).here.length c2).toArray, .agg (upc B1 (uU D).gone.length d1 (atc (uU D).a Bp dp Bc dc) B2 (uU D).here.length d2).toArray] w' fun e w2 => e = .returned (.bool true) ∧ Below w'.heap.size w' w2) := fun w' A1 c1 Ap cp Ac cc A2 c2 B1 d1 Bp dp Bc dc B2 d2 h1 h2 => refSame10_any (uU D) (uU D) A1 c1 Ap cp Ac cc A2 c2 B1 d1 Bp dp Bc dc B2 d2 _ _ w' true (by simp) h1 h2 hdz.1 hdz.2.1 hdz.1 hdz.2.1 hdz.2.2.1 hdz.2.2.1 hdz.2.2.2 hdz.2.2.2
  have HTd : Hid (∀ (w' : World) A1 c1 A2 c2, Bn w' (fun _ => True) A1 c1 (uD D) → Bn w' (fun _ => True) A2 c2 (uD D) → Calls Tryz.prog 9 #[.agg #[.int .i64 (uC D), .int .i64 (uS D), .slice A1 (uD D).length c1], .agg #[.int .i64 (uC D), .int .i64 (uS D), .slice A2 (uD D).length c2]] w' fun e w2 => e = .returned (.bool true) ∧ Below w'.heap.size w' w2) := fun w' A1 c1 A2 c2 h1 h2 => refTold_yes (uC D) (uS D) A1 A2 (uD D) c1 c2 w' h1.bs h2.bs
  clear hA hcap hm hs hM hMt hD hdz
  unfold RetUp at HDe HDr
  generalize hdC : uC D = nc at *
  generalize hdS : uS D = ns at *
  generalize uU D = a at *
  generalize uD D = nd at *
  clear hdC hdS
  go_enter Tryz.func3, Tryz.ntmps3
  go_upto_region 2 with (go_at_call 5; refine HB1.out.mono ?_; rintro e w1 ⟨A1, c1, rfl, hn1, hb1⟩; have HN1 := Lib.hid hn1; have HW1 := Lib.hid hb1; have HB2x := Lib.hid (HB2.out A1 c1 _ w1 hn1); clear hn1 hb1)
  go_upto_region 3 with (first
    | (go_at_call 5; refine HB2x.out.mono ?_; rintro e w2 ⟨A2, c2, rfl, hn2, hb2⟩; have HW2 := Lib.hid (HW1.out.trans (hb2.mono HW1.out.size)); have HN2 := Lib.hid (HN1.out.bel hb2); have HDx := Lib.hid (HDe.out A2 c2 _ w2 hn2); clear hn2 hb2)
    | (go_at_call 6; refine HDx.out.mono ?_; rintro e w3 ⟨P1, p1, Pp, pp, Pc, pc, P2, p2, nA, nn, rfl, h1, h2, h3⟩; have HW3 := Lib.hid (HW2.out.trans (h3.mono HW2.out.size)); have HN3 := Lib.hid (HN2.out.bel h3); have HA3 := Lib.hid h1; have HT3 := Lib.hid h2; have HK0 := Lib.hid (Bk.new w3 31 zeroUC.toArray); clear h1 h2 h3)
    | (refine wpList_storeBk rfl 31 (.tmp 3) (.tmp 13) rfl w3.heap.size (by rfl) (upc P1 a.gone.length p1 (atc a.a Pp pp Pc pc) P2 a.here.length p2).toArray (by rfl) 31 zeroUC.toArray (HK0.out.alloc _) HSu.out rfl (by rfl) ?_; intro w4 h5 h6 h7; have K4 := Lib.hid h5; have C4 := Lib.hid h6; clear h5 h6 h7)
    | (refine wpList_storeBk rfl 33 (.tmp 4) (.tmp 14) rfl (w3.heap.size + 1) (by rfl) (nt nc ns nA nd.length nn).toArray (by rfl) 33 zeroN.toArray (Bk.chg (by have := Bk.new (w3.alloc (.cells zeroUC.toArray 31)) 33 zeroN.toArray; rwa [World.size_alloc] at this) C4.out (by omega)) HSn.out rfl (by rfl) ?_; intro w5 h5 h6 h7; have K5 := Lib.hid h5; have C5 := Lib.hid h6; clear h5 h6 h7))
  have X3 := Lib.hid (K4.out.chg C5.out (by omega))
  have HB35 : Hid (Below w3.heap.size w3 w5) := by
    have h1 := (heads w3 zeroUC zeroN 31 33).1
    have h2 := h1.trans (C4.out.below (fun k e => by omega) h1.size)
    exact h2.trans (C5.out.below (fun k e => by omega) h2.size)
  have HW5 := Lib.hid (HW3.out.trans (HB35.out.mono HW3.out.size))
  have HDy := Lib.hid (HDr.out A1 c1 _ w5 (HN3.out.bel HB35.out))
  have HA5 := Lib.hid (HA3.out.bel HB35.out)
  have HT5 := Lib.hid (HT3.out.bel HB35.out)
  obtain ⟨g3, hg3⟩ : ∃ g, g = w3.heap.size := ⟨_, rfl⟩
  rw [← hg3] at X3 K5 ⊢
  clear hg3 HK0 K4 C4 C5 HB35 HA3 HT3
  go_upto_region 4 with (first
    | (go_at_call 7; refine HDy.out.mono ?_; rintro e w6 ⟨Q1, q1, Qp, qp, Qc, qc, Q2, q2, nB, nm, rfl, h1, h2, h3⟩; have HW6 := Lib.hid (HW5.out.trans (h3.mono HW5.out.size)); have Y3 := Lib.hid (X3.out.below h3 X3.out.lt); have Y4 := Lib.hid (K5.out.below h3 K5.out.lt); have HA6 := Lib.hid (HA5.out.bel h3); have HT6 := Lib.hid (HT5.out.bel h3); have HC6 := Lib.hid h1; have HU6 := Lib.hid h2; have HK0 := Lib.hid (Bk.new w6 31 zeroUC.toArray); clear h1 h2 h3)
    | (refine wpList_storeBk rfl 31 (.tmp 5) (.tmp 18) rfl w6.heap.size (by rfl) (upc Q1 a.gone.length q1 (atc a.a Qp qp Qc qc) Q2 a.here.length q2).toArray (by rfl) 31 zeroUC.toArray (HK0.out.alloc _) HSu.out rfl (by rfl) ?_; intro w7 h5 h6 h7; have K7 := Lib.hid h5; have C7 := Lib.hid h6; clear h5 h6 h7)
    | (refine wpList_storeBk rfl 33 (.tmp 6) (.tmp 19) rfl (w6.heap.size + 1) (by rfl) (nt nc ns nB nd.length nm).toArray (by rfl) 33 zeroN.toArray (Bk.chg (by have := Bk.new (w6.alloc (.cells zeroUC.toArray 31)) 33 zeroN.toArray; rwa [World.size_alloc] at this) C7.out (by omega)) HSn.out rfl (by rfl) ?_; intro w8 h5 h6 h7; have K8 := Lib.hid h5; have C8 := Lib.hid h6; clear h5 h6 h7))
  have HB68 : Hid (Below w6.heap.size w6 w8) := by
    have h1 := (heads w6 zeroUC zeroN 31 33).1
    have h2 := h1.trans (C7.out.below (fun k e => by omega) h1.size)
    exact h2.trans (C8.out.below (fun k e => by omega) h2.size)
  have Z5 := Lib.hid (K7.out.chg C8.out (by omega))
  have Z3 := Lib.hid (Y3.out.below HB68.out Y3.out.lt)
  have Z4 := Lib.hid (Y4.out.below HB68.out Y4.out.lt)
  have HW8 := Lib.hid (HW6.out.trans (HB68.out.mono HW6.out.size))
  have HSx := Lib.hid (HSm.out w8 P1 p1 Pp pp Pc pc P2 p2 Q1 q1 Qp qp Qc qc Q2 q2 (HA6.out.bel HB68.out) (HC6.out.bel HB68.out))
  have HTx := Lib.hid (fun w' (h : Below w8.heap.size w8 w') => HTd.out w' nA nn nB nm ((HT6.out.bel HB68.out).bel h) ((HU6.out.bel HB68.out).bel h))
  obtain ⟨g6, hg6⟩ : ∃ g, g = w6.heap.size := ⟨_, rfl⟩
  rw [← hg6] at Z5 K8 ⊢
  clear hg6 HK0 K7 C7 C8 HB68
  go_wp2_with (first
    | (refine wpList_loadBk rfl 31 (.tmp 3) rfl g3 (by rfl) 31 (upc P1 a.gone.length p1 (atc a.a Pp pp Pc pc) P2 a.here.length p2).toArray _ Z3.out Tryz.underlying31 (by rfl) HSu.out ?_)
    | (refine wpList_loadBk rfl 31 (.tmp 5) rfl g6 (by rfl) 31 (upc Q1 a.gone.length q1 (atc a.a Qp qp Qc qc) Q2 a.here.length q2).toArray _ Z5.out Tryz.underlying31 (by rfl) HSu.out ?_)
    | (go_at_call 8; refine HSx.out.mono ?_; rintro e w9 ⟨rfl, h1⟩; have HW9 := Lib.hid (HW8.out.trans (h1.mono HW8.out.size)); have V4 := (Z4.out.below h1 Z4.out.lt); have v0 := V4.cell 0; have v1 := V4.cell 1; have v2 := V4.cell 2; have V6 := (K8.out.below h1 K8.out.lt); have x0 := V6.cell 0; have x1 := V6.cell 1; have x2 := V6.cell 2; simp [nt] at v0 v1 v2 x0 x1 x2; have HTy := Lib.hid (HTx.out w9 h1); clear h1 V4 V6)
    | (go_at_call 9; refine HTy.out.mono ?_; rintro e w10 ⟨rfl, h1⟩; have HW10 := Lib.hid (HW9.out.trans (h1.mono HW9.out.size)); clear h1)
    | (go_at_call 10; refine (HLi.out _).mono ?_; rintro e w11 ⟨rfl, h1⟩; have HW11 := Lib.hid (HW10.out.trans (h1.mono HW10.out.size)); clear h1))
  go_ret
  exact ⟨rfl, HW11.out⟩
set_option maxRecDepth 100000 in
theorem walk {H : Type} {enc : TypeId × Value → H} {W : World} {base : Nat} {v0 : Value} {d0 : DataW H} {p0 : List MemPlace}
    (hv0 : Value.okWide Tryz.prog W .any base 22 v0) (h0 : DataW.Trod enc Tryz.prog W 0 (fun _ => true) true 22 v0 d0 p0) :
    Calls Tryz.prog 3 #[v0] W fun e w' => e = .returned (.bool true) ∧ Below W.heap.size W w' := by
  obtain ⟨A, c, l, rfl, hA, hcap, hm, hs⟩ := open_bytes Tryz.underlying22 Tryz.underlying5 (by kernel_rfl) hv0 h0
  exact core A c l W hA hcap hm hs
end Go.Proofs.YtaeeeinpelfppaaGreat.updateReads
