/- The walk of the law AttrPaths: the Go text returns true and writes nothing that was there. No condition. -/
import Derived.Test.YtafepficapdepaaRefPath8
import Derived.Test.YtafepficapdepaaAttrLives
import Derived.Test.YtafepficapdepaaRefAsn
namespace Go.Proofs.Ytafepficapdepaa.attrPaths
open Go.RowKit Go.Proofs.Ytafepficapdepaa.kit Go.Proofs.Ytafepficapdepaa.mem Go.Proofs.Ytafepficapdepaa.foot Go.Proofs.Ytafepficapdepaa.nums Go.Proofs.Ytafepficapdepaa.asn Go.Proofs.Ytafepficapdepaa.pth Go.Proofs.Ytafepficapdepaa.octet Go.Proofs.Ytafepficapdepaa.attr
set_option linter.unusedVariables false
set_option linter.unusedSimpArgs false
theorem bytesN_any (A : Option Addr) (c most : Nat) (l : List UInt8) (w : World) (hmo : most ≤ 1099511627776) (hcap : l.length ≤ c) (hm : c ≤ maxLen) (hA : A = none → c = 0) (hs : Bs w w.heap.size A l) :
    Calls Try.prog 35 #[.slice A l.length c, .int .i64 most] w fun e w' => ∃ A' c', e = .returned (.slice A' (l.take most).length c') ∧ Bn w' (fun k => w.heap.size ≤ k) A' c' (l.take most) ∧ Below w.heap.size w w' := by
  refine (Bytes_law A c w.heap.size l most w (Or.inr hmo) hcap (Nat.le_trans hcap hm) hA (Nat.le_refl _) hs).mono ?_
  rintro e w' ⟨A', c', rfl, h1, h2, h3, h4, h5, h6⟩
  exact ⟨A', c', rfl, ⟨h1, h2, h3, Rg.of_rd h4 (Nat.le_refl _) h6⟩, h5⟩
set_option maxRecDepth 100000 in
set_option maxHeartbeats 4000000 in
theorem core (A : Option Addr) (c : Nat) (l : List UInt8) (W : World) (hA : A = none → c = 0) (hcap : l.length ≤ c) (hm : c ≤ maxLen) (hs : Bs W W.heap.size A l) :
    Calls Try.prog 7 #[.slice A l.length c] W fun e w' => e = .returned (.bool true) ∧ Below W.heap.size W w' := by
  have HB1 := Lib.hid (bytesN_any A c 1500 l W (by omega) hcap hm hA hs)
  obtain ⟨M, hM⟩ : ∃ M, M = l.take 1500 := ⟨_, rfl⟩
  have hMl : M.length ≤ 1500 := by rw [hM, List.length_take]; omega
  have hMt : M.take 1500 = M := List.take_of_length_le hMl
  rw [← hM] at HB1
  have HB2 : Hid (∀ (A1 : Option Addr) (c1 : Nat) (G : Foot) (w : World), Bn w G A1 c1 M → Calls Try.prog 35 #[.slice A1 M.length c1, .int .i64 1500] w fun e w' => ∃ A' c', e = .returned (.slice A' M.length c') ∧ Bn w' (fun k => w.heap.size ≤ k) A' c' M ∧ Below w.heap.size w w') := fun A1 c1 G w h => by
    have := bytesN_any A1 c1 1500 M w (by omega) h.cap h.max h.nil h.bs
    rw [hMt] at this
    exact this
  have HPa : Hid (∀ (A1 : Option Addr) (c1 : Nat) (G : Foot) (w : World), Bn w G A1 c1 M → Calls Try.prog 40 #[.slice A1 M.length c1] w (RetPcs (pcs M) w)) := fun A1 c1 G w h => Path_any A1 c1 w.heap.size M w (by omega) h.nil (Nat.le_refl _) h.bs
  have HPr : Hid (∀ (A1 : Option Addr) (c1 : Nat) (G : Foot) (w : World), Bn w G A1 c1 M → Calls Try.prog 41 #[.slice A1 M.length c1] w (RetPcs (pcs M) w)) := fun A1 c1 G w h => refPath_any A1 c1 G M w (by omega) h
  have HLi := Lib.hid lives_any
  have HSm : Hid (∀ (ps : List Sg) (G H : Foot) (w' : World) (A1 A2 : Option Addr) (c1 c2 : Nat), nsz ps ≤ 1000000 → Sp w' G A1 c1 ps → Sp w' H A2 c2 ps → Calls Try.prog 31 #[.slice A1 ps.length c1, .slice A2 ps.length c2] w' fun e w2 => e = .returned (.bool true) ∧ Below w'.heap.size w' w2) := fun ps G H w' A1 A2 c1 c2 h h1 h2 => by
    refine (refSame04_q A1 A2 c1 c2 ps ps _ _ w' h h h1.els h2.els).mono ?_
    rintro e w2 ⟨rfl, hd⟩
    exact ⟨by simp, hd.bel⟩
  have HSm0 : Hid (∀ (w' : World), Calls Try.prog 31 #[.slice none 0 0, .slice none 0 0] w' fun e w2 => e = .returned (.bool true) ∧ Below w'.heap.size w' w2) := fun w' => HSm.out [] (fun _ => True) (fun _ => True) w' none none 0 0 (by simp [nsz]) (Sp.empty _ _) (Sp.empty _ _)
  have HNz : Hid (∀ ps, pcs M = some ps → nsz ps ≤ 1000000) := fun ps h => by have := pcs_nsz h; omega
  clear hA hcap hm hs hM hMt
  obtain ⟨o, ho⟩ : ∃ o, o = pcs M := ⟨_, rfl⟩
  rw [← ho] at HPa HPr HNz
  clear ho
  rcases o with _ | ps
  · have HPa : Hid (∀ (A1 : Option Addr) (c1 : Nat) (G : Foot) (w : World), Bn w G A1 c1 M → Calls Try.prog 40 #[.slice A1 M.length c1] w fun e w' => e = .returned (.tuple #[.slice none 0 0, .bool false]) ∧ Below w.heap.size w w') := fun A1 c1 G w h => (HPa.out A1 c1 G w h).mono (by
      rintro e w' ⟨⟨ps, A, c, h, _⟩ | ⟨_, h⟩, hb⟩
      · cases h
      · exact ⟨h, hb⟩)
    have HPr : Hid (∀ (A1 : Option Addr) (c1 : Nat) (G : Foot) (w : World), Bn w G A1 c1 M → Calls Try.prog 41 #[.slice A1 M.length c1] w fun e w' => e = .returned (.tuple #[.slice none 0 0, .bool false]) ∧ Below w.heap.size w w') := fun A1 c1 G w h => (HPr.out A1 c1 G w h).mono (by
      rintro e w' ⟨⟨ps, A, c, h, _⟩ | ⟨_, h⟩, hb⟩
      · cases h
      · exact ⟨h, hb⟩)
    go_enter Try.func7, Try.ntmps7
    go_upto_region 2 with (go_at_call 35; refine HB1.out.mono ?_; rintro e w1 ⟨A1, c1, rfl, hn1, hb1⟩; have HN1 := Lib.hid hn1; have HW1 := Lib.hid hb1; have HB2x := Lib.hid (HB2.out A1 c1 _ w1 hn1); clear hn1 hb1)
    go_wp2_with (first
      | (go_at_call 35; refine HB2x.out.mono ?_; rintro e w2 ⟨A2, c2, rfl, hn2, hb2⟩; have HW2 := Lib.hid (HW1.out.trans (hb2.mono HW1.out.size)); have HN2 := Lib.hid (HN1.out.bel hb2); have HPx := Lib.hid (HPa.out A2 c2 _ w2 hn2); clear hn2 hb2)
      | (go_at_call 40; refine HPx.out.mono ?_; rintro e w3 ⟨rfl, hb3⟩; have HW3 := Lib.hid (HW2.out.trans (hb3.mono HW2.out.size)); have HPy := Lib.hid (HPr.out A1 c1 _ w3 (HN2.out.bel hb3)); clear hb3)
      | (go_at_call 41; refine HPy.out.mono ?_; rintro e w4 ⟨rfl, hb4⟩; have HW4 := Lib.hid (HW3.out.trans (hb4.mono HW3.out.size)); clear hb4)
      | (go_at_call 31; refine (HSm0.out _).mono ?_; rintro e w5 ⟨rfl, hb5⟩; have HW5 := Lib.hid (HW4.out.trans (hb5.mono HW4.out.size)); clear hb5)
      | (go_at_call 39; refine (HLi.out _).mono ?_; rintro e w6 ⟨rfl, hb6⟩; have HW6 := Lib.hid (HW5.out.trans (hb6.mono HW5.out.size)); clear hb6))
    go_ret
    exact ⟨rfl, HW6.out⟩
  · have hnz := HNz.out ps rfl
    have HPa : Hid (∀ (A1 : Option Addr) (c1 : Nat) (G : Foot) (w : World), Bn w G A1 c1 M → Calls Try.prog 40 #[.slice A1 M.length c1] w fun e w' => ∃ A c, e = .returned (.tuple #[.slice A ps.length c, .bool true]) ∧ Sp w' (fun k => w.heap.size ≤ k) A c ps ∧ Below w.heap.size w w') := fun A1 c1 G w h => (HPa.out A1 c1 G w h).mono (by
      rintro e w' ⟨⟨qs, A, c, h, h2, h3⟩ | ⟨h, _⟩, hb⟩
      · cases h; exact ⟨A, c, h2, h3, hb⟩
      · cases h)
    have HPr : Hid (∀ (A1 : Option Addr) (c1 : Nat) (G : Foot) (w : World), Bn w G A1 c1 M → Calls Try.prog 41 #[.slice A1 M.length c1] w fun e w' => ∃ A c, e = .returned (.tuple #[.slice A ps.length c, .bool true]) ∧ Sp w' (fun k => w.heap.size ≤ k) A c ps ∧ Below w.heap.size w w') := fun A1 c1 G w h => (HPr.out A1 c1 G w h).mono (by
      rintro e w' ⟨⟨qs, A, c, h, h2, h3⟩ | ⟨h, _⟩, hb⟩
      · cases h; exact ⟨A, c, h2, h3, hb⟩
      · cases h)
    generalize hpl : ps.length = pl at *
    go_enter Try.func7, Try.ntmps7
    go_upto_region 2 with (go_at_call 35; refine HB1.out.mono ?_; rintro e w1 ⟨A1, c1, rfl, hn1, hb1⟩; have HN1 := Lib.hid hn1; have HW1 := Lib.hid hb1; have HB2x := Lib.hid (HB2.out A1 c1 _ w1 hn1); clear hn1 hb1)
    go_wp2_with (first
      | (go_at_call 35; refine HB2x.out.mono ?_; rintro e w2 ⟨A2, c2, rfl, hn2, hb2⟩; have HW2 := Lib.hid (HW1.out.trans (hb2.mono HW1.out.size)); have HN2 := Lib.hid (HN1.out.bel hb2); have HPx := Lib.hid (HPa.out A2 c2 _ w2 hn2); clear hn2 hb2)
      | (go_at_call 40; refine HPx.out.mono ?_; rintro e w3 ⟨A3, c3, rfl, hp3, hb3⟩; have HW3 := Lib.hid (HW2.out.trans (hb3.mono HW2.out.size)); have HP3 := Lib.hid hp3; have HPy := Lib.hid (HPr.out A1 c1 _ w3 (HN2.out.bel hb3)); clear hp3 hb3)
      | (go_at_call 41; refine HPy.out.mono ?_; rintro e w4 ⟨A4, c4, rfl, hp4, hb4⟩; have HW4 := Lib.hid (HW3.out.trans (hb4.mono HW3.out.size)); have HSx := Lib.hid (HSm.out ps _ _ w4 A3 A4 c3 c4 hnz (HP3.out.bel hb4) hp4); rw [hpl] at HSx; clear hp4 hb4)
      | (go_at_call 31; refine HSx.out.mono ?_; rintro e w5 ⟨rfl, hb5⟩; have HW5 := Lib.hid (HW4.out.trans (hb5.mono HW4.out.size)); clear hb5)
      | (go_at_call 39; refine (HLi.out _).mono ?_; rintro e w6 ⟨rfl, hb6⟩; have HW6 := Lib.hid (HW5.out.trans (hb6.mono HW5.out.size)); clear hb6))
    go_ret
    exact ⟨rfl, HW6.out⟩
set_option maxRecDepth 100000 in
theorem walk {H : Type} {enc : TypeId × Value → H} {W : World} {base : Nat} {v0 : Value} {d0 : DataW H} {p0 : List MemPlace}
    (hv0 : Value.okWide Try.prog W .any base 32 v0) (h0 : DataW.Trod enc Try.prog W 0 (fun _ => true) true 32 v0 d0 p0) :
    Calls Try.prog 7 #[v0] W fun e w' => e = .returned (.bool true) ∧ Below W.heap.size W w' := by
  obtain ⟨A, c, l, rfl, hA, hcap, hm, hs⟩ := open_bytes Try.underlying32 Try.underlying5 (by kernel_rfl) hv0 h0
  exact core A c l W hA hcap hm hs
end Go.Proofs.Ytafepficapdepaa.attrPaths
