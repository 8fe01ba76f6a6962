/- The walk of the law AttrReads: the Go text returns true and writes nothing that was there. No condition. -/
import Derived.Test.YtafepficapdepaaRefDecode8
import Derived.Test.YtafepficapdepaaRefSame8
import Derived.Test.YtafepficapdepaaAttrPathsWalk
namespace Go.Proofs.Ytafepficapdepaa.attrReads
open Go.RowKit Go.Proofs.Ytafepficapdepaa.kit Go.Proofs.Ytafepficapdepaa.mem Go.Proofs.Ytafepficapdepaa.foot Go.Proofs.Ytafepficapdepaa.nums Go.Proofs.Ytafepficapdepaa.asn Go.Proofs.Ytafepficapdepaa.pth Go.Proofs.Ytafepficapdepaa.octet Go.Proofs.Ytafepficapdepaa.attr Go.Proofs.Ytafepficapdepaa.attrPaths
set_option linter.unusedVariables false
set_option linter.unusedSimpArgs false
theorem att1_v {l q : List UInt8} {x : At1} (h : att1 l = some (x, q)) : x.v.length ≤ l.length := by
  rcases l with _ | ⟨f, _ | ⟨k, t⟩⟩
  · cases h
  · cases h
  · dsimp only [att1] at h
    split at h
    · have e := congrArg Prod.fst (Option.some.inj h)
      simp only at e
      rw [← e]
      simp only [List.length_take, List.length_drop, List.length_cons]
      omega
    · cases h
theorem decF_sz : ∀ (n : Nat) (l : List UInt8) (seen : List Nat) (a r : Atr), l.length ≤ 50000 → nsz a.path ≤ 100000 → a.comms.length ≤ 50000 → decF n l seen a = .ok r → nsz r.path ≤ 200000 ∧ r.comms.length ≤ 50000
  | n, [], seen, a, r, _, hp, hc, h => by
    have e : normA a = r := by cases n <;> exact Dec.ok.inj h
    have h1 := nsz_normA a
    have h2 := comms_normA a
    rw [← e]
    omega
  | 0, b :: l, seen, a, r, _, hp, hc, h => by
    have e : a = r := Dec.ok.inj h
    subst e
    omega
  | n + 1, b :: l, seen, a, r, hl, hp, hc, h => by
    unfold decF at h
    rcases hx : att1 (b :: l) with _ | ⟨x, q⟩
    · rw [hx] at h; cases h
    · rw [hx] at h
      dsimp only at h
      have h1 := att1_v hx
      have h2 := att1_lt hx
      split at h
      · cases h
      · split at h
        · cases h
        · have h3 := wrongS_sz a x.f x.k x.v (by omega) hp hc
          exact decF_sz n q _ _ r (by omega) h3.1 h3.2 h
def dA : Dec → Atr | .ok a => a | .err _ _ => zeroA
def dC : Dec → Int | .ok _ => 0 | .err _ _ => 3
def dS : Dec → Int | .ok _ => 0 | .err s _ => (s : Int)
def dD : Dec → List UInt8 | .ok _ => [] | .err _ d => d
theorem dA_sz {l : List UInt8} (hl : l.length ≤ 50000) : nsz (dA (decS l)).path ≤ 1000000 ∧ (dA (decS l)).comms.length ≤ 1000000 := by
  rcases h : decS l with a | ⟨s, d⟩
  · have := decF_sz _ l [] zeroA a hl (Nat.zero_le _) (Nat.zero_le _) h
    show nsz a.path ≤ 1000000 ∧ a.comms.length ≤ 1000000
    omega
  · exact ⟨Nat.zero_le _, Nat.zero_le _⟩
/-- either answer, in one form -/
def RetU (D : Dec) (w : World) (e : Ending) (w' : World) : Prop :=
  ∃ Ap cp Ac cc A c, e = .returned (.tuple #[.agg (atc (dA D) Ap cp Ac cc).toArray, .agg #[.int .i64 (dC D), .int .i64 (dS D), .slice A (dD D).length c]]) ∧ Am w' (fun _ => True) (dA D) Ap cp Ac cc ∧ Bn w' (fun _ => True) A c (dD D) ∧ Below w.heap.size w w'
theorem u_dec {D : Dec} {w w' : World} {e : Ending} (h : RetDec D w e w') : RetU D w e w' := by
  rcases D with a | ⟨s, d⟩
  · obtain ⟨Ap, cp, Ac, cc, rfl, h1, h2⟩ := h
    exact ⟨Ap, cp, Ac, cc, none, 0, rfl, h1.mono fun _ _ _ => trivial, Bn.nil_ _ _, h2⟩
  · obtain ⟨A, c, rfl, h1, h2⟩ := h
    exact ⟨none, 0, none, 0, A, c, rfl, Am.zero _ _, h1.mono fun _ _ _ => trivial, h2⟩
theorem u_dr {D : Dec} {w w' : World} {e : Ending} (h : RetDr D w e w') : RetU D w e w' := by
  rcases D with a | ⟨s, d⟩
  · obtain ⟨Ap, cp, Ac, cc, rfl, h1, h2⟩ := h
    exact ⟨Ap, cp, Ac, cc, none, 0, rfl, h1.mono fun _ _ _ => trivial, Bn.nil_ _ _, h2⟩
  · obtain ⟨A, c, rfl, h1, h2⟩ := h
    exact ⟨none, 0, none, 0, A, c, rfl, Am.zero _ _, h1, h2⟩
set_option maxRecDepth 100000 in
set_option maxHeartbeats 8000000 in
theorem core (A : Option Addr) (c : Nat) (l : List UInt8) (W : World) (hA : A = none → c = 0) (hcap : l.length ≤ c) (hm : c ≤ maxLen) (hs : Bs W W.heap.size A l) :
    Calls Try.prog 6 #[.slice A l.length c] W fun e w' => e = .returned (.bool true) ∧ Below W.heap.size W w' := by
  have HSz : Hid ((Try.prog.info? 76).map (·.size) = some 9) := info_atr
  have HSn : Hid ((Try.prog.info? 34).map (·.size) = some 3) := info_ntc
  have HB1 := Lib.hid (bytesN_any A c 1500 l W (by omega) hcap hm hA hs)
  obtain ⟨M, hM⟩ : ∃ M, M = l.take 1500 := ⟨_, rfl⟩
  have hMl : M.length ≤ 1500 := by rw [hM, List.length_take]; omega
  have hMt : M.take 1500 = M := List.take_of_length_le hMl
  rw [← hM] at HB1
  have HB2 : Hid (∀ (A1 : Option Addr) (c1 : Nat) (G : Foot) (w : World), Bn w G A1 c1 M → Calls Try.prog 35 #[.slice A1 M.length c1, .int .i64 1500] w fun e w' => ∃ A' c', e = .returned (.slice A' M.length c') ∧ Bn w' (fun k => w.heap.size ≤ k) A' c' M ∧ Below w.heap.size w w') := fun A1 c1 G w h => by
    have := bytesN_any A1 c1 1500 M w (by omega) h.cap h.max h.nil h.bs
    rw [hMt] at this
    exact this
  have HDe : Hid (∀ (A1 : Option Addr) (c1 : Nat) (G : Foot) (w : World), Bn w G A1 c1 M → Calls Try.prog 36 #[.slice A1 M.length c1] w (RetU (decS M) w)) := fun A1 c1 G w h => (Decode_any A1 c1 M w (by omega) h.nil h.bs).mono fun _ _ h => u_dec h
  have HDr : Hid (∀ (A1 : Option Addr) (c1 : Nat) (G : Foot) (w : World), Bn w G A1 c1 M → Calls Try.prog 37 #[.slice A1 M.length c1] w (RetU (decS M) w)) := fun A1 c1 G w h => (refDecode_any A1 c1 G M w (by omega) h).mono fun _ _ h => u_dr h
  have hdz := dA_sz (l := M) (by omega)
  obtain ⟨D, hD⟩ : ∃ D, D = decS M := ⟨_, rfl⟩
  rw [← hD] at HDe HDr hdz
  have HLi := Lib.hid lives_any
  have HSm : Hid (∀ (w' : World) Ap cp Ac cc Bp dp Bc dc, Am w' (fun _ => True) (dA D) Ap cp Ac cc → Am w' (fun _ => True) (dA D) Bp dp Bc dc → Calls Try.prog 38 #[.agg (atc (dA D) Ap cp Ac cc).toArray, .agg (atc (dA D) Bp dp Bc dc).toArray] w' fun e w2 => e = .returned (.bool true) ∧ Below w'.heap.size w' w2) := fun w' Ap cp Ac cc Bp dp Bc dc h1 h2 => refSame_any (dA D) (dA D) Ap Ac Bp Bc cp cc dp dc _ _ w' true (by simp) h1 h2 hdz.1 hdz.1 hdz.2 hdz.2
  have HTd : Hid (∀ (w' : World) A1 c1 A2 c2, Bn w' (fun _ => True) A1 c1 (dD D) → Bn w' (fun _ => True) A2 c2 (dD D) → Calls Try.prog 13 #[.agg #[.int .i64 (dC D), .int .i64 (dS D), .slice A1 (dD D).length c1], .agg #[.int .i64 (dC D), .int .i64 (dS D), .slice A2 (dD D).length c2]] w' fun e w2 => e = .returned (.bool true) ∧ Below w'.heap.size w' w2) := fun w' A1 c1 A2 c2 h1 h2 => refTold_yes (dC D) (dS D) A1 A2 (dD D) c1 c2 w' h1.bs h2.bs
  clear hA hcap hm hs hM hMt hD hdz
  unfold RetU at HDe HDr
  generalize hdC : dC D = nc at *
  generalize hdS : dS D = ns at *
  generalize dA D = a at *
  generalize dD D = nd at *
  clear hdC hdS
  go_enter Try.func6, Try.ntmps6
  go_upto_region 2 with (go_at_call 35; refine HB1.out.mono ?_; rintro e w1 ⟨A1, c1, rfl, hn1, hb1⟩; have HN1 := Lib.hid hn1; have HW1 := Lib.hid hb1; have HB2x := Lib.hid (HB2.out A1 c1 _ w1 hn1); clear hn1 hb1)
  go_upto_region 3 with (first
    | (go_at_call 35; refine HB2x.out.mono ?_; rintro e w2 ⟨A2, c2, rfl, hn2, hb2⟩; have HW2 := Lib.hid (HW1.out.trans (hb2.mono HW1.out.size)); have HN2 := Lib.hid (HN1.out.bel hb2); have HDx := Lib.hid (HDe.out A2 c2 _ w2 hn2); clear hn2 hb2)
    | (go_at_call 36; refine HDx.out.mono ?_; rintro e w3 ⟨Ap, cp, Ac, cc, nA, nn, rfl, h1, h2, h3⟩; have HW3 := Lib.hid (HW2.out.trans (h3.mono HW2.out.size)); have HN3 := Lib.hid (HN2.out.bel h3); have HA3 := Lib.hid h1; have HT3 := Lib.hid h2; have HK0 := Lib.hid (Bk.new w3 76 zeroC.toArray); clear h1 h2 h3)
    | (refine wpList_storeBk rfl 76 (.tmp 3) (.tmp 13) rfl w3.heap.size (by rfl) (atc a Ap cp Ac cc).toArray (by rfl) 76 zeroC.toArray (HK0.out.alloc _) HSz.out rfl (by rfl) ?_; intro w4 h5 h6 h7; have K4 := Lib.hid h5; have C4 := Lib.hid h6; clear h5 h6 h7)
    | (refine wpList_storeBk rfl 34 (.tmp 4) (.tmp 14) rfl (w3.heap.size + 1) (by rfl) #[.int .i64 nc, .int .i64 ns, .slice nA nd.length nn] (by rfl) 34 #[.int .i64 0, .int .i64 0, .slice none 0 0] (Bk.chg (by have := Bk.new (w3.alloc (.cells zeroC.toArray 76)) 34 #[.int .i64 0, .int .i64 0, .slice none 0 0]; rwa [World.size_alloc] at this) C4.out (by omega)) HSn.out rfl (by rfl) ?_; intro w5 h5 h6 h7; have K5 := Lib.hid h5; have C5 := Lib.hid h6; clear h5 h6 h7))
  have X3 := Lib.hid (K4.out.chg C5.out (by omega))
  have HB35 : Hid (Below w3.heap.size w3 w5) := by
    have h1 : Below w3.heap.size w3 ((w3.alloc (.cells zeroC.toArray 76)).alloc (.cells #[.int .i64 0, .int .i64 0, .slice none 0 0] 34)) := ((Below.refl _ _).alloc (Nat.le_refl _) _).alloc (by simp) _
    have h2 := h1.trans (C4.out.below (fun k e => by omega) h1.size)
    exact h2.trans (C5.out.below (fun k e => by omega) h2.size)
  have HW5 := Lib.hid (HW3.out.trans (HB35.out.mono HW3.out.size))
  have HDy := Lib.hid (HDr.out A1 c1 _ w5 (HN3.out.bel HB35.out))
  have HA5 := Lib.hid (HA3.out.bel HB35.out)
  have HT5 := Lib.hid (HT3.out.bel HB35.out)
  obtain ⟨g3, hg3⟩ : ∃ g, g = w3.heap.size := ⟨_, rfl⟩
  rw [← hg3] at X3 K5 ⊢
  clear hg3 HK0 K4 C4 C5 HB35 HA3 HT3
  go_upto_region 4 with (first
    | (go_at_call 37; refine HDy.out.mono ?_; rintro e w6 ⟨Bp, dp, Bc, dc, nB, nm, rfl, h1, h2, h3⟩; have HW6 := Lib.hid (HW5.out.trans (h3.mono HW5.out.size)); have Y3 := Lib.hid (X3.out.below h3 X3.out.lt); have Y4 := Lib.hid (K5.out.below h3 K5.out.lt); have HA6 := Lib.hid (HA5.out.bel h3); have HT6 := Lib.hid (HT5.out.bel h3); have HC6 := Lib.hid h1; have HU6 := Lib.hid h2; have HK0 := Lib.hid (Bk.new w6 76 zeroC.toArray); clear h1 h2 h3)
    | (refine wpList_storeBk rfl 76 (.tmp 5) (.tmp 18) rfl w6.heap.size (by rfl) (atc a Bp dp Bc dc).toArray (by rfl) 76 zeroC.toArray (HK0.out.alloc _) HSz.out rfl (by rfl) ?_; intro w7 h5 h6 h7; have K7 := Lib.hid h5; have C7 := Lib.hid h6; clear h5 h6 h7)
    | (refine wpList_storeBk rfl 34 (.tmp 6) (.tmp 19) rfl (w6.heap.size + 1) (by rfl) #[.int .i64 nc, .int .i64 ns, .slice nB nd.length nm] (by rfl) 34 #[.int .i64 0, .int .i64 0, .slice none 0 0] (Bk.chg (by have := Bk.new (w6.alloc (.cells zeroC.toArray 76)) 34 #[.int .i64 0, .int .i64 0, .slice none 0 0]; rwa [World.size_alloc] at this) C7.out (by omega)) HSn.out rfl (by rfl) ?_; intro w8 h5 h6 h7; have K8 := Lib.hid h5; have C8 := Lib.hid h6; clear h5 h6 h7))
  have HB68 : Hid (Below w6.heap.size w6 w8) := by
    have h1 : Below w6.heap.size w6 ((w6.alloc (.cells zeroC.toArray 76)).alloc (.cells #[.int .i64 0, .int .i64 0, .slice none 0 0] 34)) := ((Below.refl _ _).alloc (Nat.le_refl _) _).alloc (by simp) _
    have h2 := h1.trans (C7.out.below (fun k e => by omega) h1.size)
    exact h2.trans (C8.out.below (fun k e => by omega) h2.size)
  have Z5 := Lib.hid (K7.out.chg C8.out (by omega))
  have Z3 := Lib.hid (Y3.out.below HB68.out Y3.out.lt)
  have Z4 := Lib.hid (Y4.out.below HB68.out Y4.out.lt)
  have HW8 := Lib.hid (HW6.out.trans (HB68.out.mono HW6.out.size))
  have HSx := Lib.hid (HSm.out w8 Ap cp Ac cc Bp dp Bc dc (HA6.out.bel HB68.out) (HC6.out.bel HB68.out))
  have HTx := Lib.hid (fun w' (h : Below w8.heap.size w8 w') => HTd.out w' nA nn nB nm ((HT6.out.bel HB68.out).bel h) ((HU6.out.bel HB68.out).bel h))
  obtain ⟨g6, hg6⟩ : ∃ g, g = w6.heap.size := ⟨_, rfl⟩
  rw [← hg6] at Z5 K8 ⊢
  clear hg6 HK0 K7 C7 C8 HB68
  go_wp2_with (first
    | (refine wpList_loadBk rfl 76 (.tmp 3) rfl g3 (by rfl) 76 (atc a Ap cp Ac cc).toArray _ Z3.out Try.underlying76 (by rfl) HSz.out ?_)
    | (refine wpList_loadBk rfl 76 (.tmp 5) rfl g6 (by rfl) 76 (atc a Bp dp Bc dc).toArray _ Z5.out Try.underlying76 (by rfl) HSz.out ?_)
    | (go_at_call 38; refine HSx.out.mono ?_; rintro e w9 ⟨rfl, h1⟩; have HW9 := Lib.hid (HW8.out.trans (h1.mono HW8.out.size)); have V4 := (Z4.out.below h1 Z4.out.lt); have v0 := V4.cell 0; have v1 := V4.cell 1; have v2 := V4.cell 2; have V6 := (K8.out.below h1 K8.out.lt); have x0 := V6.cell 0; have x1 := V6.cell 1; have x2 := V6.cell 2; simp at v0 v1 v2 x0 x1 x2; have HTy := Lib.hid (HTx.out w9 h1); clear h1 V4 V6)
    | (go_at_call 13; refine HTy.out.mono ?_; rintro e w10 ⟨rfl, h1⟩; have HW10 := Lib.hid (HW9.out.trans (h1.mono HW9.out.size)); clear h1)
    | (go_at_call 39; refine (HLi.out _).mono ?_; rintro e w11 ⟨rfl, h1⟩; have HW11 := Lib.hid (HW10.out.trans (h1.mono HW10.out.size)); clear h1))
  go_ret
  exact ⟨rfl, HW11.out⟩
set_option maxRecDepth 100000 in
theorem walk {H : Type} {enc : TypeId × Value → H} {W : World} {base : Nat} {v0 : Value} {d0 : DataW H} {p0 : List MemPlace}
    (hv0 : Value.okWide Try.prog W .any base 32 v0) (h0 : DataW.Trod enc Try.prog W 0 (fun _ => true) true 32 v0 d0 p0) :
    Calls Try.prog 6 #[v0] W fun e w' => e = .returned (.bool true) ∧ Below W.heap.size W w' := by
  obtain ⟨A, c, l, rfl, hA, hcap, hm, hs⟩ := open_bytes Try.underlying32 Try.underlying5 (by kernel_rfl) hv0 h0
  exact core A c l W hA hcap hm hs
end Go.Proofs.Ytafepficapdepaa.attrReads
