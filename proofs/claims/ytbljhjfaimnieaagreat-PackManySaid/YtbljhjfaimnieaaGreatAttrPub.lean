/- What attr.Decode returns. Condition: at most 50000 bytes. attr's told functions Good, Norm, Same, Flags, Hop, Well. Condition: at most 10^5 pieces and numbers together. -/
import Derived.Test.YtbljhjfaimnieaaGreatAttrDec
import Derived.Great.Walk
namespace Go.Proofs.YtbljhjfaimnieaaGreat.attr
open Go.RowKit Go.Proofs.YtbljhjfaimnieaaGreat.kit Go.Proofs.YtbljhjfaimnieaaGreat.mem Go.Proofs.YtbljhjfaimnieaaGreat.foot Go.Proofs.YtbljhjfaimnieaaGreat.nums Go.Proofs.YtbljhjfaimnieaaGreat.asn Go.Proofs.YtbljhjfaimnieaaGreat.pth Go.Proofs.YtbljhjfaimnieaaGreat.octet
set_option linter.unusedVariables false
set_option linter.unusedSimpArgs false
theorem Bn.nil_ (w : World) (G : Foot) : Bn w G none 0 [] := ⟨fun _ => rfl, Nat.le_refl _, Nat.zero_le _, Rg.nil _ _ _ _⟩
end Go.Proofs.YtbljhjfaimnieaaGreat.attr

namespace Go.Proofs.YtbljhjfaimnieaaGreat.attr
open Go.RowKit Go.Proofs.YtbljhjfaimnieaaGreat.kit Go.Proofs.YtbljhjfaimnieaaGreat.mem Go.Proofs.YtbljhjfaimnieaaGreat.foot Go.Proofs.YtbljhjfaimnieaaGreat.nums Go.Proofs.YtbljhjfaimnieaaGreat.asn Go.Proofs.YtbljhjfaimnieaaGreat.pth Go.Proofs.YtbljhjfaimnieaaGreat.octet
set_option linter.unusedVariables false
set_option linter.unusedSimpArgs false
set_option maxRecDepth 100000 in
set_option maxHeartbeats 2000000 in
theorem NormP_any (a : Atr) (Ap Ac : Option Addr) (cp cc : Nat) (G : Foot) (w : World) (hm : Am w G a Ap cp Ac cc) (hp : nsz a.path ≤ 100000) (hcm : a.comms.length ≤ 1000000) :
    Calls Tryz.prog 38 #[.agg (atc a Ap cp Ac cc).toArray] w (RetA (normA a) w) := by
  have HSz : Hid ((Tryz.prog.info? 26).map (·.size) = some 9) := info_atr
  have hb1 : Below w.heap.size w ((w.alloc (.cells (atc a Ap cp Ac cc).toArray 26)).alloc (.cells zeroC.toArray 26)) := ((Below.refl _ _).alloc (Nat.le_refl _) _).alloc (by simp) _
  have HB1 := Lib.hid hb1
  have HH := Lib.hid (norm_any a Ap Ac cp cc G _ (hm.bel hb1) hp hcm)
  have HK0 : Hid (Bk ((w.alloc (.cells (atc a Ap cp Ac cc).toArray 26)).alloc (.cells zeroC.toArray 26)) w.heap.size 26 (atc a Ap cp Ac cc).toArray) := (Bk.new w _ _).alloc _
  have HZ0 : Hid (Bk ((w.alloc (.cells (atc a Ap cp Ac cc).toArray 26)).alloc (.cells zeroC.toArray 26)) (w.heap.size + 1) 26 zeroC.toArray) := by have := Bk.new (w.alloc (.cells (atc a Ap cp Ac cc).toArray 26)) 26 zeroC.toArray; rwa [World.size_alloc] at this
  have HCl : Hid ((atc a Ap cp Ac cc).length = 9) := rfl
  have HZt : Hid (zeroC = [Value.int .i64 0, .int .i64 0, .slice none 0 0, .int .u32 0, .int .u32 0, .int .u32 0, .int .u32 0, .int .u32 0, .slice none 0 0]) := rfl
  clear hm hp hcm hb1
  generalize atc a Ap cp Ac cc = cs at *
  obtain ⟨w1, hw1⟩ : ∃ w1, w1 = (w.alloc (.cells cs.toArray 26)).alloc (.cells zeroC.toArray 26) := ⟨_, rfl⟩
  rw [← hw1] at HB1 HH HK0 HZ0
  go_enter Tryz.func38, Tryz.ntmps38
  go_upto_region 1 with fail
  rw [← HZt.out, ← hw1]
  obtain ⟨g, hg⟩ : ∃ g, g = w.heap.size := ⟨_, rfl⟩
  rw [← hg] at HK0 HZ0 ⊢
  have HG := Lib.hid hg
  clear hw1 hg
  go_wp2_with (first
    | (refine wpList_loadBk rfl 26 (.tmp 1) rfl g (by rfl) 26 cs.toArray _ HK0.out Tryz.underlying26 (by rfl) (by rw [List.size_toArray, HCl.out]; exact HSz.out) ?_)
    | (go_at_call 71; refine HH.out.mono ?_; rintro e w2 ⟨Bp, dp, Bc, dc, rfl, h1, h2⟩; have HA2 := Lib.hid h1; have HB2 := Lib.hid h2; have HZ2 := Lib.hid (HZ0.out.below h2 HZ0.out.lt); clear h1 h2)
    | (refine wpList_storeBk rfl 26 (.tmp 2) (.tmp 4) rfl (g + 1) (by rfl) (atc (normA a) Bp dp Bc dc).toArray (by rfl) 26 zeroC.toArray HZ2.out HSz.out rfl (by rfl) ?_; intro w3 h5 h6 h7; have K3 := Lib.hid h5; have C3 := Lib.hid h6; clear h5 h6 h7))
  have HL1 := HB1.out.size
  have HL2 := HZ0.out.lt
  refine bodyPost_ret (results_cell_row rfl _ _ (g + 1) 26 _ (0, 0) _ rfl K3.out Tryz.underlying26 rfl info_atr) rfl ⟨Bp, dp, Bc, dc, rfl, ?_, (HB1.out.trans (HB2.out.mono HL1)).trans (C3.out.below (fun k e => by rw [e, HG.out]; exact Nat.le_succ _) (HB1.out.trans (HB2.out.mono HL1)).size)⟩
  exact (HA2.out.chg C3.out fun k _ hk e => by rw [e] at hk; omega).mono fun k _ hk => Nat.le_trans HL1 hk
set_option maxRecDepth 100000 in
set_option maxHeartbeats 2000000 in
theorem GoodP_any (a : Atr) (Ap Ac : Option Addr) (cp cc : Nat) (G : Foot) (w : World) (z : Bool) (hz : z = true ↔ GoodA a) (hm : Am w G a Ap cp Ac cc) (hp : nsz a.path ≤ 100000) (hcm : a.comms.length ≤ 1000000) :
    Calls Tryz.prog 52 #[.agg (atc a Ap cp Ac cc).toArray] w fun e w' => e = .returned (.bool z) ∧ Below w.heap.size w w' := by
  have HSz : Hid ((Tryz.prog.info? 26).map (·.size) = some 9) := info_atr
  have hb1 : Below w.heap.size w (w.alloc (.cells (atc a Ap cp Ac cc).toArray 26)) := (Below.refl _ _).alloc (Nat.le_refl _) _
  have HB1 := Lib.hid hb1
  have HG := Lib.hid (good_any a Ap Ac cp cc G _ z hz (hm.bel hb1) hp hcm)
  have HK0 : Hid (Bk (w.alloc (.cells (atc a Ap cp Ac cc).toArray 26)) w.heap.size 26 (atc a Ap cp Ac cc).toArray) := Bk.new w _ _
  have HCl : Hid ((atc a Ap cp Ac cc).length = 9) := rfl
  clear hz hm hp hcm hb1
  generalize atc a Ap cp Ac cc = cs at *
  go_enter Tryz.func52, Tryz.ntmps52
  go_wp2_with (first
    | (refine wpList_loadBk rfl 26 (.tmp 1) rfl w.heap.size (by rfl) 26 cs.toArray _ HK0.out Tryz.underlying26 (by rfl) (by rw [List.size_toArray, HCl.out]; exact HSz.out) ?_)
    | (go_at_call 78; refine HG.out.mono ?_; rintro e w2 ⟨rfl, hb2⟩; have HB2 := Lib.hid (HB1.out.trans (hb2.mono HB1.out.size)); clear hb2))
  go_ret
  exact ⟨rfl, HB2.out⟩
set_option maxRecDepth 100000 in
set_option maxHeartbeats 2000000 in
theorem SameP_any (a b : Atr) (Ap Ac Bp Bc : Option Addr) (cp cc dp dc : Nat) (G H : Foot) (w : World) (z : Bool) (hz : z = true ↔ a = b) (hm : Am w G a Ap cp Ac cc) (hn : Am w H b Bp dp Bc dc) (hp : nsz a.path ≤ 1000000) (hq : nsz b.path ≤ 1000000) (hcm : a.comms.length ≤ 1000000) (hdm : b.comms.length ≤ 1000000) :
    Calls Tryz.prog 49 #[.agg (atc a Ap cp Ac cc).toArray, .agg (atc b Bp dp Bc dc).toArray] w fun e w' => e = .returned (.bool z) ∧ Below w.heap.size w w' := by
  have HSz : Hid ((Tryz.prog.info? 26).map (·.size) = some 9) := info_atr
  have hb1 : Below w.heap.size w ((w.alloc (.cells (atc a Ap cp Ac cc).toArray 26)).alloc (.cells (atc b Bp dp Bc dc).toArray 26)) := ((Below.refl _ _).alloc (Nat.le_refl _) _).alloc (by simp) _
  have HB1 := Lib.hid hb1
  have HG := Lib.hid (same_any a b Ap Ac Bp Bc cp cc dp dc G H _ z hz (hm.bel hb1) (hn.bel hb1) hp hq hcm hdm)
  have HK0 : Hid (Bk ((w.alloc (.cells (atc a Ap cp Ac cc).toArray 26)).alloc (.cells (atc b Bp dp Bc dc).toArray 26)) w.heap.size 26 (atc a Ap cp Ac cc).toArray) := (Bk.new w _ _).alloc _
  have HK1 : Hid (Bk ((w.alloc (.cells (atc a Ap cp Ac cc).toArray 26)).alloc (.cells (atc b Bp dp Bc dc).toArray 26)) (w.heap.size + 1) 26 (atc b Bp dp Bc dc).toArray) := by have := Bk.new (w.alloc (.cells (atc a Ap cp Ac cc).toArray 26)) 26 (atc b Bp dp Bc dc).toArray; rwa [World.size_alloc] at this
  have HCl : Hid ((atc a Ap cp Ac cc).length = 9) := rfl
  have HDl : Hid ((atc b Bp dp Bc dc).length = 9) := rfl
  clear hz hm hn hp hq hcm hdm hb1
  generalize atc a Ap cp Ac cc = cs at *
  generalize atc b Bp dp Bc dc = ds at *
  go_enter Tryz.func49, Tryz.ntmps49
  go_wp2_with (first
    | (refine wpList_loadBk rfl 26 (.tmp 2) rfl w.heap.size (by rfl) 26 cs.toArray _ HK0.out Tryz.underlying26 (by rfl) (by rw [List.size_toArray, HCl.out]; exact HSz.out) ?_)
    | (refine wpList_loadBk rfl 26 (.tmp 3) rfl (w.heap.size + 1) (by rfl) 26 ds.toArray _ HK1.out Tryz.underlying26 (by rfl) (by rw [List.size_toArray, HDl.out]; exact HSz.out) ?_)
    | (go_at_call 77; refine HG.out.mono ?_; rintro e w2 ⟨rfl, hb2⟩; have HB2 := Lib.hid (HB1.out.trans (hb2.mono HB1.out.size)); clear hb2))
  go_ret
  exact ⟨rfl, HB2.out⟩
/-- the first of the three that any way must have, that a has not; 0: none -/
def missK (h : Int) : Nat := if bitI h 1 = false then 1 else if bitI h 2 = false then 2 else if bitI h 3 = false then 3 else 0
def missD (m : Nat) : List UInt8 := if m = 0 then [] else [UInt8.ofNat m]
def missC (m : Nat) : Int := if m = 0 then 0 else 3
/-- a notice handed back -/
def RetN (c s : Int) (d : List UInt8) (w : World) (e : Ending) (w' : World) : Prop := ∃ A n, e = .returned (.agg #[.int .i64 c, .int .i64 s, .slice A d.length n]) ∧ Bn w' (fun k => w.heap.size ≤ k) A n d ∧ Below w.heap.size w w'
theorem missK_at {h : Int} {k : Nat} (h1 : 1 ≤ k) (h3 : k ≤ 3) (hp : ∀ j : Nat, 1 ≤ j → j < k → bitI h j = true) (hn : bitI h k = false) : missK h = k := by
  have hk : k = 1 ∨ k = 2 ∨ k = 3 := by omega
  rcases hk with rfl | rfl | rfl
  · simp [missK, hn]
  · simp [missK, hn, hp 1 (by omega) (by omega)]
  · simp [missK, hn, hp 1 (by omega) (by omega), hp 2 (by omega) (by omega)]
theorem missK_no {h : Int} (hp : ∀ j : Nat, 1 ≤ j → j < 4 → bitI h j = true) : missK h = 0 := by
  simp [missK, hp 1 (by omega) (by omega), hp 2 (by omega) (by omega), hp 3 (by omega) (by omega)]
set_option maxRecDepth 100000 in
set_option maxHeartbeats 4000000 in
theorem Well_any (a : Atr) (Ap Ac : Option Addr) (cp cc : Nat) (w : World) :
    Calls Tryz.prog 53 #[.agg (atc a Ap cp Ac cc).toArray] w (RetN (missC (missK a.has)) (missC (missK a.has)) (missD (missK a.has)) w) := by
  have HSz : Hid ((Tryz.prog.info? 26).map (·.size) = some 9) := info_atr
  have HSn : Hid ((Tryz.prog.info? 85).map (·.size) = some 3) := info_ntc
  have HHas := Lib.hid (fun (k : Nat) (hk : k ≤ 8) (w' : World) => has_any a Ap Ac cp cc k hk w')
  have HNt := Lib.hid (fun (A : Option Addr) (n c : Nat) (w' : World) => notice_any 3 A n c w')
  obtain ⟨C0, hC0⟩ : ∃ C0 : Array Value, C0 = #[.int .i64 0, .int .i64 0, .slice none 0 0] := ⟨_, rfl⟩
  have HW : Hid (∃ w1, w1 = (w.alloc (.cells (atc a Ap cp Ac cc).toArray 26)).alloc (.cells C0 85) ∧ Below w.heap.size w w1 ∧ Bk w1 w.heap.size 26 (atc a Ap cp Ac cc).toArray ∧ Bk w1 (w.heap.size + 1) 85 C0) := ⟨_, rfl, ((Below.refl _ _).alloc (Nat.le_refl _) _).alloc (by simp) _, (Bk.new w _ _).alloc _, by have := Bk.new (w.alloc (.cells (atc a Ap cp Ac cc).toArray 26)) 85 C0; rwa [World.size_alloc] at this⟩
  obtain ⟨Q, hQ⟩ : ∃ Q, Q = RetN (missC (missK a.has)) (missC (missK a.has)) (missD (missK a.has)) w := ⟨_, rfl⟩
  have HQ0 : Hid (∀ w', Below w.heap.size w w' → (∀ j : Nat, 1 ≤ j → j < 4 → bitI a.has j = true) → Q (.returned (.agg #[.int .i64 0, .int .i64 0, .slice none 0 0])) w') := fun w' hb hp => by
    rw [hQ, missK_no hp]
    exact ⟨none, 0, rfl, Bn.nil_ _ _, hb⟩
  have HQ1 : Hid (∀ (k : Nat) (A : Option Addr) (n : Nat) w', 1 ≤ k → k ≤ 3 → (∀ j : Nat, 1 ≤ j → j < k → bitI a.has j = true) → bitI a.has k = false → Bn w' (fun k => w.heap.size ≤ k) A n [UInt8.ofNat k] → Below w.heap.size w w' → Q (.returned (.agg #[.int .i64 3, .int .i64 3, .slice A 1 n])) w') := fun k A n w' h1 h3 hp hn hs hb => by
    rw [hQ, missK_at h1 h3 hp hn]
    have e1 : missC k = 3 := by unfold missC; rw [if_neg (by omega)]
    have e2 : missD k = [UInt8.ofNat k] := by unfold missD; rw [if_neg (by omega)]
    rw [e1, e2]
    exact ⟨A, n, rfl, hs, hb⟩
  rw [← hQ]
  have HCl : Hid ((atc a Ap cp Ac cc).length = 9) := rfl
  clear hQ
  generalize atc a Ap cp Ac cc = cs at *
  generalize bitI a.has = bt at *
  obtain ⟨w1, hw1, hb1, hk0, hz0⟩ := HW.out
  have HB1 := Lib.hid hb1
  have HK0 := Lib.hid hk0
  have HZ0 := Lib.hid hz0
  have HC0 := Lib.hid hC0
  clear hb1 hk0 hz0
  go_enter Tryz.func53, Tryz.ntmps53
  go_upto_region 1 with fail
  rw [← hC0, ← hw1]
  clear hw1 HW hC0
  obtain ⟨g, hg⟩ : ∃ g, g = w.heap.size := ⟨_, rfl⟩
  rw [← hg] at HK0 HZ0 ⊢
  have HG := Lib.hid hg
  clear hg
  go_wp2_with fail
  go_loopw [3] (fun v3 wr => ∃ k : Nat, 1 ≤ k ∧ k ≤ 4 ∧ v3 = .int .i64 k ∧ (∀ j : Nat, 1 ≤ j → j < k → bt j = true) ∧ Below w1.heap.size w1 wr) (fun v3 _ => 4 - (intOf v3).toNat)
  case atStart => exact ⟨1, by omega, by omega, rfl, fun j h1 h2 => by omega, Below.refl _ _⟩
  case round =>
    obtain ⟨k, hk1, hk4, rfl, hp, hb⟩ := hrel
    have HP := Lib.hid hp
    have HB := Lib.hid hb
    have KA := Lib.hid (HK0.out.below hb HK0.out.lt)
    have KZ := Lib.hid (HZ0.out.below hb HZ0.out.lt)
    clear hp hb
    by_cases hlt : k ≤ 3
    · have hlt' : (k : Int) ≤ 3 := by omega
      have HHx := Lib.hid (HHas.out k (by omega) wr)
      rcases hbk : bt k with _ | _
      · rw [hbk] at HHx
        have HBk := Lib.hid hbk
        have e8 : IntKind.u8.wrap (k : Int) = (k : Int) := by
          have : k = 1 ∨ k = 2 ∨ k = 3 := by omega
          rcases this with rfl | rfl | rfl <;> rfl
        clear hbk
        go_wp2_with (first
          | (refine wpList_loadBk rfl 26 (.tmp 1) rfl g (by rfl) 26 cs.toArray _ KA.out Tryz.underlying26 (by rfl) (by rw [List.size_toArray, HCl.out]; exact HSz.out) ?_)
          | (go_at_call 79; refine HHx.out.mono ?_; rintro e w2 ⟨rfl, h1⟩; have HB2 := Lib.hid (HB.out.trans (h1.mono HB.out.size)); have KZ2 := Lib.hid (KZ.out.below h1 KZ.out.lt); clear h1)
          | (go_at_call 80; refine (HNt.out _ _ _ _).mono ?_; rintro e w3 ⟨rfl, h1⟩; rw [if_neg (by decide)]; have HX3 := Lib.hid h1; clear h1)
          | (refine wpList_storeBk rfl 85 (.tmp 2) (.tmp 15) rfl (g + 1) (by rfl) #[.int .i64 3, .int .i64 3, .slice (some ⟨w2.heap.size, 0, none⟩) 1 1] (by rfl) 85 C0 ((KZ2.out.alloc _).below HX3.out (KZ2.out.alloc _).lt) HSn.out (by rw [HC0.out]; rfl) (by rfl) ?_; intro w4 h5 h6 h7; have K4 := Lib.hid h5; have C4 := Lib.hid h6; clear h5 h6 h7))
        have HL := HB1.out.size
        have hx : Below w2.heap.size w2 w3 := ((Below.refl _ _).alloc (Nat.le_refl _) _).trans (HX3.out.mono (by simp))
        have hN3 : Bn w3 (fun k => w2.heap.size ≤ k) (some ⟨w2.heap.size, 0, none⟩) 1 [UInt8.ofNat k] := by
          have hr : Rg (w2.alloc (.cells #[.int .u8 (k : Int)] 5)) (fun b => b = w2.heap.size) 1 (some ⟨w2.heap.size, 0, none⟩) 1 [Value.int .u8 (k : Int)] := Rg.new w2 5 1 1 #[.int .u8 (k : Int)] rfl
          have e : bv [UInt8.ofNat k] = [Value.int .u8 (k : Int)] := by
            have : k = 1 ∨ k = 2 ∨ k = 3 := by omega
            rcases this with rfl | rfl | rfl <;> rfl
          have h1 : Bn (w2.alloc (.cells #[.int .u8 (k : Int)] 5)) (fun b => b = w2.heap.size) (some ⟨w2.heap.size, 0, none⟩) 1 [UInt8.ofNat k] := ⟨(fun h => by cases h), Nat.le_refl _, by decide, by rw [e]; exact hr⟩
          exact (h1.bel HX3.out).mono fun j _ hj => by rw [hj]; exact Nat.le_refl _
        have hg2 : g + 1 < w2.heap.size := KZ2.out.lt
        have hN4 := (hN3.chg C4.out (fun j _ hj e => by rw [e] at hj; omega)).mono (H := fun j => w.heap.size ≤ j) fun j _ hj => Nat.le_trans (by rw [← HG.out]; omega) hj
        have hb2 := HB1.out.trans (HB2.out.mono HB1.out.size)
        have hb3 := hb2.trans (hx.mono hb2.size)
        have hb4 := hb3.trans (C4.out.below (fun j e => by rw [e, HG.out]; exact Nat.le_succ _) hb3.size)
        exact bodyPost_ret (results_cell_row rfl _ _ (g + 1) 85 _ (0, 0) _ rfl K4.out Tryz.underlying85 rfl info_ntc) rfl (HQ1.out k _ _ _ hk1 hlt HP.out HBk.out hN4 hb4)
      · rw [hbk] at HHx
        have HP2 : Hid (∀ j : Nat, 1 ≤ j → j < k + 1 → bt j = true) := fun j h1 h2 => by
          rcases Nat.lt_or_ge j k with h | h
          · exact HP.out j h1 h
          · obtain rfl : j = k := by omega
            exact hbk
        clear hbk
        go_wp2_with (first
          | (refine wpList_loadBk rfl 26 (.tmp 1) rfl g (by rfl) 26 cs.toArray _ KA.out Tryz.underlying26 (by rfl) (by rw [List.size_toArray, HCl.out]; exact HSz.out) ?_)
          | (go_at_call 79; refine HHx.out.mono ?_; rintro e w2 ⟨rfl, h1⟩; have HB2 := Lib.hid (HB.out.trans (h1.mono HB.out.size)); clear h1))
        go_roundw
        case rel => exact ⟨k + 1, by omega, by omega, by go_num, HP2.out, HB2.out⟩
        case measure => simp [intOf]; omega
    · obtain rfl : k = 4 := by omega
      have KY := KZ.out
      rw [HC0.out] at KY
      have y0 := KY.cell 0
      have y1 := KY.cell 1
      have y2 := KY.cell 2
      simp at y0 y1 y2
      have z0 := KY.free 0
      have z1 := KY.free 1
      have z2 := KY.free 2
      have HKY := Lib.hid KY
      clear KY
      go_wp2_with fail
      have hb2 := HB1.out.trans (HB.out.mono HB1.out.size)
      have K4 := ((HKY.out.put 0 (.int .i64 0)).put 1 (.int .i64 0)).put 2 (.slice none 0 0)
      refine bodyPost_ret (results_cell_row rfl _ _ (g + 1) 85 _ (0, 0) _ rfl K4 Tryz.underlying85 rfl info_ntc) rfl (HQ0.out _ ?_ HP.out)
      exact ((hb2.setCell (by rw [HG.out]; exact Nat.le_succ _) _).setCell (by rw [HG.out]; exact Nat.le_succ _) _).setCell (by rw [HG.out]; exact Nat.le_succ _) _
end Go.Proofs.YtbljhjfaimnieaaGreat.attr
