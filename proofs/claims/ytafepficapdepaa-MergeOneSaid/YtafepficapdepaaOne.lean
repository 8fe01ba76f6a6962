/- What confluencelaw28.One returns. No condition. -/
import Derived.Test.YtafepficapdepaaFew
import Derived.Test.YtafepficapdepaaMid
namespace Go.Proofs.Ytafepficapdepaa.attr
open Go.RowKit Go.Proofs.Ytafepficapdepaa.kit Go.Proofs.Ytafepficapdepaa.mem Go.Proofs.Ytafepficapdepaa.foot Go.Proofs.Ytafepficapdepaa.nums Go.Proofs.Ytafepficapdepaa.asn Go.Proofs.Ytafepficapdepaa.pth
set_option linter.unusedVariables false
set_option linter.unusedSimpArgs false
theorem info_rt : (Try.prog.info? 80).map (·.size) = some 16 := by kernel_rfl
def zeroR : List Value := [.int .u32 0, .int .i64 0] ++ zeroC ++ [.int .u32 0, .int .u32 0, .int .u32 0, .bool false, .bool false]
def rhd (r : Rt) : List Value := [.int .u32 (r.adr : Int), .int .i64 r.len]
def rtl (r : Rt) : List Value := [.int .u32 r.peer, .int .u32 r.num, .int .u32 r.id, .bool r.inner, .bool r.local_]
theorem rtc_eq (r : Rt) (Ap : Option Addr) (cp : Nat) (Ac : Option Addr) (cc : Nat) : rtc r Ap cp Ac cc = rhd r ++ atc r.att Ap cp Ac cc ++ rtl r := rfl
set_option maxRecDepth 100000 in
set_option maxHeartbeats 4000000 in
theorem One_any (r : Rt) (Ap Ac : Option Addr) (cp cc : Nat) (G : Foot) (w : World) (hm : Am w G r.att Ap cp Ac cc) :
    Calls Try.prog 33 #[.agg (rtc r Ap cp Ac cc).toArray] w (RetR (fewR r) w) := by
  have HF : Hid (∀ w', Below w.heap.size w w' → Calls Try.prog 42 #[.agg (atc r.att Ap cp Ac cc).toArray] w' (RetA (fewA r.att) w')) := fun w' hb => Few8_any r.att Ap Ac cp cc G w' (hm.bel hb)
  have HSz : Hid ((Try.prog.info? 80).map (·.size) = some 16) := info_rt
  have HSa : Hid ((Try.prog.info? 76).map (·.size) = some 9) := info_atr
  obtain ⟨Q, hQ⟩ : ∃ Q, Q = RetR (fewR r) w := ⟨_, rfl⟩
  have HQ : Hid (∀ (Ap : Option Addr) (cp : Nat) (Ac : Option Addr) (cc : Nat) (w' : World), Am w' (fun k => w.heap.size ≤ k) (fewA r.att) Ap cp Ac cc → Below w.heap.size w w' → Q (.returned (.agg (rhd r ++ atc (fewA r.att) Ap cp Ac cc ++ rtl r).toArray)) w') := fun Ap cp Ac cc w' h1 h2 => by
    rw [hQ]
    exact ⟨Ap, cp, Ac, cc, rfl, h1, h2⟩
  rw [← hQ, rtc_eq]
  clear hQ hm
  obtain ⟨ca, hca⟩ : ∃ ca, ca = atc r.att Ap cp Ac cc := ⟨_, rfl⟩
  have HCl : Hid (ca.length = 9) := by rw [hca]; rfl
  rw [← hca] at HF ⊢
  clear hca
  have HH : Hid ((rhd r).length = 2) := rfl
  have HT : Hid ((rtl r).length = 5) := rfl
  have HO : Hid ((∀ u ∈ rhd r, u.oneCell' = true) ∧ ∀ u ∈ rtl r, u.oneCell' = true) := by
    refine ⟨fun u hu => ?_, fun u hu => ?_⟩
    · simp only [rhd, List.mem_cons, List.not_mem_nil, or_false] at hu
      rcases hu with rfl | rfl <;> rfl
    · simp only [rtl, List.mem_cons, List.not_mem_nil, or_false] at hu
      rcases hu with rfl | rfl | rfl | rfl | rfl <;> rfl
  generalize rhd r = hd at *
  generalize rtl r = tl at *
  generalize fewA r.att = fa at *
  obtain ⟨w1, hw1⟩ : ∃ w1, w1 = (w.alloc (.cells (hd ++ ca ++ tl).toArray 80)).alloc (.cells zeroR.toArray 80) := ⟨_, rfl⟩
  have hb2 := Bk.new (w.alloc (.cells (hd ++ ca ++ tl).toArray 80)) 80 zeroR.toArray
  have e2 : (w.alloc (.cells (hd ++ ca ++ tl).toArray 80)).heap.size = w.heap.size + 1 := by simp
  rw [e2] at hb2
  have HB : Hid (Below w.heap.size w w1) := by rw [hw1]; exact ((Below.refl _ _).alloc (Nat.le_refl _) _).alloc (by simp) _
  have HK1 : Hid (Bk w1 w.heap.size 80 (hd ++ ca ++ tl).toArray) := by rw [hw1]; exact (Bk.new w _ _).alloc _
  have HK2 : Hid (Bk w1 (w.heap.size + 1) 80 zeroR.toArray) := by rw [hw1]; exact hb2
  clear hb2 e2
  simp only [zeroR, zeroC, List.cons_append, List.nil_append] at hw1
  obtain ⟨cs, hcs⟩ : ∃ cs, cs = hd ++ ca ++ tl := ⟨_, rfl⟩
  have HCs := Lib.hid hcs
  rw [← hcs] at hw1 ⊢
  clear hcs
  go_enter Try.func33, Try.ntmps33
  go_upto_region 1 with fail
  rw [← hw1]
  clear hw1
  have HSz2 : Hid (∀ Ax cx Ay cy, (Try.prog.info? 80).map (·.size) = some (hd ++ atc fa Ax cx Ay cy ++ tl).toArray.size) := fun Ax cx Ay cy => by
    rw [List.size_toArray, List.length_append, List.length_append, HH.out, HT.out]
    exact HSz.out
  have HOne : Hid (∀ Ax cx Ay cy, (hd ++ atc fa Ax cx Ay cy ++ tl).toArray.toList.all (·.oneCell') = true) := fun Ax cx Ay cy => by
    rw [List.all_eq_true]
    intro u hu
    simp only [List.mem_append] at hu
    rcases hu with (hu | hu) | hu
    · exact HO.out.1 u hu
    · exact atc_one u hu
    · exact HO.out.2 u hu
  rw [HCs.out] at *
  go_wp2_with (first
    | (refine wpList_loadMid rfl 76 (.tmp 3) rfl w.heap.size 2 (by rfl) 80 hd ca tl _ HK1.out HH.out Try.underlying76 (by rfl) (by rw [HCl.out]; exact HSa.out) ?_)
    | (go_at_call 42; refine (HF.out _ HB.out).mono ?_; rintro e w2 ⟨Ax, cx, Ay, cy, rfl, hA, hb⟩; have HA := Lib.hid hA; have HB2 := Lib.hid (HB.out.trans (hb.mono HB.out.size)); have HJ1 := Lib.hid (HK1.out.below hb HK1.out.lt); have HJ2 := Lib.hid (HK2.out.below hb HK2.out.lt); have HLt := Lib.hid (Nat.lt_of_lt_of_le HK2.out.lt (Nat.le_refl _)); clear hA hb)
    | (refine wpList_storeMid rfl 76 (.tmp 6) (.tmp 5) rfl w.heap.size 2 (by rfl) (atc fa Ax cx Ay cy) (by rfl) 80 hd ca tl HJ1.out HH.out HSa.out HCl.out atc_one ?_; intro w3 h3 h4 h5; have H3 := Lib.hid h3; have H4 := Lib.hid h4; have HJ3 := Lib.hid (HJ2.out.chg h4 (by omega)); clear h3 h4 h5)
    | (refine wpList_loadBk rfl 80 (.tmp 1) rfl w.heap.size (by rfl) 80 (hd ++ atc fa Ax cx Ay cy ++ tl).toArray _ H3.out Try.underlying80 (by rfl) (HSz2.out _ _ _ _) ?_)
    | (refine wpList_storeBk rfl 80 (.tmp 2) (.tmp 7) rfl (w.heap.size + 1) (by rfl) (hd ++ atc fa Ax cx Ay cy ++ tl).toArray (by rfl) 80 zeroR.toArray HJ3.out (HSz2.out _ _ _ _) (by rw [List.size_toArray, List.size_toArray, List.length_append, List.length_append, HH.out, HT.out]; rfl) (HOne.out _ _ _ _) ?_; intro w5 h5 h6 h7; have H5 := Lib.hid h5; have H6 := Lib.hid h6; clear h5 h6 h7))
  refine bodyPost_ret (results_cell_row rfl _ _ (w.heap.size + 1) 80 (hd ++ atc fa Ax cx Ay cy ++ tl).toArray (0, 0) _ rfl H5.out Try.underlying80 rfl (HSz2.out _ _ _ _)) rfl ?_
  have h4 : Chg (fun k => k = w.heap.size ∨ k = w.heap.size + 1) w2 w5 := (H4.out.mono fun k _ e => .inl e).trans H6.out fun k _ e => .inr e
  have hl := HLt.out
  exact HQ.out _ _ _ _ _ ((HA.out.chg h4 (fun k _ hk e => by omega)).mono fun k _ hk => by omega) (HB2.out.trans (h4.below (fun k e => by omega) HB2.out.size))
end Go.Proofs.Ytafepficapdepaa.attr
