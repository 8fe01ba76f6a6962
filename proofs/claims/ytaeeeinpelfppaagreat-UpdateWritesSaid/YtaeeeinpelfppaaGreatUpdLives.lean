/- What update.size, Size and Encode return. Condition: at most 50000 prefixes, numbers and pieces each. The plain law: a good Update's bytes are that Update. No program in sight. What update.Size and confluencelaw10.lives return. Condition: at most 50000 prefixes, numbers and pieces each. -/
import Derived.Test.YtaeeeinpelfppaaGreatUpdSame
import Derived.Test.YtaeeeinpelfppaaGreatAttrOpen
namespace Go.Proofs.YtaeeeinpelfppaaGreat.upd
open Go.RowKit Go.Proofs.YtaeeeinpelfppaaGreat.kit Go.Proofs.YtaeeeinpelfppaaGreat.mem Go.Proofs.YtaeeeinpelfppaaGreat.foot Go.Proofs.YtaeeeinpelfppaaGreat.nums Go.Proofs.YtaeeeinpelfppaaGreat.asn Go.Proofs.YtaeeeinpelfppaaGreat.pth Go.Proofs.YtaeeeinpelfppaaGreat.octet Go.Proofs.YtaeeeinpelfppaaGreat.attr
set_option linter.unusedVariables false
set_option linter.unusedSimpArgs false
def sizeL (l : List (Nat × Int)) : Nat := (l.map nlri.sizeP).sum
theorem sizeP_le (p : Nat × Int) : nlri.sizeP p ≤ 5 := by
  unfold nlri.sizeP
  split
  · rename_i h
    have h2 : p.2.toNat ≤ 32 := by
      unfold pfx.goodB at h
      simp at h
      omega
    have := nlri.bodyN_le p.2.toNat h2
    omega
  · omega
theorem sizeL_le (l : List (Nat × Int)) : sizeL l ≤ 5 * l.length := by
  induction l with
  | nil => simp [sizeL]
  | cons p t ih =>
    have := sizeP_le p
    simp only [sizeL, List.map_cons, List.sum_cons, List.length_cons] at ih ⊢
    omega
theorem sizeL_take {l : List (Nat × Int)} {k : Nat} (h : k < l.length) : sizeL (l.take (k + 1)) = sizeL (l.take k) + nlri.sizeP l[k] := by
  unfold sizeL
  rw [List.take_succ_eq_append_getElem h, List.map_append, List.sum_append]
  simp
theorem sizeL_enc (l : List (Nat × Int)) (h : nlri.goodL l = true) : (nlri.enc l).length = sizeL l := by
  induction l with
  | nil => rfl
  | cons p t ih =>
    have h1 := (nlri.goodL_iff (p :: t)).1 h
    have h2 : nlri.goodL t = true := (nlri.goodL_iff t).2 fun q hq => h1 q (List.mem_cons_of_mem _ hq)
    have e : nlri.enc (p :: t) = nlri.encP p ++ nlri.enc t := rfl
    rw [e, List.length_append, ih h2, nlri.encP_len p (h1 p (List.mem_cons_self ..))]
    simp [sizeL]
theorem ways_nil : WaysS [] := ⟨⟨fun s hs => (by cases hs), by simp, by unfold normS nrun sgs; simp [ck_nil]⟩, by simp [allP]⟩
theorem good_zeroA : GoodA zeroA := by
  have hb : ∀ k, bitI zeroA.has k = false := fun k => by unfold bitI zeroA; simp
  refine ⟨?_, by decide, by decide, by decide, (fun h => by rw [hb] at h; cases h), ways_nil⟩
  unfold normA
  simp [zeroA, bitI, selI, selL]
def lenB (x : List UInt8) : List UInt8 := octet.byteOf ((x.length : Int) / 256) :: octet.byteOf x.length :: x
/-- a good Update's bytes -/
def encUp (u : Upd) : List UInt8 := lenB (nlri.enc u.gone) ++ lenB (encB u.a) ++ nlri.enc u.here
theorem GoodU.at_ {u : Upd} (h : GoodU u) : GoodA u.a := by
  by_cases hh : u.here = []
  · rw [h.2.2.1 hh]; exact good_zeroA
  · exact (h.2.2.2 hh).1
section
variable (u : Upd) (A1 : Option Addr) (c1 : Nat) (Ap : Option Addr) (cp : Nat) (Ac : Option Addr) (cc : Nat) (A2 : Option Addr) (c2 : Nat) (G : Foot) (w : World)
set_option maxRecDepth 100000 in
set_option maxHeartbeats 8000000 in
theorem size_any (hm : Um w G u A1 c1 Ap cp Ac cc A2 c2) (hu : Ub u) (hga : GoodA u.a) :
    Calls Tryz.prog 38 #[.agg (upc A1 u.gone.length c1 (atc u.a Ap cp Ac cc) A2 u.here.length c2).toArray] w fun e w' => e = .returned (.int .i64 ((4 + (encB u.a).length + sizeL (u.gone ++ u.here) : Nat) : Int)) ∧ Below w.heap.size w w' := by
  have HSz : Hid ((Tryz.prog.info? 29).map (·.size) = some 9) := info_atr
  have hb : Below w.heap.size w (w.alloc (.cells (upc A1 u.gone.length c1 (atc u.a Ap cp Ac cc) A2 u.here.length c2).toArray 31)) := (Below.refl _ _).alloc (Nat.le_refl _) _
  have HB := Lib.hid hb
  have HSi := Lib.hid (attr.Size_yes u.a Ap Ac cp cc G _ (hm.at_.bel hb) hu.pl hu.cl hga)
  have hel := encB_len hga
  obtain ⟨L, hL⟩ : ∃ L, L = u.gone ++ u.here := ⟨_, rfl⟩
  have hLw : ∀ q ∈ L, q.1 < 4294967296 := fun q hq => by
    rw [hL] at hq
    rcases List.mem_append.1 hq with h | h
    · exact hu.gw q h
    · exact hu.hw q h
  have hLl : L.length = u.gone.length + u.here.length := by rw [hL, List.length_append]
  have hLb : L.length ≤ 100000 := by have := hu.gl; have := hu.hl; omega
  have HCc : Hid (∀ (b : Nat) (w' : World), Below w.heap.size w w' → Bk w' b 24 #[.slice A1 u.gone.length c1, .slice A2 u.here.length c2] → Calls Tryz.prog 75 #[.slice (some ⟨b, 0, none⟩) 2 2] w' fun e w2 => ∃ A' c', e = .returned (.slice A' L.length c') ∧ Pw w2 (fun k => w'.heap.size ≤ k) A' c' L ∧ Below w'.heap.size w' w2) := fun b w' h hk => by
    have h1 := Concat_any A1 A2 c1 c2 b u.gone u.here G G w' hu.gl hu.hl hk (hm.gone.bel h) (hm.here.bel h)
    rw [hL, List.length_append]
    exact h1
  have HNs := Lib.hid (fun (p : Nat × Int) (hp : p.1 < 4294967296) (w' : World) => nlri.Size_any p.1 p.2 hp w')
  have HU : Hid (∀ w', Below (w.alloc (.cells (upc A1 u.gone.length c1 (atc u.a Ap cp Ac cc) A2 u.here.length c2).toArray 31)).heap.size (w.alloc (.cells (upc A1 u.gone.length c1 (atc u.a Ap cp Ac cc) A2 u.here.length c2).toArray 31)) w' → Bk w' w.heap.size 31 (upc A1 u.gone.length c1 (atc u.a Ap cp Ac cc) A2 u.here.length c2).toArray) := fun w' h => (Bk.new w _ _).below h (by simp)
  have HK0 := Lib.hid (HU.out _ (Below.refl _ _))
  have HSb := Lib.hid (fun k => Nat.le_trans (sizeL_le (L.take k)) (Nat.mul_le_mul_left 5 (by rw [List.length_take]; omega : (L.take k).length ≤ 100000)))
  have HLw := Lib.hid hLw
  rw [← hL]
  clear hm hL hLl hLw hga hb
  obtain ⟨sa, hsa⟩ : ∃ n, n = (encB u.a).length := ⟨_, rfl⟩
  rw [← hsa] at HSi hel ⊢
  have hsa0 : wrap64 (4 + (sa : Int)) = 4 + (sa : Int) := by unfold wrap64; omega
  clear hsa
  obtain ⟨w1, hw1⟩ : ∃ w1, w1 = w.alloc (.cells (upc A1 u.gone.length c1 (atc u.a Ap cp Ac cc) A2 u.here.length c2).toArray 31) := ⟨_, rfl⟩
  rw [← hw1] at HB HU HSi HK0
  go_enter Tryz.func38, Tryz.ntmps38
  go_upto_region 1 with fail
  rw [← hw1]
  clear hw1
  go_upto_region 2 with (first
    | (refine wpList_loadMid rfl 29 (.tmp 6) rfl w.heap.size 1 (by rfl) 31 [.slice A1 u.gone.length c1] (atc u.a Ap cp Ac cc) [.slice A2 u.here.length c2] _ HK0.out rfl Tryz.underlying29 (by rfl) HSz.out ?_)
    | (go_at_call 74; refine HSi.out.mono ?_; rintro e w2 ⟨rfl, h⟩; have HB2 := Lib.hid (HB.out.trans (h.mono HB.out.size)); have V := HU.out w2 h; have x0 := V.cell 0; have x10 := V.cell 10; simp [upc, atc] at x0 x10; clear h V))
  have HBa : Hid (Below w2.heap.size w2 (w2.alloc (.cells #[.slice A1 u.gone.length c1, .slice A2 u.here.length c2] 24))) := (Below.refl _ _).alloc (Nat.le_refl _) _
  have HCx := Lib.hid (HCc.out w2.heap.size _ (HB2.out.trans (HBa.out.mono HB2.out.size)) (Bk.new w2 _ _))
  go_wp2_with (go_at_call 75; refine HCx.out.mono ?_; rintro e w3 ⟨A3, c3, rfl, h1, h⟩; have HP3 := Lib.hid h1; have HB3 := Lib.hid (HB2.out.trans ((HBa.out.trans (h.mono HBa.out.size)).mono HB2.out.size)); clear h1 h)
  go_loopw [3, 17] (fun v3 v17 wr => ∃ k : Nat, k ≤ L.length ∧ v17 = .int .i64 k ∧ v3 = .int .i64 ((4 + sa + sizeL (L.take k) : Nat) : Int) ∧ Below w3.heap.size w3 wr) (fun _ v17 _ => L.length - (intOf v17).toNat)
  case atStart => exact ⟨0, by omega, rfl, by simp [sizeL]; try omega, Below.refl _ _⟩
  case round =>
    obtain ⟨k, hk, rfl, rfl, hb⟩ := hrel
    have HBr := Lib.hid hb
    clear hb
    by_cases hlt : k < L.length
    · have hlt' : (k : Int) < (L.length : Int) := by omega
      obtain ⟨b, off, rfl, y0, y1⟩ := pw_at HP3.out HBr.out hlt
      have HNx := Lib.hid (HNs.out L[k] (HLw.out _ (List.getElem_mem hlt)))
      have hs1 := sizeL_take hlt
      have hs2 := HSb.out k
      have hs3 := sizeP_le L[k]
      have HS1 := Lib.hid hs1
      clear hs1
      generalize L[k] = p at *
      generalize sizeL (L.take k) = sk at *
      obtain ⟨T, hT⟩ : ∃ T, T = 4 + sa + sk := ⟨_, rfl⟩
      rw [← hT]
      have hT2 : T ≤ 1000000 := by omega
      have HT := Lib.hid hT
      clear hT hs2
      obtain ⟨sp, hsp⟩ : ∃ sp, sp = nlri.sizeP p := ⟨_, rfl⟩
      have HNy : Hid (∀ w', Calls Tryz.prog 76 #[.agg #[.int .u32 p.1, .int .i64 p.2]] w' fun e w2 => e = .returned (.int .i64 (sp : Int)) ∧ Below w'.heap.size w' w2) := by rw [hsp]; exact HNx.out
      rw [← hsp] at hs3
      have HSp := Lib.hid hsp
      clear hsp HNx
      have HBz : Hid (Below w3.heap.size w3 (wr.alloc (.cells #[.int .u32 (p.1 : Int), .int .i64 p.2] 66))) := HBr.out.alloc HBr.out.size _
      go_wp2_with (go_at_call 76; refine (HNy.out _).mono ?_; rintro e w5 ⟨rfl, h⟩; have HB5 := Lib.hid (HBz.out.trans (h.mono HBz.out.size)); clear h)
      go_roundw
      case rel => exact ⟨k + 1, by omega, by go_num, by rw [HS1.out, ← HSp.out, ← Nat.add_assoc, ← HT.out]; go_num, HB5.out⟩
      case measure => simp [intOf]; omega
    · obtain rfl : k = L.length := by omega
      rw [List.take_length]
      go_wp2_with fail
      go_ret
      exact ⟨rfl, HB3.out.trans (HBr.out.mono HB3.out.size)⟩
theorem encUp_len {u : Upd} (h : GoodU u) : (encUp u).length = 4 + (encB u.a).length + sizeL (u.gone ++ u.here) := by
  have h1 := sizeL_enc u.gone h.1
  have h2 := sizeL_enc u.here h.2.1
  have h3 : sizeL (u.gone ++ u.here) = sizeL u.gone + sizeL u.here := by unfold sizeL; rw [List.map_append, List.sum_append]
  unfold encUp lenB
  simp only [List.length_append, List.length_cons]
  omega
/-- what Encode hands back -/
def RetEnc (u : Upd) (w : World) (e : Ending) (w' : World) : Prop :=
  ((GoodU u ∧ (encUp u).length ≤ 4077) → ∃ A c, e = .returned (.tuple #[.slice A (encUp u).length c, .int .i64 0]) ∧ (A = none → c = 0) ∧ (encUp u).length ≤ c ∧ c ≤ maxLen ∧ Bs w' w'.heap.size A (encUp u) ∧ Below w.heap.size w w') ∧
  ((GoodU u ∧ 4077 < (encUp u).length) → e = .returned (.tuple #[.slice none 0 0, .int .i64 6]) ∧ Below w.heap.size w w') ∧
  (¬ GoodU u → e = .returned (.tuple #[.slice none 0 0, .int .i64 1]) ∧ Below w.heap.size w w')
set_option maxRecDepth 100000 in
set_option maxHeartbeats 8000000 in
theorem Encode_any (hm : Um w G u A1 c1 Ap cp Ac cc A2 c2) (hu : Ub u) :
    Calls Tryz.prog 12 #[.agg (upc A1 u.gone.length c1 (atc u.a Ap cp Ac cc) A2 u.here.length c2).toArray] w (RetEnc u w) := by
  have HSz : Hid ((Tryz.prog.info? 29).map (·.size) = some 9) := info_atr
  have HSu : Hid ((Tryz.prog.info? 31).map (·.size) = some 11) := info_upd
  have hb : Below w.heap.size w (w.alloc (.cells (upc A1 u.gone.length c1 (atc u.a Ap cp Ac cc) A2 u.here.length c2).toArray 31)) := (Below.refl _ _).alloc (Nat.le_refl _) _
  have HB := Lib.hid hb
  obtain ⟨z, hz⟩ := bool_of (GoodU u)
  have HGd := Lib.hid (good_any u A1 c1 Ap cp Ac cc A2 c2 G _ z hz (hm.bel hb) hu)
  have HU : Hid (∀ w', Below (w.alloc (.cells (upc A1 u.gone.length c1 (atc u.a Ap cp Ac cc) A2 u.here.length c2).toArray 31)).heap.size (w.alloc (.cells (upc A1 u.gone.length c1 (atc u.a Ap cp Ac cc) A2 u.here.length c2).toArray 31)) w' → Bk w' w.heap.size 31 (upc A1 u.gone.length c1 (atc u.a Ap cp Ac cc) A2 u.here.length c2).toArray) := fun w' h => (Bk.new w _ _).below h (by simp)
  have HK0 := Lib.hid (HU.out _ (Below.refl _ _))
  obtain ⟨w1, hw1⟩ : ∃ w1, w1 = w.alloc (.cells (upc A1 u.gone.length c1 (atc u.a Ap cp Ac cc) A2 u.here.length c2).toArray 31) := ⟨_, rfl⟩
  rw [← hw1] at HB HU HGd HK0
  have HCl : Hid ((upc A1 u.gone.length c1 (atc u.a Ap cp Ac cc) A2 u.here.length c2).toArray.size = 11) := rfl
  rcases z with _ | _
  · have hn : ¬ GoodU u := by simpa using hz
    have HQ : Hid (∀ w', Below w.heap.size w w' → RetEnc u w (.returned (.tuple #[.slice none 0 0, .int .i64 1])) w') := fun w' h => ⟨fun h1 => absurd h1.1 hn, fun h1 => absurd h1.1 hn, fun _ => ⟨rfl, h⟩⟩
    obtain ⟨Q, hQ⟩ : ∃ Q, Q = RetEnc u w := ⟨_, rfl⟩
    rw [← hQ] at HQ ⊢
    clear hm hz hn hb hQ
    go_enter Tryz.func12, Tryz.ntmps12
    go_upto_region 1 with fail
    rw [← hw1]
    clear hw1
    go_wp2_with (first
      | (refine wpList_loadBk rfl 31 (.tmp 1) rfl w.heap.size (by rfl) 31 (upc A1 u.gone.length c1 (atc u.a Ap cp Ac cc) A2 u.here.length c2).toArray _ HK0.out Tryz.underlying31 (by rfl) HSu.out ?_)
      | (go_at_call 37; refine HGd.out.mono ?_; rintro e w2 ⟨rfl, h⟩; have HB2 := Lib.hid (HB.out.trans (h.mono HB.out.size)); clear h))
    exact HQ.out _ HB2.out
  · have hg : GoodU u := hz.1 rfl
    have HSi : Hid (∀ w', Below w.heap.size w w' → Calls Tryz.prog 38 #[.agg (upc A1 u.gone.length c1 (atc u.a Ap cp Ac cc) A2 u.here.length c2).toArray] w' fun e w2 => e = .returned (.int .i64 ((encUp u).length : Int)) ∧ Below w'.heap.size w' w2) := fun w' h => by
      rw [encUp_len hg]
      exact size_any u A1 c1 Ap cp Ac cc A2 c2 G w' (hm.bel h) hu hg.at_
    rcases Nat.lt_or_ge 4077 (encUp u).length with hlong | hshort
    · have HQ : Hid (∀ w', Below w.heap.size w w' → RetEnc u w (.returned (.tuple #[.slice none 0 0, .int .i64 6])) w') := fun w' h => ⟨fun h1 => absurd h1.2 (by omega), fun _ => ⟨rfl, h⟩, fun h1 => absurd hg h1⟩
      obtain ⟨Q, hQ⟩ : ∃ Q, Q = RetEnc u w := ⟨_, rfl⟩
      rw [← hQ] at HQ ⊢
      have hl : (4077 : Int) < ((encUp u).length : Int) := by omega
      generalize (encUp u).length = N at *
      clear hm hz hg hb hQ
      go_enter Tryz.func12, Tryz.ntmps12
      go_upto_region 1 with fail
      rw [← hw1]
      clear hw1
      go_wp2_with (first
        | (refine wpList_loadBk rfl 31 (.tmp 1) rfl w.heap.size (by rfl) 31 (upc A1 u.gone.length c1 (atc u.a Ap cp Ac cc) A2 u.here.length c2).toArray _ HK0.out Tryz.underlying31 (by rfl) HSu.out ?_)
        | (go_at_call 37; refine HGd.out.mono ?_; rintro e w2 ⟨rfl, h⟩; have HB2 := Lib.hid (HB.out.trans (h.mono HB.out.size)); have HK0 := Lib.hid (HU.out w2 h); clear h)
        | (go_at_call 38; refine (HSi.out _ HB2.out).mono ?_; rintro e w3 ⟨rfl, h⟩; have HB3 := Lib.hid (HB2.out.trans (h.mono HB2.out.size)); clear h))
      exact HQ.out _ HB3.out
    · have hl : ¬ (4077 : Int) < ((encUp u).length : Int) := by omega
      have hge : (nlri.enc u.gone).length ≤ 65535 := by
        have := sizeL_enc u.gone hg.1
        have h2 := encUp_len hg
        have h3 : sizeL (u.gone ++ u.here) = sizeL u.gone + sizeL u.here := by unfold sizeL; rw [List.map_append, List.sum_append]
        omega
      have hae : (encB u.a).length ≤ 65535 := by have := encB_len hg.at_; omega
      have hhe : (nlri.enc u.here).length ≤ 65535 := by
        have := sizeL_enc u.here hg.2.1
        have h2 := encUp_len hg
        have h3 : sizeL (u.gone ++ u.here) = sizeL u.gone + sizeL u.here := by unfold sizeL; rw [List.map_append, List.sum_append]
        omega
      have HQ : Hid (∀ A c w', (A = none → c = 0) → (encUp u).length ≤ c → c ≤ maxLen → Bs w' w'.heap.size A (encUp u) → Below w.heap.size w w' → RetEnc u w (.returned (.tuple #[.slice A (encUp u).length c, .int .i64 0])) w') := fun A c w' h1 h2 h3 h4 h5 => ⟨fun _ => ⟨A, c, rfl, h1, h2, h3, h4, h5⟩, fun h1 => absurd h1.2 (by omega), fun h1 => absurd hg h1⟩
      have HN1 : Hid (∀ w', Below w.heap.size w w' → Calls Tryz.prog 39 #[.slice A1 u.gone.length c1] w' fun e w2 => ∃ A c, e = .returned (.tuple #[.slice A (nlri.enc u.gone).length c, .int .i64 0]) ∧ NewSl 1 (nlri.enc u.gone).length (bv (nlri.enc u.gone)) w' A c w2) := fun w' h => (nlri.Encode_any A1 c1 w'.heap.size u.gone w' (by have := hu.gl; omega) (Nat.le_refl _) (hm.gone.bel h).ps hu.gw).mono fun e w2 h => by
        unfold nlri.EncPost at h
        rwa [if_pos hg.1] at h
      have HN2 : Hid (∀ w', Below w.heap.size w w' → Calls Tryz.prog 39 #[.slice A2 u.here.length c2] w' fun e w2 => ∃ A c, e = .returned (.tuple #[.slice A (nlri.enc u.here).length c, .int .i64 0]) ∧ NewSl 1 (nlri.enc u.here).length (bv (nlri.enc u.here)) w' A c w2) := fun w' h => (nlri.Encode_any A2 c2 w'.heap.size u.here w' (by have := hu.hl; omega) (Nat.le_refl _) (hm.here.bel h).ps hu.hw).mono fun e w2 h => by
        unfold nlri.EncPost at h
        rwa [if_pos hg.2.1] at h
      have HAe : Hid (∀ w', Below w.heap.size w w' → Calls Tryz.prog 40 #[.agg (atc u.a Ap cp Ac cc).toArray] w' fun e w2 => ∃ A c, e = .returned (.tuple #[.slice A (encB u.a).length c, .int .i64 0]) ∧ foot.Own w2 5 1 A (encB u.a).length c (bv (encB u.a)) ∧ (∀ k, sf A k → w'.heap.size ≤ k) ∧ Below w'.heap.size w' w2) := fun w' h => attr.Encode_yes u.a Ap Ac cp cc G w' (hm.at_.bel h) hu.pl hu.cl hg.at_
      have HEu : Hid (encUp u = lenB (nlri.enc u.gone) ++ lenB (encB u.a) ++ nlri.enc u.here) := rfl
      generalize nlri.enc u.gone = eg at *
      generalize encB u.a = ea at *
      generalize nlri.enc u.here = eh at *
      generalize encUp u = EU at *
      obtain ⟨Q, hQ⟩ : ∃ Q, Q = RetEnc u w := ⟨_, rfl⟩
      rw [← hQ] at HQ ⊢
      clear hm hz hg hb hQ
      go_enter Tryz.func12, Tryz.ntmps12
      go_upto_region 1 with fail
      rw [← hw1]
      clear hw1
      go_upto_region 6 with (first
        | (refine wpList_loadBk rfl 31 (.tmp 1) rfl w.heap.size (by rfl) 31 (upc A1 u.gone.length c1 (atc u.a Ap cp Ac cc) A2 u.here.length c2).toArray _ HK0.out Tryz.underlying31 (by rfl) HSu.out ?_)
        | (go_at_call 37; refine HGd.out.mono ?_; rintro e w2 ⟨rfl, h⟩; have HB2 := Lib.hid (HB.out.trans (h.mono HB.out.size)); have HX2 := Lib.hid h; have HK0 := Lib.hid (HU.out w2 h); clear h)
        | (go_at_call 38; refine (HSi.out _ HB2.out).mono ?_; rintro e w3 ⟨rfl, h⟩; have HB3 := Lib.hid (HB2.out.trans (h.mono HB2.out.size)); have HX3 := Lib.hid (HX2.out.trans (h.mono HX2.out.size)); clear h))
      have HW0 : Hid (Wtr (w3.alloc (.cells #[.slice none 0 0] 71)) w.heap.size w3.heap.size []) := ⟨HB3.out.size, none, 0, Bk.new w3 _ _, own_none _ _ _ _⟩
      have HB4 : Hid (Below w.heap.size w (w3.alloc (.cells #[.slice none 0 0] 71))) := HB3.out.alloc HB3.out.size _
      have HX4 : Hid (Below w1.heap.size w1 (w3.alloc (.cells #[.slice none 0 0] 71))) := HX3.out.alloc HX3.out.size _
      have HLb : Hid (w.heap.size ≤ w3.heap.size) := HB3.out.size
      obtain ⟨b, hbb⟩ : ∃ b, b = w3.heap.size := ⟨_, rfl⟩
      rw [← hbb] at HW0 HLb ⊢
      clear hbb
      generalize w3.alloc (.cells #[.slice none 0 0] 71) = w4 at *
      have HK4 := HU.out w4 HX4.out
      have x0 := HK4.cell 0
      simp [upc, atc] at x0
      have HN1x := Lib.hid (HN1.out w4 HB4.out)
      clear HK4 HB3 HX3 HB2 HX2 HGd HSi
      go_upto_region 7 with (go_at_call 39; refine HN1x.out.mono ?_; rintro e w5 ⟨A5, c5, rfl, h⟩; have HE5 := Lib.hid h; have HB5 := Lib.hid (HB4.out.trans (h.bel.mono HB4.out.size)); have HX5 := Lib.hid (HX4.out.trans (h.bel.mono HX4.out.size)); have HY5 := Lib.hid h.bel; have HK5 := Lib.hid (HU.out w5 HX5.out); clear h x0)
      have HAx := Lib.hid (HAe.out w5 HB5.out)
      go_upto_region 8 with (first
        | (refine wpList_loadMid rfl 29 (.tmp 28) rfl w.heap.size 1 (by rfl) 31 [.slice A1 u.gone.length c1] (atc u.a Ap cp Ac cc) [.slice A2 u.here.length c2] _ HK5.out rfl Tryz.underlying29 (by rfl) HSz.out ?_)
        | (go_at_call 40; refine HAx.out.mono ?_; rintro e w6 ⟨A6, c6, rfl, h1, h2, h⟩; have HO6 := Lib.hid h1; have HO6n := Lib.hid h2; have HB6 := Lib.hid (HB5.out.trans (h.mono HB5.out.size)); have HX6 := Lib.hid (HX5.out.trans (h.mono HX5.out.size)); have HY6 := Lib.hid (HY5.out.trans (h.mono HY5.out.size)); have HE6 := Lib.hid (HE5.out.later h); have x10 := (HU.out w6 HX6.out).cell 10; simp [upc, atc] at x10; clear h1 h2 h))
      have HN2x := Lib.hid (HN2.out w6 HB6.out)
      go_upto_region 9 with (go_at_call 39; refine HN2x.out.mono ?_; rintro e w7 ⟨A7, c7, rfl, h⟩; have HE7 := Lib.hid h; have HB7 := Lib.hid (HB6.out.trans (h.bel.mono HB6.out.size)); have HY7 := Lib.hid (HY6.out.trans (h.bel.mono HY6.out.size)); have HO7 := Lib.hid (HO6.out.bel h.bel); have HE6' := Lib.hid (HE6.out.later h.bel); clear h x10)
      have HW7 := Lib.hid (HW0.out.below HY7.out)
      have hs5 : ∀ ad, A5 = some ad → Sep w7 b ad.block := fun ad e => HW0.out.sep (HE6'.out.new ad e) HY7.out
      have hs6 : ∀ ad, A6 = some ad → Sep w7 b ad.block := fun ad e => HW0.out.sep (Nat.le_trans HY5.out.size (HO6n.out _ ⟨ad, e, rfl⟩)) HY7.out
      have hs7 : ∀ ad, A7 = some ad → Sep w7 b ad.block := fun ad e => HW0.out.sep (Nat.le_trans HY6.out.size (HE7.out.new ad e)) HY7.out
      have hb6 : Bs w7 w7.heap.size A6 ea := HO7.out.rg.rd
      have HL1 := Lib.hid (Long_yes w.heap.size b [] eg A5 c5 w7.heap.size w7 HW7.out (by simp) hge HE6'.out.nil (Nat.le_refl _) HE6'.out.rd hs5)
      have HL2 : Hid (∀ w', Wtr w' w.heap.size b ([] ++ lenB eg) → Only w7 w' b → Calls Tryz.prog 41 #[.pointer (some ⟨b, 0, none⟩), .slice A6 ea.length c6] w' fun e w2 => e = .returned (.bool true) ∧ Wtr w2 w.heap.size b (([] ++ lenB eg) ++ lenB ea) ∧ Only w' w2 b) := fun w' h1 h2 => Long_yes w.heap.size b ([] ++ lenB eg) ea A6 c6 w7.heap.size w' h1 (by simp [lenB]; omega) hae HO7.out.nil h2.size (hb6.only h2 (Nat.le_refl _) hs6) (fun ad e => (h2.block ad.block (HO7.out.lt _ ⟨ad, e, rfl⟩) (hs6 ad e)).2)
      have HL3 : Hid (∀ w', Wtr w' w.heap.size b (([] ++ lenB eg) ++ lenB ea) → Only w7 w' b → Calls Tryz.prog 42 #[.pointer (some ⟨b, 0, none⟩), .slice A7 eh.length c7] w' fun e w2 => e = .returned (.pointer (some ⟨b, 0, none⟩)) ∧ Wtr w2 w.heap.size b ((([] ++ lenB eg) ++ lenB ea) ++ eh) ∧ Only w' w2 b) := fun w' h1 h2 => Put_any w.heap.size b (([] ++ lenB eg) ++ lenB ea) eh A7 c7 w7.heap.size w' h1 (by simp [lenB]; omega) HE7.out.nil h2.size (Rd.only HE7.out.rd h2 (Nat.le_refl _) hs7)
      have HBy := Lib.hid (fun (w' : World) (h : Wtr w' w.heap.size b ((([] ++ lenB eg) ++ lenB ea) ++ eh)) => Bytes_any w.heap.size b ((([] ++ lenB eg) ++ lenB ea) ++ eh) w' h (by simp [lenB]; omega))
      have HEw : Hid ((([] ++ lenB eg) ++ lenB ea) ++ eh = EU) := by rw [Hid, HEu.out, List.nil_append]
      rw [HEw.out] at HL3 HBy
      clear hs5 hs6 hs7 hb6
      go_wp2_with (first
        | (go_at_call 41; first
          | (refine HL1.out.mono ?_; rintro e w8 ⟨rfl, h1, h2⟩; have HW8 := Lib.hid h1; have HO8 := Lib.hid h2; have HL2x := Lib.hid (HL2.out w8 h1 h2); clear h1 h2 HL1)
          | (refine HL2x.out.mono ?_; rintro e w9 ⟨rfl, h1, h2⟩; have HW9 := Lib.hid h1; have HO9 := Lib.hid (HO8.out.trans h2); clear h1 h2))
        | (go_at_call 42; refine (HL3.out w9 HW9.out HO9.out).mono ?_; rintro e w10 ⟨rfl, h1, h2⟩; have HW10 := Lib.hid h1; have HO10 := Lib.hid (HO9.out.trans h2); clear h1 h2)
        | (go_at_call 43; refine (HBy.out w10 HW10.out).mono ?_; rintro e w11 ⟨⟨A11, c11, rfl, hA, hc, hm, hs, hb, hn⟩, hw⟩; have HF := Lib.hid (HQ.out A11 c11 w11 hA hc hm hs ((HB7.out.trans (HW7.out.only HO10.out)).trans (hb.mono (HB7.out.trans (HW7.out.only HO10.out)).size))); clear hA hc hm hs hb hn hw))
      exact HF.out
end
end Go.Proofs.YtaeeeinpelfppaaGreat.upd

namespace Go.Proofs.YtaeeeinpelfppaaGreat.upd
open Go.RowKit Go.Proofs.YtaeeeinpelfppaaGreat.kit Go.Proofs.YtaeeeinpelfppaaGreat.mem Go.Proofs.YtaeeeinpelfppaaGreat.foot Go.Proofs.YtaeeeinpelfppaaGreat.nums Go.Proofs.YtaeeeinpelfppaaGreat.asn Go.Proofs.YtaeeeinpelfppaaGreat.pth Go.Proofs.YtaeeeinpelfppaaGreat.octet Go.Proofs.YtaeeeinpelfppaaGreat.attr
set_option linter.unusedVariables false
theorem two_lenB (x t : List UInt8) (h : x.length < 65536) : two (lenB x ++ t) = x.length := by
  have h1 := octet.byteOf_nat ((x.length : Int) / 256)
  have h2 := octet.byteOf_nat (x.length : Int)
  have e : two (lenB x ++ t) = (octet.byteOf ((x.length : Int) / 256)).toNat * 256 + (octet.byteOf (x.length : Int)).toNat := by
    unfold two lenB
    simp [octet.num]
  rw [e]
  omega
theorem part_lenB (x t : List UInt8) (h : x.length < 65536) : part (lenB x ++ t) = some (x, t) := by
  have e := two_lenB x t h
  have hl : (lenB x ++ t).length = 2 + x.length + t.length := by unfold lenB; simp; omega
  unfold part
  rw [if_neg (by omega), if_neg (by omega), e]
  have e1 : (lenB x ++ t).drop 2 = x ++ t := rfl
  rw [← List.drop_drop, e1]
  simp
theorem enc_nil {l : List (Nat × Int)} (h : (nlri.enc l).length = 0) : l = [] := by
  rcases l with _ | ⟨p, t⟩
  · rfl
  · have e : nlri.enc (p :: t) = nlri.encP p ++ nlri.enc t := rfl
    rw [e, List.length_append] at h
    unfold nlri.encP at h
    simp at h
theorem upd_back {u : Upd} (hg : GoodU u) (hw : Gw u.a) (hu : Ub u) (h1 : (nlri.enc u.gone).length < 65536) : updS (encUp u) = .ok u := by
  have hea := encB_len hg.at_
  have hd1 : nlri.dec (nlri.enc u.gone) = some u.gone := nlri.dec_enc u.gone fun p hp => ⟨hu.gw p hp, (nlri.goodL_iff u.gone).1 hg.1 p hp⟩
  have hd2 : nlri.dec (nlri.enc u.here) = some u.here := nlri.dec_enc u.here fun p hp => ⟨hu.hw p hp, (nlri.goodL_iff u.here).1 hg.2.1 p hp⟩
  have hda := attr.dec_enc hg.at_ hw
  unfold updS encUp
  rw [List.append_assoc, part_lenB _ _ h1]
  dsimp only
  rw [hd1]
  dsimp only
  unfold updB
  rw [part_lenB _ _ (by omega)]
  dsimp only
  rw [hda]
  dsimp only
  unfold updC
  by_cases hh : (nlri.enc u.here).length = 0
  · rw [if_pos hh]
    have he := enc_nil hh
    have ha := hg.2.2.1 he
    obtain ⟨g, a, h⟩ := u
    simp only at he ha
    subst he ha
    rfl
  · rw [if_neg hh]
    have hne : u.here ≠ [] := fun e => hh (by rw [e]; rfl)
    rw [if_neg (by have := (hg.2.2.2 hne).2; omega), hd2]
end Go.Proofs.YtaeeeinpelfppaaGreat.upd

namespace Go.Proofs.YtaeeeinpelfppaaGreat.upd
open Go.RowKit Go.Proofs.YtaeeeinpelfppaaGreat.kit Go.Proofs.YtaeeeinpelfppaaGreat.mem Go.Proofs.YtaeeeinpelfppaaGreat.foot Go.Proofs.YtaeeeinpelfppaaGreat.nums Go.Proofs.YtaeeeinpelfppaaGreat.asn Go.Proofs.YtaeeeinpelfppaaGreat.pth Go.Proofs.YtaeeeinpelfppaaGreat.octet Go.Proofs.YtaeeeinpelfppaaGreat.attr
set_option linter.unusedVariables false
set_option linter.unusedSimpArgs false
section
variable (u : Upd) (A1 : Option Addr) (c1 : Nat) (Ap : Option Addr) (cp : Nat) (Ac : Option Addr) (cc : Nat) (A2 : Option Addr) (c2 : Nat) (G : Foot) (w : World)
set_option maxRecDepth 100000 in
set_option maxHeartbeats 4000000 in
theorem Size_any (n : Nat) (hn : (GoodU u → n = (encUp u).length) ∧ (¬ GoodU u → n = 0)) (hm : Um w G u A1 c1 Ap cp Ac cc A2 c2) (hu : Ub u) :
    Calls Tryz.prog 16 #[.agg (upc A1 u.gone.length c1 (atc u.a Ap cp Ac cc) A2 u.here.length c2).toArray] w fun e w' => e = .returned (.int .i64 (n : Int)) ∧ Below w.heap.size w w' := by
  have HSu : Hid ((Tryz.prog.info? 31).map (·.size) = some 11) := info_upd
  have hb : Below w.heap.size w (w.alloc (.cells (upc A1 u.gone.length c1 (atc u.a Ap cp Ac cc) A2 u.here.length c2).toArray 31)) := (Below.refl _ _).alloc (Nat.le_refl _) _
  have HB := Lib.hid hb
  obtain ⟨z, hz⟩ := bool_of (GoodU u)
  have HGd := Lib.hid (good_any u A1 c1 Ap cp Ac cc A2 c2 G _ z hz (hm.bel hb) hu)
  have HU : Hid (∀ w', Below (w.alloc (.cells (upc A1 u.gone.length c1 (atc u.a Ap cp Ac cc) A2 u.here.length c2).toArray 31)).heap.size (w.alloc (.cells (upc A1 u.gone.length c1 (atc u.a Ap cp Ac cc) A2 u.here.length c2).toArray 31)) w' → Bk w' w.heap.size 31 (upc A1 u.gone.length c1 (atc u.a Ap cp Ac cc) A2 u.here.length c2).toArray) := fun w' h => (Bk.new w _ _).below h (by simp)
  have HK0 := Lib.hid (HU.out _ (Below.refl _ _))
  have HCl : Hid ((upc A1 u.gone.length c1 (atc u.a Ap cp Ac cc) A2 u.here.length c2).length = 11) := rfl
  rcases z with _ | _
  · have hn0 : n = 0 := hn.2 (by simpa using hz)
    subst hn0
    clear hm hz hn hb
    generalize upc A1 u.gone.length c1 (atc u.a Ap cp Ac cc) A2 u.here.length c2 = cs at *
    go_enter Tryz.func16, Tryz.ntmps16
    go_wp2_with (first
      | (refine wpList_loadBk rfl 31 (.tmp 1) rfl w.heap.size (by rfl) 31 cs.toArray _ HK0.out Tryz.underlying31 (by rfl) (by rw [List.size_toArray, HCl.out]; exact HSu.out) ?_)
      | (go_at_call 37; refine HGd.out.mono ?_; rintro e w2 ⟨rfl, h⟩; have HB2 := Lib.hid (HB.out.trans (h.mono HB.out.size)); clear h))
    go_ret
    exact ⟨rfl, HB2.out⟩
  · have hg : GoodU u := hz.1 rfl
    have hn1 := hn.1 hg
    have HSi : Hid (∀ w', Below w.heap.size w w' → Calls Tryz.prog 38 #[.agg (upc A1 u.gone.length c1 (atc u.a Ap cp Ac cc) A2 u.here.length c2).toArray] w' fun e w2 => e = .returned (.int .i64 (n : Int)) ∧ Below w'.heap.size w' w2) := fun w' h => by
      rw [hn1, encUp_len hg]
      exact size_any u A1 c1 Ap cp Ac cc A2 c2 G w' (hm.bel h) hu hg.at_
    clear hm hz hn hn1 hb hg
    generalize upc A1 u.gone.length c1 (atc u.a Ap cp Ac cc) A2 u.here.length c2 = cs at *
    go_enter Tryz.func16, Tryz.ntmps16
    go_wp2_with (first
      | (refine wpList_loadBk rfl 31 (.tmp 1) rfl w.heap.size (by rfl) 31 cs.toArray _ HK0.out Tryz.underlying31 (by rfl) (by rw [List.size_toArray, HCl.out]; exact HSu.out) ?_)
      | (go_at_call 37; refine HGd.out.mono ?_; rintro e w2 ⟨rfl, h⟩; have HB2 := Lib.hid (HB.out.trans (h.mono HB.out.size)); have HK0 := Lib.hid (HU.out w2 h); clear h)
      | (go_at_call 38; refine (HSi.out _ HB2.out).mono ?_; rintro e w3 ⟨rfl, h⟩; have HB3 := Lib.hid (HB2.out.trans (h.mono HB2.out.size)); clear h))
    go_ret
    exact ⟨rfl, HB3.out⟩
end
theorem encB_zero : encB zeroA = [] := by
  unfold encB
  have hb : ∀ k, bitI zeroA.has k = false := fun k => by unfold bitI zeroA; simp
  simp only [encU, hb]
  simp
def u0 : Upd := ⟨[(167772160, 8)], zeroA, []⟩
theorem good_u0 : GoodU u0 := ⟨by decide +kernel, by decide +kernel, fun _ => rfl, fun h => absurd rfl h⟩
theorem good_zU : GoodU zeroU := ⟨by decide +kernel, by decide +kernel, fun _ => rfl, fun h => absurd rfl h⟩
theorem ub_u0 : Ub u0 := ⟨by decide, by decide, (fun q hq => by simp [u0] at hq; rw [hq]; decide), (fun q hq => by simp [u0] at hq), Nat.zero_le _, Nat.zero_le _⟩
theorem ub_zU : Ub zeroU := ⟨by decide, by decide, (fun q hq => by simp [zeroU] at hq), (fun q hq => by simp [zeroU] at hq), Nat.zero_le _, Nat.zero_le _⟩
theorem enc_u0 : encUp u0 = [0, 2, 8, 10, 0, 0] := by
  show lenB (nlri.enc [(167772160, 8)]) ++ lenB (encB zeroA) ++ nlri.enc [] = _
  rw [encB_zero]
  decide +kernel
theorem enc_zU : (encUp zeroU).length = 4 := by
  show (lenB (nlri.enc []) ++ lenB (encB zeroA) ++ nlri.enc []).length = _
  rw [encB_zero]
  decide +kernel
set_option maxRecDepth 100000 in
set_option maxHeartbeats 4000000 in
theorem lives_any (w : World) : Calls Tryz.prog 10 #[] w fun e w' => e = .returned (.bool true) ∧ Below w.heap.size w w' := by
  have hb : Below w.heap.size w (w.alloc (.cells #[.int .u32 167772160, .int .i64 8] 66)) := (Below.refl _ _).alloc (Nat.le_refl _) _
  have HB := Lib.hid hb
  have hr : Rg (w.alloc (.cells #[.int .u32 167772160, .int .i64 8] 66)) (fun k => k = w.heap.size) 2 (some ⟨w.heap.size, 0, none⟩) 1 [.int .u32 167772160, .int .i64 8] := Rg.new w 66 2 1 #[.int .u32 167772160, .int .i64 8] rfl
  have hm : Um (w.alloc (.cells #[.int .u32 167772160, .int .i64 8] 66)) (fun k => k = w.heap.size) u0 (some ⟨w.heap.size, 0, none⟩) 1 none 0 none 0 none 0 := ⟨⟨(fun h => by cases h), Nat.le_refl _, by decide, hr⟩, Am.zero _ _, Pw.nil_ _ _⟩
  have HE : Hid (Calls Tryz.prog 12 #[.agg #[.slice (some ⟨w.heap.size, 0, none⟩) 1 1, .int .i64 0, .int .i64 0, .slice none 0 0, .int .u32 0, .int .u32 0, .int .u32 0, .int .u32 0, .int .u32 0, .slice none 0 0, .slice none 0 0]] (w.alloc (.cells #[.int .u32 167772160, .int .i64 8] 66)) fun e w' => ∃ A c, e = .returned (.tuple #[.slice A 6 c, .int .i64 0]) ∧ Bs w' w'.heap.size A [0, 2, 8, 10, 0, 0] ∧ Below (w.alloc (.cells #[.int .u32 167772160, .int .i64 8] 66)).heap.size (w.alloc (.cells #[.int .u32 167772160, .int .i64 8] 66)) w') := by
    refine Calls.mono (Encode_any u0 (some ⟨w.heap.size, 0, none⟩) 1 none 0 none 0 none 0 _ _ hm ub_u0) ?_
    rintro e w' ⟨h1, _, _⟩
    have := h1 ⟨good_u0, by rw [enc_u0]; decide⟩
    rw [enc_u0] at this
    obtain ⟨A, c, rfl, _, _, _, hs, hb⟩ := this
    exact ⟨A, c, rfl, hs, hb⟩
  have HSi : Hid (∀ w', Calls Tryz.prog 16 #[.agg #[.slice none 0 0, .int .i64 0, .int .i64 0, .slice none 0 0, .int .u32 0, .int .u32 0, .int .u32 0, .int .u32 0, .int .u32 0, .slice none 0 0, .slice none 0 0]] w' fun e w2 => e = .returned (.int .i64 4) ∧ Below w'.heap.size w' w2) := fun w' => Size_any zeroU none 0 none 0 none 0 none 0 (fun _ => True) w' 4 ⟨fun _ => enc_zU.symm, fun h => absurd good_zU h⟩ (Um.zero _ _) ub_zU
  clear hb hr hm
  go_enter Tryz.func10, Tryz.ntmps10
  go_upto_region 2 with (go_at_call 12; refine HE.out.mono ?_; rintro e w2 ⟨A2, c2, rfl, h1, h⟩; have HS2 := Lib.hid h1; have HB2 := Lib.hid (HB.out.trans (h.mono HB.out.size)); clear h1 h)
  have cv : (convert 22 9 (.slice A2 6 c2)).run Tryz.prog w2 = .ok (.string ⟨#[0, 2, 8, 10, 0, 0]⟩) w2 := run_str HS2.out
  go_wp2_with (go_at_call 16; refine (HSi.out _).mono ?_; rintro e w3 ⟨rfl, h⟩; have HB3 := Lib.hid (HB2.out.trans (h.mono HB2.out.size)); clear h)
  go_ret
  exact ⟨rfl, HB3.out⟩
end Go.Proofs.YtaeeeinpelfppaaGreat.upd
