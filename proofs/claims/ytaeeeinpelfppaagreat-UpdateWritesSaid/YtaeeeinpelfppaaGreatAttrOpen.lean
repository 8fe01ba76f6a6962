/- The plain law: the bytes of good attributes are read as these. No condition. Attributes that came in: opened to Am; what holds of their numbers; some attributes are cut once. No condition. -/
import Derived.Test.YtaeeeinpelfppaaGreatAttrPub
import Derived.Test.YtaeeeinpelfppaaGreatRefNorm8
import Derived.Test.YtaeeeinpelfppaaGreatRefGood04
import Derived.Test.YtaeeeinpelfppaaGreatOctLives
namespace Go.Proofs.YtaeeeinpelfppaaGreat.attr
open Go.RowKit Go.Proofs.YtaeeeinpelfppaaGreat.kit Go.Proofs.YtaeeeinpelfppaaGreat.mem Go.Proofs.YtaeeeinpelfppaaGreat.foot Go.Proofs.YtaeeeinpelfppaaGreat.nums Go.Proofs.YtaeeeinpelfppaaGreat.asn Go.Proofs.YtaeeeinpelfppaaGreat.pth Go.Proofs.YtaeeeinpelfppaaGreat.octet
set_option linter.unusedVariables false
set_option linter.unusedSimpArgs false
theorem byte_nat {n : Nat} (h : n ≤ 255) : (octet.byteOf (n : Int)).toNat = n := by
  have := byteOf_nat (n : Int)
  omega
theorem att1_s (f k : Nat) (hf : f ≤ 255) (he : ext f = false) (hk : k ≤ 255) (v r : List UInt8) (hv : v.length ≤ 255) :
    att1 ([octet.byteOf (f : Int), octet.byteOf (k : Int), octet.byteOf (v.length : Int)] ++ v ++ r) = some (⟨f, k, v, [octet.byteOf (f : Int), octet.byteOf (k : Int), octet.byteOf (v.length : Int)] ++ v⟩, r) := by
  have hl : lenN f = 1 := by unfold lenN; rw [he]; rfl
  have hn : num [octet.byteOf (v.length : Int)] = v.length := by rw [num1, byte_nat hv]
  simp only [List.cons_append, List.nil_append, att1, byte_nat hf, byte_nat hk, hl, List.take_succ_cons, List.take_zero, List.drop_succ_cons, List.drop_zero, hn]
  rw [if_pos ⟨by simp, by simp⟩]
  simp
theorem att1_l (f k : Nat) (hf : f ≤ 255) (he : ext f = true) (hk : k ≤ 255) (v r : List UInt8) (hv : v.length ≤ 65535) :
    att1 ([octet.byteOf (f : Int), octet.byteOf (k : Int), octet.byteOf ((v.length : Int) / 256), octet.byteOf (v.length : Int)] ++ v ++ r) = some (⟨f, k, v, [octet.byteOf (f : Int), octet.byteOf (k : Int), octet.byteOf ((v.length : Int) / 256), octet.byteOf (v.length : Int)] ++ v⟩, r) := by
  have hl : lenN f = 2 := by unfold lenN; rw [he]; rfl
  have hn : num [octet.byteOf ((v.length : Int) / 256), octet.byteOf (v.length : Int)] = v.length := by
    have := num_be2 (v.length : Int) (by omega) (by omega)
    unfold be2 at this
    omega
  simp only [List.cons_append, List.nil_append, att1, byte_nat hf, byte_nat hk, hl, List.take_succ_cons, List.take_zero, List.drop_succ_cons, List.drop_zero, hn]
  rw [if_pos ⟨by simp, by simp⟩]
  simp
theorem flg_nat (k : Nat) (h1 : 1 ≤ k) (h8 : k ≤ 8) : ∃ f : Nat, flg (k : Int) = (f : Int) ∧ f + 16 ≤ 255 ∧ ext f = false ∧ ext (f + 16) = true ∧ flaggedB f k = true ∧ flaggedB (f + 16) k = true := by
  have h : k = 1 ∨ k = 2 ∨ k = 3 ∨ k = 4 ∨ k = 5 ∨ k = 6 ∨ k = 7 ∨ k = 8 := by omega
  rcases h with rfl | rfl | rfl | rfl | rfl | rfl | rfl | rfl
  · exact ⟨64, by decide⟩
  · exact ⟨64, by decide⟩
  · exact ⟨64, by decide⟩
  · exact ⟨128, by decide⟩
  · exact ⟨64, by decide⟩
  · exact ⟨64, by decide⟩
  · exact ⟨192, by decide⟩
  · exact ⟨192, by decide⟩
/-- an attribute's bytes are read as it -/
theorem att1_attB (a : Atr) (k : Nat) (h1 : 1 ≤ k) (h8 : k ≤ 8) (hv : (valB a k).length ≤ 65535) (r : List UInt8) : ∃ f, flaggedB f k = true ∧ att1 (attB a k ++ r) = some (⟨f, k, valB a k, attB a k⟩, r) := by
  obtain ⟨f, e, hf, e1, e2, g1, g2⟩ := flg_nat k h1 h8
  unfold attB
  rw [e]
  by_cases hl : 255 < (valB a k).length
  · rw [if_pos hl]
    refine ⟨f + 16, g2, ?_⟩
    have := att1_l (f + 16) k hf e2 (by omega) (valB a k) r hv
    rw [show ((f + 16 : Nat) : Int) = (f : Int) + 16 by omega] at this
    exact this
  · rw [if_neg hl]
    exact ⟨f, g1, att1_s f k (by omega) e1 (by omega) (valB a k) r (by omega)⟩
theorem nums4_n4s : ∀ l : List Nat, W32 l → nums4 (n4s l) = l
  | [], _ => rfl
  | n :: l, h => by
    have h1 := h n (List.mem_cons_self ..)
    have ih := nums4_n4s l (fun m hm => h m (List.mem_cons_of_mem _ hm))
    have h2 := num_be4 (n : Int) (by omega) (by omega)
    show num (be4 (n : Int)) :: nums4 (n4s l) = n :: l
    rw [ih]
    congr 1
    omega
theorem pcs_pathB : ∀ p : List Sg, (∀ s ∈ p, (1 ≤ s.2.length ∧ s.2.length ≤ 255) ∧ (s.1 = 1 ∨ s.1 = 2) ∧ W32 s.2) → pcs (pathB p) = some p
  | [], _ => rfl
  | s :: p, h => by
    obtain ⟨⟨h1, h255⟩, hk, hw⟩ := h s (List.mem_cons_self ..)
    have ih := pcs_pathB p (fun t ht => h t (List.mem_cons_of_mem _ ht))
    have hl : (n4s s.2).length = 4 * s.2.length := n4s_len s.2
    have hkb : ((octet.byteOf s.1).toNat : Int) = s.1 := by have := byteOf_nat s.1; rcases hk with e | e <;> omega
    have hs : segR (pathB (s :: p)) = some (s, pathB p) := by
      show segR (octet.byteOf s.1 :: octet.byteOf (s.2.length : Int) :: (n4s s.2 ++ pathB p)) = _
      unfold segR
      dsimp only
      rw [byte_nat h255, ← hl, List.take_left, List.drop_left, nums4_n4s s.2 hw, if_pos ⟨by omega, by omega, by simp⟩, hkb]
    rw [pcs_some hs, ih]
    rfl
/-- the attributes of types below k -/
def upTo (a : Atr) (k : Nat) : Atr := ⟨hasU a.has k, selI (bitI a.has 1 && decide (1 < k)) a.orig, selL (bitI a.has 2 && decide (2 < k)) a.path, selI (bitI a.has 3 && decide (3 < k)) a.hop, selI (bitI a.has 4 && decide (4 < k)) a.med, selI (bitI a.has 5 && decide (5 < k)) a.pref, selI (bitI a.has 7 && decide (7 < k)) a.aas, selI (bitI a.has 7 && decide (7 < k)) a.aid, selL (bitI a.has 8 && decide (8 < k)) a.comms⟩
theorem upTo_one (a : Atr) : upTo a 1 = zeroA := by
  unfold upTo zeroA hasU
  simp [selI, selL]
theorem upTo_nine {a : Atr} (h : normA a = a) : upTo a 9 = a := by
  have h0 := congrArg Atr.has h
  have h1 := congrArg Atr.orig h
  have h2 := congrArg Atr.path h
  have h3 := congrArg Atr.hop h
  have h4 := congrArg Atr.med h
  have h5 := congrArg Atr.pref h
  have h6 := congrArg Atr.aas h
  have h7 := congrArg Atr.aid h
  have h8 := congrArg Atr.comms h
  simp only [normA] at h0 h1 h2 h3 h4 h5 h6 h7 h8
  refine atr_ext ?_ ?_ ?_ ?_ ?_ ?_ ?_ ?_ ?_
  · show hasU a.has 9 = a.has
    unfold hasU
    simpa using h0
  · show selI (bitI a.has 1 && true) a.orig = a.orig
    rw [Bool.and_true]; exact h1
  · show selL (bitI a.has 2 && true) a.path = a.path
    rw [Bool.and_true]
    cases hb : bitI a.has 2
    · rw [hb] at h2; exact h2
    · rfl
  · show selI (bitI a.has 3 && true) a.hop = a.hop
    rw [Bool.and_true]; exact h3
  · show selI (bitI a.has 4 && true) a.med = a.med
    rw [Bool.and_true]; exact h4
  · show selI (bitI a.has 5 && true) a.pref = a.pref
    rw [Bool.and_true]; exact h5
  · show selI (bitI a.has 7 && true) a.aas = a.aas
    rw [Bool.and_true]; exact h6
  · show selI (bitI a.has 7 && true) a.aid = a.aid
    rw [Bool.and_true]; exact h7
  · show selL (bitI a.has 8 && true) a.comms = a.comms
    rw [Bool.and_true]
    cases hb : bitI a.has 8
    · rw [hb] at h8; exact h8
    · rfl
theorem upTo_skip (a : Atr) (k : Nat) (h1 : 1 ≤ k) (h8 : k ≤ 8) (hb : bitI a.has k = false) : upTo a (k + 1) = upTo a k := by
  have hs := hasU_step a.has k h8
  rw [hb, if_neg (by decide), Int.add_zero] at hs
  have h : k = 1 ∨ k = 2 ∨ k = 3 ∨ k = 4 ∨ k = 5 ∨ k = 6 ∨ k = 7 ∨ k = 8 := by omega
  unfold upTo
  rw [hs]
  rcases h with rfl | rfl | rfl | rfl | rfl | rfl | rfl | rfl <;> simp [hb]
/-- what the memory says besides -/
structure Gw (a : Atr) : Prop where
  wf : Awf a
  p32 : ∀ s ∈ a.path, W32 s.2
  c32 : W32 a.comms
theorem upTo_lay (a : Atr) (k f : Nat) (h1 : 1 ≤ k) (h8 : k ≤ 8) (hb : bitI a.has k = true) (hf : flaggedB f k = true) (hg : GoodA a) (hw : Gw a) : wrongS (upTo a k) f k (valB a k) = (upTo a (k + 1), 0) := by
  have hs := hasU_step a.has k h8
  rw [hb, if_pos rfl] at hs
  have hkinds : ∀ s ∈ a.path, (1 ≤ s.2.length ∧ s.2.length ≤ 255) ∧ (s.1 = 1 ∨ s.1 = 2) ∧ W32 s.2 := fun s hs => by
    obtain ⟨j, hj, rfl⟩ := List.mem_iff_getElem.1 hs
    have h2 := good_at hg.ways.1 j hj _ (List.getElem?_eq_getElem hj)
    exact ⟨h2.1, h2.2.1, hw.p32 _ hs⟩
  have key : longB k (valB a k).length = true ∧ layS (upTo a k) k (valB a k) = ({ (upTo a (k + 1)) with has := hasU a.has k }, 0) := by
    have h : k = 1 ∨ k = 2 ∨ k = 3 ∨ k = 4 ∨ k = 5 ∨ k = 6 ∨ k = 7 ∨ k = 8 := by omega
    rcases h with rfl | rfl | rfl | rfl | rfl | rfl | rfl | rfl
    · refine ⟨rfl, ?_⟩
      have hn : (num (valB a 1) : Int) = a.orig := by
        show (num [octet.byteOf a.orig] : Int) = _
        have h2 := byteOf_nat a.orig
        have h3 := hg.lo
        have h4 := hg.hi
        rw [num1]; omega
      have h4 := hg.hi
      unfold layS
      dsimp only
      rw [hn, if_pos (by omega)]
      simp [upTo, hb, selI, selL]
    · refine ⟨rfl, ?_⟩
      have hp : pcs (valB a 2) = some a.path := pcs_pathB a.path hkinds
      have hn : normS a.path = a.path := hg.ways.1.2.2
      have hs2 : sub2 (valB a 2) = 0 := (sub2_some hp).1 (by rw [hn]; exact hg.ways)
      unfold layS
      dsimp only
      rw [hs2, hp]
      simp [upTo, hb, selI, selL, hn]
    · refine ⟨rfl, ?_⟩
      have h5 := wf_u32 hw.wf.hop
      have hn : (num (valB a 3) : Int) = a.hop := num_be4 a.hop h5.1 h5.2
      unfold layS
      dsimp only
      rw [hn, if_pos (hg.hop hb)]
      simp [upTo, hb, selI, selL]
    · refine ⟨rfl, ?_⟩
      have h5 := wf_u32 hw.wf.med
      have hn : (num (valB a 4) : Int) = a.med := num_be4 a.med h5.1 h5.2
      unfold layS
      dsimp only
      rw [hn]
      simp [upTo, hb, selI, selL]
    · refine ⟨rfl, ?_⟩
      have h5 := wf_u32 hw.wf.pref
      have hn : (num (valB a 5) : Int) = a.pref := num_be4 a.pref h5.1 h5.2
      unfold layS
      dsimp only
      rw [hn]
      simp [upTo, hb, selI, selL]
    · refine ⟨rfl, ?_⟩
      unfold layS
      dsimp only
      simp [upTo, hb, selI, selL]
    · refine ⟨rfl, ?_⟩
      have h5 := wf_u32 hw.wf.aas
      have h6 := wf_u32 hw.wf.aid
      have hn : (num ((valB a 7).take 4) : Int) = a.aas := num_be4 a.aas h5.1 h5.2
      have hm : (num ((valB a 7).drop 4) : Int) = a.aid := num_be4 a.aid h6.1 h6.2
      unfold layS
      dsimp only
      rw [hn, hm]
      simp [upTo, hb, selI, selL]
    · have hl : (valB a 8).length = 4 * a.comms.length := n4s_len a.comms
      refine ⟨?_, ?_⟩
      · show (decide ((valB a 8).length % 4 = 0) && decide ((valB a 8).length ≤ 1020)) = true
        have := hg.few
        rw [hl]
        simp
        omega
      · have hn : nums4 (valB a 8) = a.comms := nums4_n4s a.comms hw.c32
        unfold layS
        dsimp only
        rw [hn]
        simp [upTo, hb, selI, selL]
  unfold wrongS
  rw [if_pos ⟨h1, h8⟩, hf, if_neg (by decide), key.1, if_neg (by decide), key.2, if_neg (by simp)]
  congr 1
  refine atr_ext ?_ rfl rfl rfl rfl rfl rfl rfl rfl
  show hasU a.has k + 2 ^ k = hasU a.has (k + 1)
  rw [hs]
/-- the bytes of the last n types -/
def encR (a : Atr) : Nat → List UInt8
  | 0 => []
  | n + 1 => (if bitI a.has (8 - n) = true then attB a (8 - n) else []) ++ encR a n
theorem encR_all (a : Atr) : encR a 8 = encB a := by
  unfold encB
  simp [encR, encU]
theorem back_key {a : Atr} (hg : GoodA a) (hw : Gw a) : ∀ n, n ≤ 8 → ∀ seen : List Nat, (∀ j ∈ seen, j < 9 - n) → decQ (encR a n) seen (upTo a (9 - n)) = .ok a
  | 0, _, seen, _ => by
    show decQ [] seen (upTo a 9) = _
    rw [decQ_nil, upTo_nine hg.norm, hg.norm]
  | n + 1, hn, seen, hs => by
    have e : 9 - (n + 1) = 8 - n := by omega
    have e2 : 9 - n = (8 - n) + 1 := by omega
    rw [e]
    rw [e] at hs
    have h1 : 1 ≤ 8 - n := by omega
    have h8 : 8 - n ≤ 8 := by omega
    have ih := fun seen hs => back_key hg hw n (by omega) seen hs
    rw [e2] at ih
    unfold encR
    cases hb : bitI a.has (8 - n)
    · rw [if_neg (by decide), List.nil_append, ← upTo_skip a (8 - n) h1 h8 hb]
      exact ih seen fun j hj => by have := hs j hj; omega
    · rw [if_pos rfl]
      obtain ⟨f, hf, hx⟩ := att1_attB a (8 - n) h1 h8 (good_16 hg (8 - n)) (encR a n)
      rw [decQ_some hx]
      have hns : 8 - n ∉ seen := fun h => by have := hs _ h; omega
      simp only [if_neg hns, upTo_lay a (8 - n) f h1 h8 hb hf hg hw]
      simp only [ne_eq, not_true_eq_false, if_false]
      exact ih ((8 - n) :: seen) fun j hj => by
        rcases List.mem_cons.1 hj with rfl | hj
        · omega
        · have := hs j hj; omega
/-- good attributes come back -/
theorem dec_enc {a : Atr} (hg : GoodA a) (hw : Gw a) : decS (encB a) = .ok a := by
  have := back_key hg hw 8 (Nat.le_refl _) [] (fun j hj => by cases hj)
  rw [encR_all, show 9 - 8 = 1 from rfl, upTo_one] at this
  exact this
theorem attB_val (a : Atr) (k : Nat) : (attB a k).length ≤ (valB a k).length + 4 := by
  unfold attB
  split <;> simp <;> omega
theorem encB_len {a : Atr} (hg : GoodA a) : (encB a).length ≤ 50000 := by
  have hp := pathB_eq a.path
  have hc := n4s_len a.comms
  have h3 := hg.ways.2
  have h5 := hg.ways.1.2.1
  have h6 := hg.few
  have hb : ∀ k, (if bitI a.has k = true then attB a k else []).length ≤ (valB a k).length + 4 := fun k => by
    split
    · exact attB_val a k
    · simp
  have v1 : (valB a 1).length = 1 := rfl
  have v2 : (valB a 2).length = (pathB a.path).length := rfl
  have v3 : (valB a 3).length = 4 := rfl
  have v4 : (valB a 4).length = 4 := rfl
  have v5 : (valB a 5).length = 4 := rfl
  have v6 : (valB a 6).length = 0 := rfl
  have v7 : (valB a 7).length = 8 := rfl
  have v8 : (valB a 8).length = (n4s a.comms).length := rfl
  have b1 := hb 1
  have b2 := hb 2
  have b3 := hb 3
  have b4 := hb 4
  have b5 := hb 5
  have b6 := hb 6
  have b7 := hb 7
  have b8 := hb 8
  unfold encB
  simp only [encU, List.length_append, List.length_nil, Nat.zero_add, Nat.reduceAdd]
  omega
end Go.Proofs.YtaeeeinpelfppaaGreat.attr

namespace Go.Proofs.YtaeeeinpelfppaaGreat.attr
open Go.RowKit Go.Proofs.YtaeeeinpelfppaaGreat.kit Go.Proofs.YtaeeeinpelfppaaGreat.mem Go.Proofs.YtaeeeinpelfppaaGreat.foot Go.Proofs.YtaeeeinpelfppaaGreat.nums Go.Proofs.YtaeeeinpelfppaaGreat.asn Go.Proofs.YtaeeeinpelfppaaGreat.pth Go.Proofs.YtaeeeinpelfppaaGreat.octet
set_option linter.unusedVariables false
set_option linter.unusedSimpArgs false
section
variable {H : Type} {enc : TypeId × Value → H} {w : World} {base : Nat} {held : Bool}
set_option maxRecDepth 100000 in
theorem opens_sg : Opens enc Tryz.prog w base held 128 rSeg :=
  opens_struct Tryz.underlying128 (by kernel_rfl) (opensF_cons (o' := 1) rfl (by kernel_rfl) (opens_int Tryz.underlying3) (opensF_last rfl opens_ns))
set_option maxRecDepth 100000 in
theorem opens_pth : Opens enc Tryz.prog w base held 25 (rSl 2 rSeg) :=
  opens_sl keeps_seg Tryz.underlying25 (by kernel_rfl) (by omega) opens_sg
set_option maxRecDepth 100000 in
theorem opens_atr : Opens enc Tryz.prog w base held 29 rAt := fun {fuel cs x} h => by
  obtain ⟨⟨a0, a1, p, a3, a4, a5, a6, a7, cm⟩, hr⟩ := opens_struct (R := rPair (rInt .i64) (rPair (rInt .i64) (rPair (rSl 2 rSeg) (rPair (rInt .u32) (rPair (rInt .u32) (rPair (rInt .u32) (rPair (rInt .u32) (rPair (rInt .u32) rNs)))))))) Tryz.underlying29 (by kernel_rfl)
    (opensF_cons (o' := 1) rfl (by kernel_rfl) (opens_int Tryz.underlying3) (opensF_cons (o' := 2) rfl (by kernel_rfl) (opens_int Tryz.underlying3) (opensF_cons (o' := 3) rfl (by kernel_rfl) opens_pth (opensF_cons (o' := 4) rfl (by kernel_rfl) (opens_int Tryz.underlying26) (opensF_cons (o' := 5) rfl (by kernel_rfl) (opens_int Tryz.underlying26) (opensF_cons (o' := 6) rfl (by kernel_rfl) (opens_int Tryz.underlying26) (opensF_cons (o' := 7) rfl (by kernel_rfl) (opens_int Tryz.underlying26) (opensF_cons (o' := 8) rfl (by kernel_rfl) (opens_int Tryz.underlying26) (opensF_last rfl opens_ns))))))))) h
  obtain ⟨_, _, rfl, ⟨rfl, w0⟩, _, _, rfl, ⟨rfl, w1⟩, _, _, rfl, ⟨Ap, cp, rfl, n1, n2, n3, n4⟩, _, _, rfl, ⟨rfl, w3⟩, _, _, rfl, ⟨rfl, w4⟩, _, _, rfl, ⟨rfl, w5⟩, _, _, rfl, ⟨rfl, w6⟩, _, _, rfl, ⟨rfl, w7⟩, ⟨Ac, cc, rfl, m1, m2, m3, m4, m5⟩⟩ := hr
  exact ⟨⟨a0, a1, p, a3, a4, a5, a6, a7, cm⟩, Ap, cp, Ac, cc, rfl, ⟨⟨w0, w1, w3, w4, w5, w6, w7⟩, ⟨n1, n2, n3, n4⟩, ⟨m1, m2, m3, m4⟩, m5⟩⟩
end
theorem w32_all {w : World} {G : Foot} : ∀ {l : List Sg} {vs : List Value}, rAll rSeg w G vs l → ∀ s ∈ l, W32 s.2
  | [], _, _, s, hs => by cases hs
  | x :: l, _, ⟨a, t, e, h1, h2⟩, s, hs => by
    rcases List.mem_cons.1 hs with rfl | hs
    · obtain ⟨_, _, _, _, _, _, _, _, h⟩ := seg_at h1
      exact h
    · exact w32_all h2 s hs
theorem Am.gw {w : World} {G : Foot} {a : Atr} {Ap Ac : Option Addr} {cp cc : Nat} (h : Am w G a Ap cp Ac cc) : Gw a := by
  obtain ⟨vs, _, hv⟩ := h.sp.els
  exact ⟨h.wf, w32_all hv, h.w32⟩
theorem fewA_twice (a : Atr) : fewA (fewA a) = fewA a := by
  have h1 : fewP (fewP a.path) = fewP a.path := by
    simp only [fewP, ← List.map_take, List.take_take, List.map_map]
    simp [Function.comp_def, List.take_take]
  have h2 : (a.comms.take 260).take 260 = a.comms.take 260 := by simp [List.take_take]
  show ({ fewA a with path := fewP (fewP a.path), comms := (a.comms.take 260).take 260 } : Atr) = fewA a
  rw [h1, h2]
  rfl
end Go.Proofs.YtaeeeinpelfppaaGreat.attr
