/- confluencelaw37.lives is true. No condition. The walk of the law PackMany: the Go text returns true and writes nothing that was there. No condition. -/
import Derived.Test.YtbljhjfaimnieaaGreatPkHere
namespace Go.Proofs.YtbljhjfaimnieaaGreat.pck
open Go.RowKit Go.Proofs.YtbljhjfaimnieaaGreat.kit Go.Proofs.YtbljhjfaimnieaaGreat.mem Go.Proofs.YtbljhjfaimnieaaGreat.foot Go.Proofs.YtbljhjfaimnieaaGreat.nums Go.Proofs.YtbljhjfaimnieaaGreat.asn Go.Proofs.YtbljhjfaimnieaaGreat.pth Go.Proofs.YtbljhjfaimnieaaGreat.octet Go.Proofs.YtbljhjfaimnieaaGreat.attr Go.Proofs.YtbljhjfaimnieaaGreat.upd Go.Proofs.YtbljhjfaimnieaaGreat.mv Go.Proofs.YtbljhjfaimnieaaGreat.srt
set_option linter.unusedVariables false
set_option linter.unusedSimpArgs false
def a0 : Atr := ⟨14, 0, [(2, [7])], 5, 0, 0, 0, 0, []⟩
def t1 : To := ((167772160, 8), a0)
def t2 : To := ((184549376, 8), a0)
theorem good_a0 : GoodA a0 := ⟨by rfl, by decide, by decide, by decide, fun _ => by decide, ⟨⟨fun s hs => by simp [a0] at hs; rw [hs]; decide, by decide, by rfl⟩, by decide⟩⟩
theorem room_a0 : roomA a0 = 4053 := by decide +kernel
theorem fit_a0 : FitA a0 := ⟨good_a0, by decide +kernel, by rw [room_a0]; decide⟩
theorem only_l0 : onlyL [t1, t2] = [t1, t2] := by
  have h : fitB a0 = true := fitB_iff.2 fit_a0
  have h1 : fineB t1 = true := by unfold fineB; rw [Bool.and_eq_true]; exact ⟨by decide +kernel, h⟩
  have h2 : fineB t2 = true := by unfold fineB; rw [Bool.and_eq_true]; exact ⟨by decide +kernel, h⟩
  simp [onlyL, h1, h2]
theorem groups_l0 : groupsL ky [t1, t2] = [[t1, t2]] := by
  have h : hk ky [t1] = some (ky t2) := rfl
  simp [groupsL, insG, h]
theorem sort_two : IsSort gdP [t1.1, t2.1] [t1.1, t2.1] := ⟨by simp [t1, t2, plt], fun x => ⟨fun h => ⟨h, by simp at h; rcases h with rfl | rfl <;> decide +kernel⟩, fun h => h.1⟩⟩
theorem sort_one : IsSort gdP [(0, 0)] [(0, 0)] := ⟨by simp, fun x => ⟨fun h => ⟨h, by simp at h; rw [h]; decide +kernel⟩, fun h => h.1⟩⟩
theorem here_l0 : hereL [[t1, t2]] = [hereU a0 [t1.1, t2.1]] := by
  have h : hereG [t1, t2] = [hereU a0 [t1.1, t2.1]] := by
    unfold hereG
    have e : attrG [t1, t2] = a0 := rfl
    rw [e, room_a0, show [t1, t2].map (·.1) = [t1.1, t2.1] from rfl, sortP_eq sort_two, show nlri.packK ((4053 : Nat) : Int) [t1.1, t2.1] = [[t1.1, t2.1]] by decide +kernel]
    rfl
  unfold hereL
  rw [List.flatMap_cons, List.flatMap_nil, h]
  rfl
theorem rg_1 {w : World} {g : Nat} {t : TypeId} {a : Value} (h : Bk w g t #[a]) : Rg w (fun k => k = g) 1 (some ⟨g, 0, none⟩) 1 [a] :=
  ⟨rfl, fun _ => ⟨g, 0, rfl, rfl, h.lt, fun j u hu => by rw [h.cell, Nat.zero_add]; simpa using hu⟩⟩
theorem rg_2 {w : World} {g : Nat} {t : TypeId} {a b : Value} (h : Bk w g t #[a, b]) : Rg w (fun k => k = g) 2 (some ⟨g, 0, none⟩) 1 [a, b] :=
  ⟨rfl, fun _ => ⟨g, 0, rfl, rfl, h.lt, fun j u hu => by rw [h.cell, Nat.zero_add]; simpa using hu⟩⟩
set_option maxRecDepth 100000 in
set_option maxHeartbeats 4000000 in
theorem lives_any (w : World) : Calls Tryz.prog 15 #[] w fun e w' => e = .returned (.bool true) ∧ Below w.heap.size w w' := by
  obtain ⟨i0, hi, hz0, hz1, hz2⟩ := info_parts info_to
  have Hi := Lib.hid hi
  have Hz0 := Lib.hid hz0
  have Hz1 := Lib.hid hz1
  have Hz2 := Lib.hid hz2
  have HSz : Hid ((Tryz.prog.info? 26).map (·.size) = some 9) := info_atr
  obtain ⟨wa, hwa⟩ : ∃ v, v = w.alloc (.cells #[.int .u32 7] 23) := ⟨_, rfl⟩
  obtain ⟨wb, hwb⟩ : ∃ v, v = wa.alloc (.cells #[.int .i64 2, .slice (some ⟨w.heap.size, 0, none⟩) 1 1] 67) := ⟨_, rfl⟩
  obtain ⟨w1, hw1⟩ : ∃ v, v = wb.alloc (.cells #[.int .i64 14, .int .i64 0, .slice (some ⟨w.heap.size + 1, 0, none⟩) 1 1, .int .u32 5, .int .u32 0, .int .u32 0, .int .u32 0, .int .u32 0, .slice none 0 0] 26) := ⟨_, rfl⟩
  have ea : wa.heap.size = w.heap.size + 1 := by rw [hwa]; simp
  have eb : wb.heap.size = w.heap.size + 2 := by rw [hwb]; simp [ea]
  have b1 : Below w.heap.size w wa := by rw [hwa]; exact (Below.refl _ _).alloc (Nat.le_refl _) _
  have b2 : Below wa.heap.size wa wb := by rw [hwb]; exact (Below.refl _ _).alloc (Nat.le_refl _) _
  have b3 : Below wb.heap.size wb w1 := by rw [hw1]; exact (Below.refl _ _).alloc (Nat.le_refl _) _
  have k1 : Bk wa w.heap.size 23 #[.int .u32 7] := by rw [hwa]; exact Bk.new w _ _
  have k2 : Bk wb (w.heap.size + 1) 67 #[.int .i64 2, .slice (some ⟨w.heap.size, 0, none⟩) 1 1] := by rw [hwb, ← ea]; exact Bk.new wa _ _
  have k3 : Bk w1 (w.heap.size + 2) 26 (atc a0 (some ⟨w.heap.size + 1, 0, none⟩) 1 none 0).toArray := by rw [hw1, ← eb]; exact Bk.new wb _ _
  have HB1 : Hid (Below w.heap.size w w1) := (b1.trans (b2.mono b1.size)).trans (b3.mono (by omega))
  have HA1 : Hid (Am w1 (fun _ => True) a0 (some ⟨w.heap.size + 1, 0, none⟩) 1 none 0) := by
    refine ⟨⟨by decide, by decide, by decide, by decide, by decide, by decide, by decide⟩, ⟨(fun e => by cases e), Nat.le_refl _, by decide, ?_⟩, Sn.empty _ _, fun n hn => by cases hn⟩
    have r2 : Rg w1 (fun _ => True) 2 (some ⟨w.heap.size + 1, 0, none⟩) 1 [.int .i64 2, .slice (some ⟨w.heap.size, 0, none⟩) 1 1] := ((rg_2 k2).bel b3).mono fun _ _ _ => trivial
    have r1 : Rg w1 (fun _ => True) 1 (some ⟨w.heap.size, 0, none⟩) 1 [.int .u32 7] := (((rg_1 k1).bel b2).bel b3).mono fun _ _ _ => trivial
    exact ⟨_, r2, rAll.single (seg_of (l := [7]) (c := 1) (by decide) ⟨_, 1, rfl, (fun e => by cases e), Nat.le_refl _, by decide, r1, fun n hn => by simp at hn; omega⟩)⟩
  have HK1 := Lib.hid k3
  clear b1 b2 b3 k1 k2 k3 ea eb hi hz0 hz1 hz2
  rw [hwb, hwa] at hw1
  clear hwa hwb
  have HC0 : Hid ((atc a0 (some ⟨w.heap.size + 1, 0, none⟩) 1 none 0).length = 9) := rfl
  have HFt := Lib.hid (fun w' (h : Below w1.heap.size w1 w') => Fits_any a0 (some ⟨w.heap.size + 1, 0, none⟩) none 1 0 _ w' true (by simp [fit_a0]) (HA1.out.bel h) (by decide) (by decide))
  obtain ⟨g1, hg1⟩ : ∃ g, g = w.heap.size + 1 := ⟨_, rfl⟩
  obtain ⟨g2, hg2⟩ : ∃ g, g = w.heap.size + 2 := ⟨_, rfl⟩
  go_enter Tryz.func15, Tryz.ntmps15
  go_upto_region 2 with fail
  have hw2 : w1 = ((w.alloc (.cells #[.int .u32 7] 23)).alloc (.cells #[.int .i64 2, .slice (some ⟨w.heap.size, 0, none⟩) 1 1] 67)).alloc (.cells #[.int .i64 14, .int .i64 0, .slice (some ⟨w.heap.size + 1, 0, none⟩) 1 1, .int .u32 5, .int .u32 0, .int .u32 0, .int .u32 0, .int .u32 0, .slice none 0 0] 26) := hw1
  rw [← hw2]
  clear hw1 hw2
  have e2 : w.heap.size + 1 + 1 = g2 := by omega
  try rw [e2]
  rw [← hg1, ← hg2] at HK1
  rw [← hg1] at HA1 HC0 HFt
  try rw [← hg1]
  try rw [← hg2]
  clear e2 hg1 hg2
  generalize hcs : atc a0 (some ⟨g1, 0, none⟩) 1 none 0 = cs at *
  have HCs := Lib.hid hcs
  clear hcs
  have HX1 := Lib.hid (Below.refl w1.heap.size w1)
  have HHe : Hid (∀ w', Below w1.heap.size w1 w' → ∀ A, Rg w' (fun _ => True) 11 A 2 (toc t1 (some ⟨g1, 0, none⟩) 1 none 0 ++ toc t2 (some ⟨g1, 0, none⟩) 1 none 0) → Calls Tryz.prog 18 #[.slice A 2 2] w' (RetL 11 rUm 49 [hereU a0 [t1.1, t2.1]] w')) := fun w' hb A hr => by
    have ha := HA1.out.bel hb
    have h := Here_any A 2 [t1, t2] (fun _ => True) w' (by decide) ⟨_, hr, rAll.app (rAll.single ⟨_, _, _, _, rfl, ha, by decide⟩) (rAll.single ⟨_, _, _, _, rfl, ha, by decide⟩)⟩ (fun x hx => by simp at hx; rcases hx with rfl | rfl <;> exact ⟨by decide, by decide⟩)
    rw [only_l0, groups_l0, here_l0] at h
    exact h
  have HGo : Hid (∀ w' A, Rg w' (fun _ => True) 2 A 1 [.int .u32 0, .int .i64 0] → (A = none → False) → Calls Tryz.prog 17 #[.slice A 1 1] w' fun e w2 => ∃ B c, e = .returned (.slice B 1 c) ∧ Below w'.heap.size w' w2) := fun w' A hr hA => by
    refine (Gone_any A 1 1 [(0, 0)] w' (by decide) (fun e => absurd e (by intro e; exact hA e)) rfl (fun x hx => by simp at hx; rw [hx]; decide) hr).mono ?_
    rintro e w2 ⟨s, hs, B, c, vs, rfl, hL⟩
    rw [hs.eq sort_one]
    exact ⟨B, c, rfl, hL.acc.bel⟩
  clear HA1
  go_upto_region 3 with (first
    | (refine wpList_loadBk rfl 26 (.tmp 1) rfl g2 (by rfl) 26 cs.toArray _ HK1.out Tryz.underlying26 (by rfl) (by rw [List.size_toArray, HC0.out]; exact HSz.out) ?_)
    | (refine wpList_build rfl 61 #[(0, .tmp 7), (1, .tmp 8)] rfl (.agg (toc t1 (some ⟨g1, 0, none⟩) 1 none 0).toArray) (by rw [← HCs.out]; kernel_rfl) ?_)
    | (refine wpList_build rfl 61 #[(0, .tmp 10), (1, .tmp 11)] rfl (.agg (toc t2 (some ⟨g1, 0, none⟩) 1 none 0).toArray) (by rw [← HCs.out]; kernel_rfl) ?_)
    | (refine wpList_lit rfl 27 61 2 _ rfl i0 _ 11 Tryz.underlying27 Hi.out Hz0.out Hz1.out (by omega) [.agg (toc t1 (some ⟨g1, 0, none⟩) 1 none 0).toArray, .agg (toc t2 (some ⟨g1, 0, none⟩) 1 none 0).toArray] rfl (by omega) (by omega) (by rfl) (by intro v hv; simp at hv; rcases hv with rfl | rfl <;> rfl) (toc t1 (some ⟨g1, 0, none⟩) 1 none 0 ++ toc t2 (some ⟨g1, 0, none⟩) 1 none 0) (by rfl) ?_; have HA2 : Hid (Below w1.heap.size w1 (w1.alloc (.cells (toc t1 (some ⟨g1, 0, none⟩) 1 none 0 ++ toc t2 (some ⟨g1, 0, none⟩) 1 none 0).toArray 61))) := (Below.refl _ _).alloc (Nat.le_refl _) _; have HHx := Lib.hid (HHe.out _ HA2.out (some ⟨w1.heap.size, 0, none⟩) ((Rg.new w1 61 11 2 (toc t1 (some ⟨g1, 0, none⟩) 1 none 0 ++ toc t2 (some ⟨g1, 0, none⟩) 1 none 0).toArray rfl).mono fun _ _ _ => trivial)))
    | (go_at_call 18; refine HHx.out.mono ?_; rintro e w3 ⟨A3, c3, v3, rfl, hL⟩; have HX3 := Lib.hid (HA2.out.trans (hL.acc.bel.mono HA2.out.size)); have HL3 := Lib.hid hL; clear hL))
  obtain ⟨b, off, ds, rfl, _, hbl, hr, hc⟩ := (HL3.out.els keeps_um).at_ keeps_um (k := 0) (by decide)
  obtain ⟨B1, d1, Bp, bp, Bc, bc, B2, d2, rfl, _⟩ := hr
  have z10 := hc 10 _ rfl
  simp only [Nat.zero_mul, Nat.add_zero] at z10
  have z11 : w3.cell? ⟨b, off + 10, none⟩ = some (.slice B2 2 d2) := z10
  have HK3 := Lib.hid (HK1.out.below HX3.out HK1.out.lt)
  clear hc z10 HL3 HHe HHx HA2
  go_wp2_with (first
    | (refine loadG (by rfl) 26 (.tmp 1) rfl g2 (by rfl) 26 cs.toArray _ HK3.out Tryz.underlying26 (by rfl) (by rw [List.size_toArray, HC0.out]; exact HSz.out) ?_)
    | (go_at_call 10; refine (HFt.out w3 HX3.out).mono ?_; rintro e w4 ⟨rfl, h⟩; have HX4 := Lib.hid (HX3.out.trans (h.mono HX3.out.size)); have HB5 : Hid (Below w4.heap.size w4 (w4.alloc (.cells #[.int .u32 0, .int .i64 0] 56))) := (Below.refl _ _).alloc (Nat.le_refl _) _; have HGx := Lib.hid (HGo.out (w4.alloc (.cells #[.int .u32 0, .int .i64 0] 56)) (some ⟨w4.heap.size, 0, none⟩) ((rg_2 (Bk.new w4 _ _)).mono fun _ _ _ => trivial) (by intro e; cases e)); clear h)
    | (go_at_call 17; refine HGx.out.mono ?_; rintro e w6 ⟨B6, c6, rfl, h⟩; have HX6 := Lib.hid (HX4.out.trans ((HB5.out.trans (h.mono HB5.out.size)).mono HX4.out.size)); clear h))
  go_ret
  exact ⟨rfl, HB1.out.trans (HX6.out.mono HB1.out.size)⟩
end Go.Proofs.YtbljhjfaimnieaaGreat.pck

namespace Go.Proofs.YtbljhjfaimnieaaGreat.packMany
open Go.RowKit Go.Proofs.YtbljhjfaimnieaaGreat.kit Go.Proofs.YtbljhjfaimnieaaGreat.mem Go.Proofs.YtbljhjfaimnieaaGreat.foot Go.Proofs.YtbljhjfaimnieaaGreat.nums Go.Proofs.YtbljhjfaimnieaaGreat.octet Go.Proofs.YtbljhjfaimnieaaGreat.upd Go.Proofs.YtbljhjfaimnieaaGreat.srt Go.Proofs.YtbljhjfaimnieaaGreat.pck
set_option linter.unusedVariables false
set_option linter.unusedSimpArgs false
/-- the prefixes of the law: i-th of them -/
def nth (len i : Nat) : Pf := ((i % 256) * 16777216, (len : Int))
def row (len k : Nat) : List Pf := (List.range k).map (nth len)
theorem row_len (len k : Nat) : (row len k).length = k := by simp [row]
theorem row_succ (len k : Nat) : row len (k + 1) = row len k ++ [nth len k] := by simp [row, List.range_succ]
theorem row_lt (len k : Nat) : ∀ x ∈ row len k, x.1 < 4294967296 := fun x hx => by
  obtain ⟨i, _, rfl⟩ := List.mem_map.1 hx
  unfold nth
  have := Nat.mod_lt i (show 0 < 256 by omega)
  show i % 256 * 16777216 < _
  omega
theorem row_gd {len : Nat} (h8 : 8 ≤ len) (h32 : len ≤ 32) (i : Nat) : gdP (nth len i) = true := by
  unfold gdP nth
  rw [Bool.and_eq_true, decide_eq_true_iff, pfx.goodB_iff]
  have h1 := Nat.mod_lt i (show 0 < 256 by omega)
  refine ⟨by show i % 256 * 16777216 < _; omega, by show (0 : Int) ≤ _; omega, by show _ ≤ (32 : Int); omega, ?_⟩
  rw [show ((len : Int)).toNat = len by omega]
  have e : i % 256 * 16777216 = 2 ^ (32 - len) * (i % 256 * 2 ^ (len - 8)) := by
    have : (16777216 : Nat) = 2 ^ (32 - len) * 2 ^ (len - 8) := by rw [← Nat.pow_add, show 32 - len + (len - 8) = 24 by omega]
    rw [this, Nat.mul_left_comm]
  show i % 256 * 16777216 % 2 ^ (32 - len) = 0
  rw [e, Nat.mul_mod_right]
theorem row_sort {len : Nat} (h8 : 8 ≤ len) (h32 : len ≤ 32) (k : Nat) : IsSort gdP (row len k) (row len (min k 256)) := by
  refine ⟨?_, fun x => ⟨fun hx => ?_, fun hx => ?_⟩⟩
  · unfold row
    rw [List.pairwise_map]
    refine List.pairwise_lt_range.imp_of_mem fun {a b} ha hb hab => ?_
    rw [List.mem_range] at ha hb
    left
    show a % 256 * 16777216 < b % 256 * 16777216
    rw [Nat.mod_eq_of_lt (by omega), Nat.mod_eq_of_lt (by omega)]
    omega
  · obtain ⟨i, hi, rfl⟩ := List.mem_map.1 hx
    rw [List.mem_range] at hi
    exact ⟨List.mem_map.2 ⟨i, List.mem_range.2 (by omega), rfl⟩, row_gd h8 h32 i⟩
  · obtain ⟨i, hi, rfl⟩ := List.mem_map.1 hx.1
    rw [List.mem_range] at hi
    refine List.mem_map.2 ⟨i % 256, List.mem_range.2 ?_, by unfold nth; rw [Nat.mod_mod]⟩
    have := Nat.mod_lt i (show 0 < 256 by omega)
    have := Nat.mod_le i 256
    omega
theorem row_size {len : Nat} (h8 : 8 ≤ len) (h32 : len ≤ 32) (k : Nat) : ∀ p ∈ row len k, nlri.sizeP p = 1 + (len + 7) / 8 := fun p hp => by
  obtain ⟨i, _, rfl⟩ := List.mem_map.1 hp
  have hg := row_gd h8 h32 i
  unfold gdP at hg
  rw [Bool.and_eq_true] at hg
  unfold nlri.sizeP
  rw [if_pos hg.2]
  rfl
/-- how many Updates there are -/
theorem parts_len {len : Nat} (h8 : 8 ≤ len) (h32 : len ≤ 32) (k : Nat) : (nlri.packK 4073 (row len (min k 256))).length = (min k 256 + 4073 / (1 + (len + 7) / 8) - 1) / (4073 / (1 + (len + 7) / 8)) := by
  have h := pck.packK_len (e := 1 + (len + 7) / 8) (room := 4073) (by omega) (by omega) _ (row len (min k 256)) (Nat.le_refl _) (row_size h8 h32 _)
  rw [row_len] at h
  exact h
theorem count_eq {p m N : Nat} (hp : 1 ≤ p) (hN : N = (m + p - 1) / p) : ((N : Int) == ((m : Int) + (p : Int) - 1) / (p : Int)) = true := by
  rw [beq_iff_eq, hN]
  have e : (m : Int) + (p : Int) - 1 = ((m + p - 1 : Nat) : Int) := by omega
  rw [e]
  rfl
set_option maxRecDepth 100000 in
set_option maxHeartbeats 4000000 in
theorem core (n z : Int) (hn : 0 ≤ n ∧ n < 65536) (hz : 0 ≤ z ∧ z < 256) (W : World) :
    Calls Tryz.prog 5 #[.int .u16 n, .int .u8 z] W fun e w' => e = .returned (.bool true) ∧ Below W.heap.size W w' := by
  obtain ⟨j0, hj, hy0, hy1, hy2⟩ := info_parts srt.info_pf
  have Hj := Lib.hid hj
  have Hy0 := Lib.hid hy0
  have Hy1 := Lib.hid hy1
  have Hy2 := Lib.hid hy2
  have HLi := Lib.hid pck.lives_any
  obtain ⟨k, hk⟩ : ∃ k : Nat, n % 3000 = (k : Int) := ⟨(n % 3000).toNat, by omega⟩
  obtain ⟨len, hlen⟩ : ∃ l : Nat, 8 + z % 25 = (l : Int) := ⟨(8 + z % 25).toNat, by omega⟩
  have hk3 : k ≤ 2999 := by omega
  have h8 : 8 ≤ len := by omega
  have h32 : len ≤ 32 := by omega
  obtain ⟨N, hN⟩ : ∃ N, N = (min k 256 + 4073 / (1 + (len + 7) / 8) - 1) / (4073 / (1 + (len + 7) / 8)) := ⟨_, rfl⟩
  have HNn := Lib.hid hN
  have HGo : Hid (∀ (A : Option Addr) (c : Nat) (w' : World), foot.Own w' 56 2 A k c (fv (row len k)) → Calls Tryz.prog 17 #[.slice A k c] w' fun e w2 => ∃ B d, e = .returned (.slice B N d) ∧ Below w'.heap.size w' w2) := fun A c w' ho => by
    refine (Gone_any A k c (row len k) w' (by omega) ho.nil (row_len len k) (row_lt len k) ho.rg).mono ?_
    rintro e w2 ⟨s, hs, B, d, vs, rfl, hL⟩
    rw [hs.eq (row_sort h8 h32 k)] at hL ⊢
    rw [List.length_map, parts_len h8 h32, ← hN] at hL ⊢
    exact ⟨B, d, rfl, hL.acc.bel⟩
  have HA0 : Hid (Acc W 56 2 (W.alloc (.cells #[] 56)) (some ⟨W.heap.size, 0, none⟩) 0 0 (fv (row len 0))) := Acc.start ((Below.refl _ _).alloc (Nat.le_refl _) _) (Bk.new W _ _) (Nat.le_refl _)
  clear hj hy0 hy1 hy2 hN
  go_enter Tryz.func5, Tryz.ntmps5
  go_wp2_with fail
  have HKn := Lib.hid hk
  have HLn := Lib.hid hlen
  clear hk hlen hn hz
  go_loopw [6, 8] (fun v6 v8 wr => ∃ (i c : Nat) (A : Option Addr), i ≤ k ∧ v8 = .int .i64 i ∧ v6 = .slice A i c ∧ Acc W 56 2 wr A i c (fv (row len i))) (fun _ v8 _ => k - (intOf v8).toNat)
  case atStart => exact ⟨0, 0, _, Nat.zero_le _, rfl, rfl, HA0.out⟩
  case round =>
    obtain ⟨i, c, A, hi, rfl, rfl, ha⟩ := hrel
    have HA := Lib.hid ha
    clear ha
    by_cases hlt : i < k
    · have hii : (i : Int) < (k : Int) := by omega
      have HNt : Hid (fv (row len (i + 1)) = fv (row len i) ++ [.int .u32 ((i : Int) % 256 * 16777216), .int .i64 (len : Int)]) := by rw [Hid, row_succ]; simp [fv, nth]
      have HB4 : Hid (Below wr.heap.size wr (wr.alloc (.cells #[.int .u32 ((i : Int) % 256 * 16777216), .int .i64 (len : Int)] 56))) := (Below.refl _ _).alloc (Nat.le_refl _) _
      have HA4 := Lib.hid (HA.out.go HB4.out)
      have HN4 : Hid (Rg (wr.alloc (.cells #[.int .u32 ((i : Int) % 256 * 16777216), .int .i64 (len : Int)] 56)) (fun k => k = wr.heap.size) 2 (some ⟨wr.heap.size, 0, none⟩) 1 [.int .u32 ((i : Int) % 256 * 16777216), .int .i64 (len : Int)]) := pck.rg_2 (Bk.new wr _ _)
      go_wp2_with (at_builtin; refine wpList_app _ rfl (.tmp 26) (.tmp 33) _ rfl 56 j0 _ 2 16 Tryz.underlying38 Hj.out Hy0.out Hy1.out Hy2.out rfl (by omega) A i c _ rfl HA4.out.own _ (some ⟨wr.heap.size, 0, none⟩) 1 1 (by intro h; cases h) [.int .u32 ((i : Int) % 256 * 16777216), .int .i64 (len : Int)] rfl HN4.out (by intro u hu; simp at hu; rcases hu with rfl | rfl <;> rfl) (by unfold maxLen; omega) (by omega) ?_; intro A8 c8 w8 ho hc hf; have HA8 := Lib.hid (HA4.out.app ho hc hf); clear ho hc hf)
      go_roundw
      case rel => exact ⟨i + 1, c8, A8, by omega, by go_num, rfl, by rw [HNt.out]; exact HA8.out⟩
      case measure => simp [intOf]; omega
    · obtain rfl : i = k := by omega
      have HGx := Lib.hid (HGo.out A c wr HA.out.own)
      have e1 : ¬ (1 + ((len : Int) + 7) / 8 = 0) := by omega
      obtain ⟨p, hp⟩ : ∃ p, p = 4073 / (1 + (len + 7) / 8) := ⟨_, rfl⟩
      have hp1 : 1 ≤ p := by rw [hp]; exact (Nat.one_le_div_iff (by omega)).2 (by omega)
      have hp2 : p ≤ 4073 := by rw [hp]; exact Nat.div_le_self _ _
      have hpI : (4073 : Int) / (1 + ((len : Int) + 7) / 8) = (p : Int) := by rw [hp]; rfl
      have HCt := Lib.hid (fun m (hm : m = min i 256) => count_eq (m := m) (N := N) hp1 (by rw [hm, hp]; exact HNn.out))
      have e2 : ¬ ((p : Int) = 0) := by omega
      rw [← hp] at HNn
      clear hp
      rcases (show i = 0 ∨ (1 ≤ i ∧ i ≤ 256) ∨ 256 < i by omega) with h0 | ⟨h1, h2⟩ | h3
      · have d0 : ((i : Int) == 0) = true := by rw [beq_iff_eq]; omega
        have d1 : decide ((256 : Int) < (i : Int)) = false := by rw [decide_eq_false_iff_not]; omega
        have hN0 : N = 0 := by
          have h := HNn.out
          subst h0
          rw [Nat.zero_min, Nat.zero_add, Nat.div_eq_of_lt (by omega : p - 1 < p)] at h
          exact h
        have d2 : ((N : Int) == 0) = true := by rw [beq_iff_eq, hN0]; rfl
        clear hN0 h0
        go_wp2_with (first
          | (go_at_call 17; refine HGx.out.mono ?_; rintro e w2 ⟨B, d, rfl, hb⟩; have HB2 := Lib.hid (HA.out.bel.trans (hb.mono HA.out.bel.size)); clear hb)
          | (go_at_call 15; refine (HLi.out _).mono ?_; rintro e w3 ⟨rfl, hb⟩; have HB3 := Lib.hid (HB2.out.trans (hb.mono HB2.out.size)); clear hb))
        go_ret
        exact ⟨rfl, HB3.out⟩
      · have d0 : ((i : Int) == 0) = false := by rw [beq_eq_false_iff_ne]; omega
        have d1 : decide ((256 : Int) < (i : Int)) = false := by rw [decide_eq_false_iff_not]; omega
        have d2 := HCt.out i (by omega)
        clear h1 h2
        go_wp2_with (first
          | (go_at_call 17; refine HGx.out.mono ?_; rintro e w2 ⟨B, d, rfl, hb⟩; have HB2 := Lib.hid (HA.out.bel.trans (hb.mono HA.out.bel.size)); clear hb)
          | (go_at_call 15; refine (HLi.out _).mono ?_; rintro e w3 ⟨rfl, hb⟩; have HB3 := Lib.hid (HB2.out.trans (hb.mono HB2.out.size)); clear hb))
        go_ret
        exact ⟨rfl, HB3.out⟩
      · have d1 : decide ((256 : Int) < (i : Int)) = true := by rw [decide_eq_true_iff]; omega
        have d2 : ((N : Int) == (256 + (p : Int) - 1) / (p : Int)) = true := HCt.out 256 (by omega)
        clear h3
        go_wp2_with (first
          | (go_at_call 17; refine HGx.out.mono ?_; rintro e w2 ⟨B, d, rfl, hb⟩; have HB2 := Lib.hid (HA.out.bel.trans (hb.mono HA.out.bel.size)); clear hb)
          | (go_at_call 15; refine (HLi.out _).mono ?_; rintro e w3 ⟨rfl, hb⟩; have HB3 := Lib.hid (HB2.out.trans (hb.mono HB2.out.size)); clear hb))
        go_ret
        exact ⟨rfl, HB3.out⟩
theorem walk (a0 : Int) (w0 : (Lit.int .u16 a0).wf = true) (a1 : Int) (w1 : (Lit.int .u8 a1).wf = true) (W : World) :
    Calls Tryz.prog 5 #[.int .u16 a0, .int .u8 a1] W fun e w' => e = .returned (.bool true) ∧ Below W.heap.size W w' := by
  have h0 : 0 ≤ a0 ∧ a0 < 65536 := by have := wf_u16 w0; omega
  have h1 : 0 ≤ a1 ∧ a1 < 256 := by have := wf_u8 w1; omega
  exact core a0 a1 h0 h1 W
end Go.Proofs.YtbljhjfaimnieaaGreat.packMany
