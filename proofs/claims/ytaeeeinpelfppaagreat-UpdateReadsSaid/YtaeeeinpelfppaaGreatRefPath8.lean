/- What confluenceref08.Path and numbers return. Condition: at most 10^5 bytes. -/
import Derived.Test.YtaeeeinpelfppaaGreatAttrNext
import Derived.Test.YtaeeeinpelfppaaGreatOctRef
import Derived.Deep.RegionHeld3
namespace Go.Proofs.YtaeeeinpelfppaaGreat.attr
open Go.RowKit Go.Proofs.YtaeeeinpelfppaaGreat.kit Go.Proofs.YtaeeeinpelfppaaGreat.mem Go.Proofs.YtaeeeinpelfppaaGreat.foot Go.Proofs.YtaeeeinpelfppaaGreat.nums Go.Proofs.YtaeeeinpelfppaaGreat.asn Go.Proofs.YtaeeeinpelfppaaGreat.pth Go.Proofs.YtaeeeinpelfppaaGreat.octet
set_option linter.unusedVariables false
set_option linter.unusedSimpArgs false
theorem run_cut8 (g off n c lo hi : Nat) (x y : Int) (hx : x = (lo : Int)) (hy : y = (hi : Int)) (h1 : lo ≤ hi) (h2 : hi ≤ n) (h3 : lo < c) (hc : n ≤ c) (hm : c ≤ maxLen) (w : World) :
    (Instr.slice 22 (.slice (some ⟨g, off, none⟩) n c) (some (.int .i64 x)) (some (.int .i64 y)) none).run Tryz.prog w = .ok (.slice (some ⟨g, off + lo, none⟩) (hi - lo) (c - lo)) w := by
  unfold maxLen at hm
  subst hx hy
  have a1 : (lo : Int) ≤ (hi : Int) := by omega
  have a2 : (hi : Int) ≤ (c : Int) := by omega
  have a3 : ¬ c = lo := by omega
  have a4 : c - lo ≠ 0 := by omega
  go_simp
  try (intro h; omega)
theorem bs_mid {w : World} {G : Foot} {b off lo n c : Nat} {l : List UInt8} (h : Bn w G (some ⟨b, off, none⟩) c l) (hn : lo + n ≤ l.length) : Bs w w.heap.size (some ⟨b, off + lo, none⟩) ((l.drop lo).take n) := by
  refine ⟨by simp [bv], fun hp => ?_⟩
  obtain ⟨b', off', e, hb, hl, hc⟩ := h.rg.2 (by simp at hp; omega)
  cases e
  refine ⟨b, off + lo, rfl, hl, fun j u hu => ?_⟩
  have hj : j < ((l.drop lo).take n).length := by
    rcases Nat.lt_or_ge j ((l.drop lo).take n).length with h | h
    · exact h
    · rw [List.getElem?_eq_none (by simpa [bv] using h)] at hu; cases hu
  rw [Nat.add_assoc]
  refine hc (lo + j) u ?_
  rw [← hu]
  unfold bv
  rw [List.getElem?_map, List.getElem?_map, List.getElem?_take_of_lt (by simp at hj; omega), List.getElem?_drop]
/-- within a piece: so many numbers are read -/
structure PR (w : World) (sb : Nat) (kd : Int) (xs : List Nat) (Aa : Option Addr) (ca : Nat) (Ao : Option Addr) (co : Nat) (vs : List Value) (out : List Sg) (wr : World) : Prop where
  bx : Bk wr sb 128 #[.int .i64 kd, .slice Aa xs.length ca]
  as_ : Acc w 26 1 wr Aa xs.length ca (uv xs)
  lo : ∀ k, sf Aa k → sb < k
  ls : Lst 2 rSeg 128 (fun k => w.heap.size ≤ k ∧ k < sb) w wr Ao out.length co vs out
  hi : ∀ k, sf Ao k → k < sb
  ws : w.heap.size ≤ sb
section
variable {w wr w3 w4 : World} {sb x c' ca co : Nat} {kd : Int} {xs : List Nat} {Aa Ao A' : Option Addr} {vs : List Value} {out : List Sg}
theorem PR.start (h : Lst 2 rSeg 128 (fun k => w.heap.size ≤ k) w wr Ao out.length co vs out) (kd : Int) : PR w wr.heap.size kd [] none 0 Ao co vs out (wr.alloc (.cells #[.int .i64 kd, .slice none 0 0] 128)) := by
  have hb : Below wr.heap.size wr (wr.alloc (.cells #[.int .i64 kd, .slice none 0 0] 128)) := (Below.refl _ _).alloc (Nat.le_refl _) _
  exact ⟨Bk.new wr _ _, ⟨foot.Own.none_ _ _ _, h.acc.bel.trans (hb.mono h.acc.bel.size), fun k e => absurd e (sf_none k)⟩, fun k e => absurd e (sf_none k), (h.wide keeps_seg fun k hk hB => ⟨hB, hk⟩).go keeps_seg hb, fun k hk => h.acc.own.lt k hk, h.acc.bel.size⟩
theorem PR.go (h : PR w sb kd xs Aa ca Ao co vs out wr) (hb : Below wr.heap.size wr w3) : PR w sb kd xs Aa ca Ao co vs out w3 :=
  ⟨h.bx.below hb h.bx.lt, h.as_.go hb, h.lo, h.ls.go keeps_seg hb, h.hi, h.ws⟩
theorem PR.put (h : PR w sb kd xs Aa ca Ao co vs out wr) (ho : foot.Own w4 26 1 A' (xs.length + 1) c' (uv xs ++ [.int .u32 (x : Int)])) (hc : Chg (sf Aa) (wr.alloc (.cells #[.int .u32 (x : Int)] 26)) w4) (hf : Fresh (wr.alloc (.cells #[.int .u32 (x : Int)] 26)) (sf Aa) (sf A')) :
    Bk w4 sb 128 #[.int .i64 kd, .slice Aa xs.length ca] ∧ PR w sb kd (xs ++ [x]) A' c' Ao co vs out (w4.setCell ⟨sb, 1, none⟩ (.slice A' (xs.length + 1) c')) := by
  have hb : Below wr.heap.size wr (wr.alloc (.cells #[.int .u32 (x : Int)] 26)) := (Below.refl _ _).alloc (Nat.le_refl _) _
  have hsb := h.bx.lt
  have hws := h.ws
  have hAsb : ¬ sf Aa sb := fun e => by have := h.lo _ e; omega
  have hbx4 : Bk w4 sb 128 #[.int .i64 kd, .slice Aa xs.length ca] := (h.bx.below hb hsb).chg hc hAsb
  have hlo' : ∀ k, sf A' k → sb < k := fun k hk => by
    rcases hf k hk with e | e
    · exact h.lo k e
    · have := hb.size; omega
  have hst : Chg (fun k => k = sb) w4 (w4.setCell ⟨sb, 1, none⟩ (.slice A' (xs.length + 1) c')) := (Chg.refl (fun k => k = sb) w4).put (p := ⟨sb, 1, none⟩) (.inl rfl) _
  have hac : Acc w 26 1 w4 A' (xs.length + 1) c' (uv xs ++ [.int .u32 (x : Int)]) := (h.as_.go hb).app ho hc hf
  have hlow : ∀ k, sf Aa k → w.heap.size ≤ k := h.as_.low
  have hls4 : Lst 2 rSeg 128 (fun k => w.heap.size ≤ k ∧ k < sb) w w4 Ao out.length co vs out := Lst.turn keeps_seg (h.ls.go keeps_seg hb) hc hlow (fun k hk e => by have := h.hi k hk; have := h.lo k e; omega) (fun k hk e => by have := hk.2; have := h.lo k e; omega)
  refine ⟨hbx4, ?_, ?_, hlo', ?_, h.hi, hws⟩
  · rw [List.length_append]
    have := hbx4.put 1 (.slice A' (xs.length + 1) c')
    simpa using this
  · rw [List.length_append, uv_app]
    exact Acc.turn hac hst (fun k e => by omega) (fun k hk e => by have := hlo' k hk; omega)
  · exact Lst.turn keeps_seg hls4 hst (fun k e => by omega) (fun k hk e => by have := h.hi k hk; omega) (fun k hk e => by have := hk.2; omega)
end
theorem bn_cell {w : World} {G : Foot} {b off c i : Nat} {l : List UInt8} {x : UInt8} (h : Bn w G (some ⟨b, off, none⟩) c l) (hx : l[i]? = some x) : w.cell? ⟨b, off + i, none⟩ = some (.int .u8 (x.toNat : Int)) ∧ b < w.heap.size := by
  obtain ⟨hi, hx⟩ := List.getElem?_eq_some_iff.1 hx
  obtain ⟨b', off', e, _, hl, hc⟩ := h.rg.2 (by omega)
  cases e
  refine ⟨?_, hl⟩
  rw [hc i _ (bv_at l i hi), hx]
theorem bn_some {w : World} {G : Foot} {A : Option Addr} {c : Nat} {l : List UInt8} (h : Bn w G A c l) (hl : 0 < l.length) : ∃ b off, A = some ⟨b, off, none⟩ := by
  obtain ⟨b', off', e, _⟩ := h.rg.2 hl
  exact ⟨b', off', e⟩
set_option maxRecDepth 100000 in
set_option maxHeartbeats 8000000 in
theorem refPath_any (A : Option Addr) (c : Nat) (G : Foot) (l : List UInt8) (w : World) (hl : l.length ≤ 100000) (hs : Bn w G A c l) :
    Calls Tryz.prog 101 #[.slice A l.length c] w (RetPcs (pcs l) w) := by
  obtain ⟨i0, hi, hz0, hz1, hz2⟩ := info_parts info_seg
  obtain ⟨j0, hj, hy0, hy1, hy2⟩ := info_parts info_u32
  have Hi := Lib.hid hi
  have Hz0 := Lib.hid hz0
  have Hz1 := Lib.hid hz1
  have Hz2 := Lib.hid hz2
  have Hj := Lib.hid hj
  have Hy0 := Lib.hid hy0
  have Hy1 := Lib.hid hy1
  have Hy2 := Lib.hid hy2
  have HS := Lib.hid hs
  have HNum := Lib.hid (fun (A : Option Addr) (c B : Nat) (l : List UInt8) (w : World) (h1 : l.length ≤ 4) (h2 : Bs w B A l) => Num_any A c B l w h1 h2)
  obtain ⟨Q, hQ⟩ : ∃ Q, Q = RetPcs (pcs l) w := ⟨_, rfl⟩
  have HQ1 : Hid (∀ (ps : List Sg) (A' : Option Addr) (c' : Nat) (w' : World), pcs l = some ps → Sp w' (fun k => w.heap.size ≤ k) A' c' ps → Below w.heap.size w w' → Q (.returned (.tuple #[.slice A' ps.length c', .bool true])) w') := fun ps A' c' w' h1 h2 h3 => by
    rw [hQ]
    exact ⟨.inl ⟨ps, A', c', h1, rfl, h2⟩, h3⟩
  have HQ0 : Hid (∀ (w' : World), pcs l = none → Below w.heap.size w w' → Q (.returned (.tuple #[.slice none 0 0, .bool false])) w') := fun w' h1 h3 => by
    rw [hQ]
    exact ⟨.inr ⟨h1, rfl⟩, h3⟩
  rw [← hQ]
  have HL0 : Hid (Lst 2 rSeg 128 (fun k => w.heap.size ≤ k) w (w.alloc (.cells #[] 128)) (some ⟨w.heap.size, 0, none⟩) 0 0 [] []) := Lst.start ((Below.refl _ _).alloc (Nat.le_refl _) _) (Bk.new w _ _) (Nat.le_refl _)
  have hcm := hs.max
  have hcap := hs.cap
  unfold maxLen at hcm
  clear hQ hi hz0 hz1 hz2 hj hy0 hy1 hy2 hs
  go_enter Tryz.func101, Tryz.ntmps101
  go_wp2_with fail
  go_loopw [4, 5] (fun v4 v5 wr => ∃ (at_ : Nat) (out : List Sg) (Ao : Option Addr) (co : Nat) (vs : List Value), at_ ≤ l.length ∧ v5 = .int .i64 at_ ∧ v4 = .slice Ao out.length co ∧ pcs l = (pcs (l.drop at_)).map (out ++ ·) ∧ out.length ≤ at_ ∧ Lst 2 rSeg 128 (fun k => w.heap.size ≤ k) w wr Ao out.length co vs out) (fun _ v5 _ => l.length - (intOf v5).toNat)
  case atStart => exact ⟨0, [], _, 0, [], by omega, rfl, rfl, by simp, by simp, HL0.out⟩
  case round =>
    obtain ⟨p, out, Ao, co, vs, hp, rfl, rfl, hpc, hlen, hls⟩ := hrel
    have HLs := Lib.hid hls
    have HPc := Lib.hid hpc
    have HBw := Lib.hid hls.acc.bel
    clear hls hpc
    by_cases hlt : p < l.length
    · obtain ⟨b, off, rfl⟩ := bn_some HS.out (by omega)
      have hi1 : (p : Int) < (l.length : Int) := by omega
      rcases hT : l.drop p with _ | ⟨kb, rest⟩
      · have := congrArg List.length hT
        simp at this
        omega
      have hTl : (l.drop p).length = l.length - p := List.length_drop
      have e0 : l[p]? = some kb := by
        have : (l.drop p)[0]? = l[p]? := by rw [List.getElem?_drop]; simp
        rw [← this, hT]; rfl
      have HKn : Hid (segR (kb :: rest) = none → pcs l = none) := fun h => by rw [HPc.out, hT, pcs_none (by simp) h]; rfl
      rcases rest with _ | ⟨n, t⟩
      · have hl1 : l.length = p + 1 := by rw [hT] at hTl; simp at hTl; omega
        have HN := Lib.hid (HKn.out rfl)
        have d1 : decide ((l.length : Int) < (p : Int) + 2) = true := by rw [decide_eq_true_iff]; omega
        clear HKn hT hTl
        go_wp2_with fail
        exact HQ0.out _ HN.out HBw.out
      · have e1 : l[p + 1]? = some n := by
          have : (l.drop p)[1]? = l[p + 1]? := by rw [List.getElem?_drop]
          rw [← this, hT]; rfl
        have htl : t.length + 2 = l.length - p := by rw [hT] at hTl; simpa using hTl
        have htd : t = l.drop (p + 2) := by
          have : (l.drop p).drop 2 = l.drop (p + 2) := by rw [List.drop_drop]
          rw [← this, hT]; rfl
        have d1 : decide ((l.length : Int) < (p : Int) + 2) = false := by rw [decide_eq_false_iff_not]; omega
        have hi2 : (p : Int) + 1 < (l.length : Int) := by omega
        have hn255 := n.toNat_lt
        have hk255 := kb.toNat_lt
        obtain ⟨q0, hbl⟩ := bn_cell HS.out e0
        have q1 := (bn_cell HS.out e1).1
        have HU : Hid (∀ w', Below w.heap.size w w' → w'.cell? ⟨b, off + p, none⟩ = some (.int .u8 (kb.toNat : Int)) ∧ w'.cell? ⟨b, off + (p + 1), none⟩ = some (.int .u8 (n.toNat : Int))) := fun w' hb => ⟨(hb.cell (p := ⟨b, off + p, none⟩) hbl).trans q0, (hb.cell (p := ⟨b, off + (p + 1), none⟩) hbl).trans q1⟩
        have HSn : Hid (∀ w', Below w.heap.size w w' → Bn w' G (some ⟨b, off, none⟩) c l) := fun w' hb => HS.out.bel hb
        have HSeg : Hid (segR (kb :: n :: t) = if (kb.toNat = 1 ∨ kb.toNat = 2) ∧ n.toNat ≠ 0 ∧ 4 * n.toNat ≤ t.length then some (((kb.toNat : Int), nums4 (t.take (4 * n.toNat))), t.drop (4 * n.toNat)) else none) := rfl
        have HKs : Hid (∀ s q, segR (kb :: n :: t) = some (s, q) → pcs l = (pcs q).map ((out ++ [s]) ++ ·)) := fun s q h => by
          rw [HPc.out, hT, pcs_some h, Option.map_map]
          congr 1
          funext x
          simp
        obtain ⟨y0, y1⟩ := HU.out wr HBw.out
        have HTd := Lib.hid htd
        clear hT hTl e0 e1 q0 q1 HPc htd
        generalize n.toNat = m at *
        generalize hkd : kb.toNat = kd at *
        have hw : (kd < 1) ∨ (¬ kd < 1 ∧ 2 < kd) ∨ (¬ kd < 1 ∧ ¬ 2 < kd ∧ m = 0) ∨ (¬ kd < 1 ∧ ¬ 2 < kd ∧ m ≠ 0 ∧ t.length < 4 * m) ∨ (¬ kd < 1 ∧ ¬ 2 < kd ∧ m ≠ 0 ∧ ¬ t.length < 4 * m) := by omega
        have HNo : Hid (¬ ((kd = 1 ∨ kd = 2) ∧ m ≠ 0 ∧ 4 * m ≤ t.length) → pcs l = none) := fun h => HKn.out (by rw [HSeg.out, if_neg h])
        clear HKn
        rcases hw with h | ⟨h1, h2⟩ | ⟨h1, h2, h3⟩ | ⟨h1, h2, h3, h4⟩ | ⟨h1, h2, h3, h4⟩
        · have HN := Lib.hid (HNo.out (by omega))
          have e1 : decide ((kd : Int) < 1) = true := by rw [decide_eq_true_iff]; omega
          go_wp2_with fail
          exact HQ0.out _ HN.out HBw.out
        · have HN := Lib.hid (HNo.out (by omega))
          have e1 : decide ((kd : Int) < 1) = false := by rw [decide_eq_false_iff_not]; omega
          have e2 : decide (2 < (kd : Int)) = true := by rw [decide_eq_true_iff]; omega
          go_wp2_with fail
          exact HQ0.out _ HN.out HBw.out
        · have HN := Lib.hid (HNo.out (by omega))
          have e1 : decide ((kd : Int) < 1) = false := by rw [decide_eq_false_iff_not]; omega
          have e2 : decide (2 < (kd : Int)) = false := by rw [decide_eq_false_iff_not]; omega
          have e3 : ((m : Int) == 0) = true := by rw [beq_iff_eq]; omega
          go_wp2_with fail
          exact HQ0.out _ HN.out HBw.out
        · have HN := Lib.hid (HNo.out (by omega))
          have e1 : decide ((kd : Int) < 1) = false := by rw [decide_eq_false_iff_not]; omega
          have e2 : decide (2 < (kd : Int)) = false := by rw [decide_eq_false_iff_not]; omega
          have e3 : ((m : Int) == 0) = false := by rw [beq_eq_false_iff_ne]; omega
          have e4 : decide ((l.length : Int) < (p : Int) + 2 + 4 * (m : Int)) = true := by rw [decide_eq_true_iff]; omega
          go_wp2_with fail
          exact HQ0.out _ HN.out HBw.out
        · have e1 : decide ((kd : Int) < 1) = false := by rw [decide_eq_false_iff_not]; omega
          have e2 : decide (2 < (kd : Int)) = false := by rw [decide_eq_false_iff_not]; omega
          have e3 : ((m : Int) == 0) = false := by rw [beq_eq_false_iff_ne]; omega
          have e4 : decide ((l.length : Int) < (p : Int) + 2 + 4 * (m : Int)) = false := by rw [decide_eq_false_iff_not]; omega
          have HSg : Hid (segR (kb :: n :: t) = some (((kd : Int), nums4 (t.take (4 * m))), t.drop (4 * m))) := by rw [Hid, HSeg.out, if_pos (by omega)]
          have HP0 := Lib.hid (PR.start HLs.out (kd : Int))
          go_upto_region 7 with fail
          clear e1 e2 e3 e4 HNo y0 y1
          obtain ⟨sb, hsb⟩ : ∃ sb, sb = wr.heap.size := ⟨_, rfl⟩
          obtain ⟨w3, hw3⟩ : ∃ w3, w3 = wr.alloc (.cells #[.int .i64 (kd : Int), .slice none 0 0] 128) := ⟨_, rfl⟩
          rw [← hw3, ← hsb] at HP0 ⊢
          clear hw3 hsb HLs HBw
          have hol : out.length ≤ 100000 := by omega
          go_wp2_with fail
          go_loopw [7] (fun v7 wr => ∃ (i : Nat) (xs : List Nat) (Aa : Option Addr) (ca : Nat), v7 = .int .i64 i ∧ i ≤ m ∧ xs.length = i ∧ xs = nums4 (t.take (4 * i)) ∧ PR w sb (kd : Int) xs Aa ca Ao co vs out wr) (fun v7 _ => m - (intOf v7).toNat)
          case atStart => exact ⟨0, [], none, 0, rfl, by omega, rfl, rfl, HP0.out⟩
          case round =>
            obtain ⟨i, xs, Aa, ca, rfl, hin, hxi, hxs, hpq⟩ := hrel
            have HP := Lib.hid hpq
            have HXs := Lib.hid hxs
            have HXi := Lib.hid hxi
            have y1 := (HU.out wr hpq.as_.bel).2
            have HBq := Lib.hid hpq.as_.bel
            clear hpq hxs hxi
            have hxl : xs.length ≤ 255 := by have := HXi.out; omega
            by_cases him : i < m
            · have him1 : (i : Int) < (m : Int) := by omega
              have hit : 4 * (i + 1) ≤ t.length := by omega
              have HNx : Hid (nums4 (t.take (4 * (i + 1))) = xs ++ [num ((t.drop (4 * i)).take 4)]) := by rw [Hid, nums4_next hit, HXs.out]
              have hdr : (l.drop (p + 2 + 4 * i)).take 4 = (t.drop (4 * i)).take 4 := by rw [HTd.out, List.drop_drop]
              have hsl : ∀ w', (Instr.slice 22 (.slice (some ⟨b, off, none⟩) l.length c) (some (.int .i64 ((p : Int) + 2 + 4 * (i : Int)))) (some (.int .i64 ((p : Int) + 6 + 4 * (i : Int)))) none).run Tryz.prog w' = .ok (.slice (some ⟨b, off + (p + 2 + 4 * i), none⟩) 4 (c - (p + 2 + 4 * i))) w' := fun w' => by
                have := run_cut8 b off l.length c (p + 2 + 4 * i) (p + 6 + 4 * i) ((p : Int) + 2 + 4 * (i : Int)) ((p : Int) + 6 + 4 * (i : Int)) (by omega) (by omega) (by omega) (by omega) (by omega) hcap (by unfold maxLen; omega) w'
                rw [show p + 6 + 4 * i - (p + 2 + 4 * i) = 4 by omega] at this
                exact this
              have HUx : Hid (∀ wz, Below w.heap.size w wz → Calls Tryz.prog 29 #[.slice (some ⟨b, off + (p + 2 + 4 * i), none⟩) 4 (c - (p + 2 + 4 * i))] wz fun e w' => e = .returned (.int .u32 (num ((t.drop (4 * i)).take 4) : Int)) ∧ wz = w') := fun wz hb => by
                have h1 := bs_mid (HSn.out wz hb) (lo := p + 2 + 4 * i) (n := 4) (by omega)
                rw [hdr] at h1
                have h2 := HNum.out _ (c - (p + 2 + 4 * i)) _ _ wz (by rw [List.length_take]; omega) h1
                rw [show ((t.drop (4 * i)).take 4).length = 4 by rw [List.length_take, List.length_drop]; omega] at h2
                exact h2
              have wr1 : IntKind.i64.wrap ((p : Int) + 2) = (p : Int) + 2 := by rw [IntKind.wrap_i64]; omega
              have wr2 : IntKind.i64.wrap (4 * (i : Int)) = 4 * (i : Int) := by rw [IntKind.wrap_i64]; omega
              have wr3 : IntKind.i64.wrap ((p : Int) + 6) = (p : Int) + 6 := by rw [IntKind.wrap_i64]; omega
              have wr4 : IntKind.i64.wrap ((p : Int) + 2 + 4 * (i : Int)) = (p : Int) + 2 + 4 * (i : Int) := by rw [IntKind.wrap_i64]; omega
              have wr5 : IntKind.i64.wrap ((p : Int) + 6 + 4 * (i : Int)) = (p : Int) + 6 + 4 * (i : Int) := by rw [IntKind.wrap_i64]; omega
              clear hdr hit
              generalize num ((t.drop (4 * i)).take 4) = x at *
              generalize off + (p + 2 + 4 * i) = o4 at *
              generalize c - (p + 2 + 4 * i) = c4 at *
              go_upto_region 10 with fail
              have HPd : Hid (PR w sb (kd : Int) xs Aa ca Ao co vs out wr.drew) := HP.out.go (Below.refl _ _).drew
              have HUd := Lib.hid (HUx.out _ HPd.out.as_.bel)
              have k1 := (HPd.out.bx.cell 1).trans (show _ = some _ from rfl)
              have kf := HPd.out.bx.free 1
              have kl := HPd.out.bx.lt
              have kl0 : sb < wr.heap.size := HP.out.bx.lt
              have k10 := (HP.out.bx.cell 1).trans (show _ = some _ from rfl)
              have HOa : Hid (foot.Own (wr.drew.alloc (.cells #[.int .u32 (x : Int)] 26)) 26 1 Aa xs.length ca (uv xs)) := HPd.out.as_.own.bel ((Below.refl _ _).alloc (Nat.le_refl _) _)
              have HRa := Lib.hid (Rg.new wr.drew 26 1 1 #[.int .u32 (x : Int)] rfl)
              have HPut : Hid (∀ (w4 : World) (A' : Option Addr) (c' : Nat), foot.Own w4 26 1 A' (xs.length + 1) c' (uv xs ++ [.int .u32 (x : Int)]) → Chg (sf Aa) (wr.drew.alloc (.cells #[.int .u32 (x : Int)] 26)) w4 → Fresh (wr.drew.alloc (.cells #[.int .u32 (x : Int)] 26)) (sf Aa) (sf A') → Bk w4 sb 128 #[.int .i64 (kd : Int), .slice Aa xs.length ca] ∧ PR w sb (kd : Int) (xs ++ [x]) A' c' Ao co vs out (w4.setCell ⟨sb, 1, none⟩ (.slice A' (xs.length + 1) c'))) := fun w4 A' c' h2 h3 h4 => HPd.out.put h2 h3 h4
              -- moves from here
              refine wp_region_noPanic ?_
              refine wp_region_held_drew (S := fun _ => True) (by kernel_rfl) ?_ (fun hHeld => ?_)
              · exact trivial
              refine wpAnyH_take (i := 0) (oi := _) (v := ?_) rfl (by kernel_rfl) (by kernel_rfl) (by kernel_rfl) (fun _ _ _ h => h) (Or.inl ⟨by rfl, ?_⟩) (by assumption) ?_
              rotate_left
              · (intro w hSw; (try dsimp only at hSw); go_simp <;> with_reducible rfl)
              try simp only [Act.put, List.getElem_toArray, List.getElem_cons_succ, List.getElem_cons_zero, List.setIfInBounds_toArray, List.set_cons_zero, List.set_cons_succ]
              refine wpAnyH_take (i := 2) (oi := _) (v := ?_) rfl (by kernel_rfl) (by kernel_rfl) (by kernel_rfl) (fun _ _ _ h => h) (Or.inl ⟨by rfl, ?_⟩) (by assumption) ?_
              rotate_left
              · (intro w hSw; (try dsimp only at hSw); go_simp <;> with_reducible rfl)
              try simp only [Act.put, List.getElem_toArray, List.getElem_cons_succ, List.getElem_cons_zero, List.setIfInBounds_toArray, List.set_cons_zero, List.set_cons_succ]
              refine wpAnyH_take (i := 3) (oi := _) (v := ?_) rfl (by kernel_rfl) (by kernel_rfl) (by kernel_rfl) (fun _ _ _ h => h) (Or.inl ⟨by rfl, ?_⟩) (by assumption) ?_
              rotate_left
              · (intro w hSw; (try dsimp only at hSw); go_simp <;> with_reducible rfl)
              try simp only [Act.put, List.getElem_toArray, List.getElem_cons_succ, List.getElem_cons_zero, List.setIfInBounds_toArray, List.set_cons_zero, List.set_cons_succ]
              refine wpAnyH_take (i := 4) (oi := _) (v := ?_) rfl (by kernel_rfl) (by kernel_rfl) (by kernel_rfl) (fun _ _ _ h => h) (Or.inl ⟨by rfl, ?_⟩) (by assumption) ?_
              rotate_left
              · (intro w hSw; (try dsimp only at hSw); go_simp <;> with_reducible rfl)
              try simp only [Act.put, List.getElem_toArray, List.getElem_cons_succ, List.getElem_cons_zero, List.setIfInBounds_toArray, List.set_cons_zero, List.set_cons_succ]
              refine wpAnyH_take (i := 5) (oi := _) (v := ?_) rfl (by kernel_rfl) (by kernel_rfl) (by kernel_rfl) (fun _ _ _ h => h) (Or.inl ⟨by rfl, ?_⟩) (by assumption) ?_
              rotate_left
              · (intro w hSw; (try dsimp only at hSw); go_simp <;> with_reducible rfl)
              try simp only [Act.put, List.getElem_toArray, List.getElem_cons_succ, List.getElem_cons_zero, List.setIfInBounds_toArray, List.set_cons_zero, List.set_cons_succ]
              refine wpAnyH_take (i := 6) (oi := _) (v := ?_) rfl (by kernel_rfl) (by kernel_rfl) (by kernel_rfl) (fun _ _ _ h => h) (Or.inl ⟨by rfl, ?_⟩) (by assumption) ?_
              rotate_left
              · (intro w hSw; (try dsimp only at hSw); go_simp <;> with_reducible rfl)
              try simp only [Act.put, List.getElem_toArray, List.getElem_cons_succ, List.getElem_cons_zero, List.setIfInBounds_toArray, List.set_cons_zero, List.set_cons_succ]
              refine wpAnyH_take (i := 7) (oi := _) (v := ?_) rfl (by kernel_rfl) (by kernel_rfl) (by kernel_rfl) (fun _ _ _ h => h) (Or.inl ⟨by rfl, ?_⟩) (by assumption) ?_
              rotate_left
              · (intro w hSw; (try dsimp only at hSw); go_simp <;> with_reducible rfl)
              try simp only [Act.put, List.getElem_toArray, List.getElem_cons_succ, List.getElem_cons_zero, List.setIfInBounds_toArray, List.set_cons_zero, List.set_cons_succ]
              refine wpAnyH_take (i := 8) (oi := _) (v := ?_) rfl (by kernel_rfl) (by kernel_rfl) (by kernel_rfl) (fun _ _ _ h => h) (Or.inl ⟨by rfl, ?_⟩) (by assumption) ?_
              rotate_left
              · (intro w hSw; (try dsimp only at hSw); go_simp <;> with_reducible rfl)
              try simp only [Act.put, List.getElem_toArray, List.getElem_cons_succ, List.getElem_cons_zero, List.setIfInBounds_toArray, List.set_cons_zero, List.set_cons_succ]
              refine wpAnyH_take (i := 9) (oi := _) (v := ?_) rfl (by kernel_rfl) (by kernel_rfl) (by kernel_rfl) (fun _ _ _ h => h) (Or.inl ⟨by rfl, ?_⟩) (by assumption) ?_
              rotate_left
              · (intro w hSw; (try dsimp only at hSw); go_simp <;> with_reducible rfl)
              try simp only [Act.put, List.getElem_toArray, List.getElem_cons_succ, List.getElem_cons_zero, List.setIfInBounds_toArray, List.set_cons_zero, List.set_cons_succ]
              refine wpAnyH_take (i := 10) (oi := _) (v := ?_) rfl (by kernel_rfl) (by kernel_rfl) (by kernel_rfl) (fun _ _ _ h => h) (Or.inl ⟨by rfl, ?_⟩) (by assumption) ?_
              rotate_left
              · (intro w hSw; (try dsimp only at hSw); go_simp <;> with_reducible rfl)
              try simp only [Act.put, List.getElem_toArray, List.getElem_cons_succ, List.getElem_cons_zero, List.setIfInBounds_toArray, List.set_cons_zero, List.set_cons_succ]
              refine wpAnyH_take (i := 11) (oi := _) (v := ?_) rfl (by kernel_rfl) (by kernel_rfl) (by kernel_rfl) (fun _ _ _ h => h) (Or.inl ⟨by rfl, ?_⟩) (by assumption) ?_
              rotate_left
              · (intro w hSw; (try dsimp only at hSw); go_simp <;> with_reducible rfl)
              try simp only [Act.put, List.getElem_toArray, List.getElem_cons_succ, List.getElem_cons_zero, List.setIfInBounds_toArray, List.set_cons_zero, List.set_cons_succ]
              refine wpAnyH_take (i := 12) (oi := _) (v := ?_) rfl (by kernel_rfl) (by kernel_rfl) (by kernel_rfl) (fun _ _ _ h => h) (Or.inl ⟨by rfl, ?_⟩) (by assumption) ?_
              rotate_left
              · (intro w hSw; (try dsimp only at hSw); go_simp <;> with_reducible rfl)
              try simp only [Act.put, List.getElem_toArray, List.getElem_cons_succ, List.getElem_cons_zero, List.setIfInBounds_toArray, List.set_cons_zero, List.set_cons_succ]
              refine wpAnyH_take (i := 13) (oi := _) (v := ?_) rfl (by kernel_rfl) (by kernel_rfl) (by kernel_rfl) (fun _ _ _ h => h) (Or.inl ⟨by rfl, ?_⟩) (by assumption) ?_
              rotate_left
              · (intro w hSw; (try dsimp only at hSw); go_simp <;> with_reducible rfl)
              try simp only [Act.put, List.getElem_toArray, List.getElem_cons_succ, List.getElem_cons_zero, List.setIfInBounds_toArray, List.set_cons_zero, List.set_cons_succ]
              refine wpAnyH_ready (rs := [1, 14]) (by kernel_rfl) (by simp) ?_
              refine AllReadyH.cons (o := _) rfl (fun K hK => ?_) (AllReadyH.cons (o := _) rfl (fun K hK => ?_) AllReadyH.nil)
              · go_simp
                refine hK.out _ _ ?_ (fun hHeld => ?_)
                · exact trivial
                clear hK K
                try simp only [Act.put, List.getElem_toArray, List.getElem_cons_succ, List.getElem_cons_zero, List.setIfInBounds_toArray, List.set_cons_zero, List.set_cons_succ]
                refine wpAnyH_ready (rs := [14]) (by kernel_rfl) (by simp) ?_
                refine AllReadyH.cons (o := _) rfl (fun K hK => ?_) AllReadyH.nil
                go_simp
                go_at_call 29
                refine HUd.out.mono ?_
                rintro e w5 ⟨rfl, rfl⟩
                refine hK.out _ _ ?_ (fun hHeld => ?_)
                · exact trivial
                clear hK K
                try simp only [Act.put, List.getElem_toArray, List.getElem_cons_succ, List.getElem_cons_zero, List.setIfInBounds_toArray, List.set_cons_zero, List.set_cons_succ]
                refine wpAnyH_ready (rs := [15]) (by kernel_rfl) (by simp) ?_
                refine AllReadyH.cons (o := _) rfl (fun K hK => ?_) AllReadyH.nil
                go_simp
                refine hK.out _ _ ?_ (fun hHeld => ?_)
                · exact trivial
                clear hK K
                try simp only [Act.put, List.getElem_toArray, List.getElem_cons_succ, List.getElem_cons_zero, List.setIfInBounds_toArray, List.set_cons_zero, List.set_cons_succ]
                refine wpAnyH_ready (rs := [16]) (by kernel_rfl) (by simp) ?_
                refine AllReadyH.cons (o := _) rfl (fun K hK => ?_) AllReadyH.nil
                refine step_app _ rfl (.tmp 72) (.tmp 86) _ rfl 26 j0 _ 1 4 Tryz.underlying27 Hj.out Hy0.out Hy1.out Hy2.out rfl (by omega) Aa xs.length ca (uv xs) (by rfl) (by exact HOa.out) _ (some ⟨wr.drew.heap.size, 0, none⟩) 1 1 (by intro h; cases h) [.int .u32 (x : Int)] (by rfl) (by exact HRa.out) (by intro u hu; simp at hu; rw [hu]; rfl) (by unfold maxLen; omega) (by omega) ?_
                intro A7 c7 w7 ho7 hc7 hf7
                clear k1 kf kl
                have HE7 := Lib.hid (HPut.out w7 A7 c7 ho7 hc7 hf7)
                have k1 := (HE7.out.1.cell 1).trans (show _ = some _ from rfl)
                have kf := HE7.out.1.free 1
                have kl := HE7.out.1.lt
                clear ho7 hc7 hf7
                refine hK.out _ _ ?_ (fun hHeld => ?_)
                · exact trivial
                clear hK K
                try simp only [Act.put, List.getElem_toArray, List.getElem_cons_succ, List.getElem_cons_zero, List.setIfInBounds_toArray, List.set_cons_zero, List.set_cons_succ]
                refine wpAnyH_take (i := 17) (oi := _) (v := ?_) rfl (by kernel_rfl) (by kernel_rfl) (by kernel_rfl) (fun _ _ _ h => h) (Or.inl ⟨by rfl, ?_⟩) (by assumption) ?_
                rotate_left
                · (intro w hSw; (try dsimp only at hSw); go_simp <;> with_reducible rfl)
                try simp only [Act.put, List.getElem_toArray, List.getElem_cons_succ, List.getElem_cons_zero, List.setIfInBounds_toArray, List.set_cons_zero, List.set_cons_succ]
                refine wpAnyH_ready (rs := [18]) (by kernel_rfl) (by simp) ?_
                refine AllReadyH.cons (o := _) rfl (fun K hK => ?_) AllReadyH.nil
                go_simp
                refine hK.out _ _ ?_ (fun hHeld => ?_)
                · exact trivial
                clear hK K
                try simp only [Act.put, List.getElem_toArray, List.getElem_cons_succ, List.getElem_cons_zero, List.setIfInBounds_toArray, List.set_cons_zero, List.set_cons_succ]
                refine wpAnyH_done (by kernel_rfl) ?_ _
                refine NoPanic.normal ?_
                go_wp2_with fail
                go_roundw
                case rel => exact ⟨i + 1, xs ++ [x], A7, c7, by go_num, by omega, by rw [List.length_append, HXi.out]; rfl, HNx.out.symm, HE7.out.2⟩
                case measure => simp [intOf]; omega
              · go_simp
                go_at_call 29
                refine HUd.out.mono ?_
                rintro e w5 ⟨rfl, rfl⟩
                refine hK.out _ _ ?_ (fun hHeld => ?_)
                · exact trivial
                clear hK K
                try simp only [Act.put, List.getElem_toArray, List.getElem_cons_succ, List.getElem_cons_zero, List.setIfInBounds_toArray, List.set_cons_zero, List.set_cons_succ]
                refine wpAnyH_ready (rs := [1, 15]) (by kernel_rfl) (by simp) ?_
                refine AllReadyH.cons (o := _) rfl (fun K hK => ?_) (AllReadyH.cons (o := _) rfl (fun K hK => ?_) AllReadyH.nil)
                · go_simp
                  refine hK.out _ _ ?_ (fun hHeld => ?_)
                  · exact trivial
                  clear hK K
                  try simp only [Act.put, List.getElem_toArray, List.getElem_cons_succ, List.getElem_cons_zero, List.setIfInBounds_toArray, List.set_cons_zero, List.set_cons_succ]
                  refine wpAnyH_ready (rs := [15]) (by kernel_rfl) (by simp) ?_
                  refine AllReadyH.cons (o := _) rfl (fun K hK => ?_) AllReadyH.nil
                  go_simp
                  refine hK.out _ _ ?_ (fun hHeld => ?_)
                  · exact trivial
                  clear hK K
                  try simp only [Act.put, List.getElem_toArray, List.getElem_cons_succ, List.getElem_cons_zero, List.setIfInBounds_toArray, List.set_cons_zero, List.set_cons_succ]
                  refine wpAnyH_ready (rs := [16]) (by kernel_rfl) (by simp) ?_
                  refine AllReadyH.cons (o := _) rfl (fun K hK => ?_) AllReadyH.nil
                  refine step_app _ rfl (.tmp 72) (.tmp 86) _ rfl 26 j0 _ 1 4 Tryz.underlying27 Hj.out Hy0.out Hy1.out Hy2.out rfl (by omega) Aa xs.length ca (uv xs) (by rfl) (by exact HOa.out) _ (some ⟨wr.drew.heap.size, 0, none⟩) 1 1 (by intro h; cases h) [.int .u32 (x : Int)] (by rfl) (by exact HRa.out) (by intro u hu; simp at hu; rw [hu]; rfl) (by unfold maxLen; omega) (by omega) ?_
                  intro A7 c7 w7 ho7 hc7 hf7
                  clear k1 kf kl
                  have HE7 := Lib.hid (HPut.out w7 A7 c7 ho7 hc7 hf7)
                  have k1 := (HE7.out.1.cell 1).trans (show _ = some _ from rfl)
                  have kf := HE7.out.1.free 1
                  have kl := HE7.out.1.lt
                  clear ho7 hc7 hf7
                  refine hK.out _ _ ?_ (fun hHeld => ?_)
                  · exact trivial
                  clear hK K
                  try simp only [Act.put, List.getElem_toArray, List.getElem_cons_succ, List.getElem_cons_zero, List.setIfInBounds_toArray, List.set_cons_zero, List.set_cons_succ]
                  refine wpAnyH_take (i := 17) (oi := _) (v := ?_) rfl (by kernel_rfl) (by kernel_rfl) (by kernel_rfl) (fun _ _ _ h => h) (Or.inl ⟨by rfl, ?_⟩) (by assumption) ?_
                  rotate_left
                  · (intro w hSw; (try dsimp only at hSw); go_simp <;> with_reducible rfl)
                  try simp only [Act.put, List.getElem_toArray, List.getElem_cons_succ, List.getElem_cons_zero, List.setIfInBounds_toArray, List.set_cons_zero, List.set_cons_succ]
                  refine wpAnyH_ready (rs := [18]) (by kernel_rfl) (by simp) ?_
                  refine AllReadyH.cons (o := _) rfl (fun K hK => ?_) AllReadyH.nil
                  go_simp
                  refine hK.out _ _ ?_ (fun hHeld => ?_)
                  · exact trivial
                  clear hK K
                  try simp only [Act.put, List.getElem_toArray, List.getElem_cons_succ, List.getElem_cons_zero, List.setIfInBounds_toArray, List.set_cons_zero, List.set_cons_succ]
                  refine wpAnyH_done (by kernel_rfl) ?_ _
                  refine NoPanic.normal ?_
                  go_wp2_with fail
                  go_roundw
                  case rel => exact ⟨i + 1, xs ++ [x], A7, c7, by go_num, by omega, by rw [List.length_append, HXi.out]; rfl, HNx.out.symm, HE7.out.2⟩
                  case measure => simp [intOf]; omega
                · go_simp
                  refine hK.out _ _ ?_ (fun hHeld => ?_)
                  · exact trivial
                  clear hK K
                  try simp only [Act.put, List.getElem_toArray, List.getElem_cons_succ, List.getElem_cons_zero, List.setIfInBounds_toArray, List.set_cons_zero, List.set_cons_succ]
                  refine wpAnyH_ready (rs := [1]) (by kernel_rfl) (by simp) ?_
                  refine AllReadyH.cons (o := _) rfl (fun K hK => ?_) AllReadyH.nil
                  go_simp
                  refine hK.out _ _ ?_ (fun hHeld => ?_)
                  · exact trivial
                  clear hK K
                  try simp only [Act.put, List.getElem_toArray, List.getElem_cons_succ, List.getElem_cons_zero, List.setIfInBounds_toArray, List.set_cons_zero, List.set_cons_succ]
                  refine wpAnyH_ready (rs := [16]) (by kernel_rfl) (by simp) ?_
                  refine AllReadyH.cons (o := _) rfl (fun K hK => ?_) AllReadyH.nil
                  refine step_app _ rfl (.tmp 72) (.tmp 86) _ rfl 26 j0 _ 1 4 Tryz.underlying27 Hj.out Hy0.out Hy1.out Hy2.out rfl (by omega) Aa xs.length ca (uv xs) (by rfl) (by exact HOa.out) _ (some ⟨wr.drew.heap.size, 0, none⟩) 1 1 (by intro h; cases h) [.int .u32 (x : Int)] (by rfl) (by exact HRa.out) (by intro u hu; simp at hu; rw [hu]; rfl) (by unfold maxLen; omega) (by omega) ?_
                  intro A7 c7 w7 ho7 hc7 hf7
                  clear k1 kf kl
                  have HE7 := Lib.hid (HPut.out w7 A7 c7 ho7 hc7 hf7)
                  have k1 := (HE7.out.1.cell 1).trans (show _ = some _ from rfl)
                  have kf := HE7.out.1.free 1
                  have kl := HE7.out.1.lt
                  clear ho7 hc7 hf7
                  refine hK.out _ _ ?_ (fun hHeld => ?_)
                  · exact trivial
                  clear hK K
                  try simp only [Act.put, List.getElem_toArray, List.getElem_cons_succ, List.getElem_cons_zero, List.setIfInBounds_toArray, List.set_cons_zero, List.set_cons_succ]
                  refine wpAnyH_take (i := 17) (oi := _) (v := ?_) rfl (by kernel_rfl) (by kernel_rfl) (by kernel_rfl) (fun _ _ _ h => h) (Or.inl ⟨by rfl, ?_⟩) (by assumption) ?_
                  rotate_left
                  · (intro w hSw; (try dsimp only at hSw); go_simp <;> with_reducible rfl)
                  try simp only [Act.put, List.getElem_toArray, List.getElem_cons_succ, List.getElem_cons_zero, List.setIfInBounds_toArray, List.set_cons_zero, List.set_cons_succ]
                  refine wpAnyH_ready (rs := [18]) (by kernel_rfl) (by simp) ?_
                  refine AllReadyH.cons (o := _) rfl (fun K hK => ?_) AllReadyH.nil
                  go_simp
                  refine hK.out _ _ ?_ (fun hHeld => ?_)
                  · exact trivial
                  clear hK K
                  try simp only [Act.put, List.getElem_toArray, List.getElem_cons_succ, List.getElem_cons_zero, List.setIfInBounds_toArray, List.set_cons_zero, List.set_cons_succ]
                  refine wpAnyH_done (by kernel_rfl) ?_ _
                  refine NoPanic.normal ?_
                  go_wp2_with fail
                  go_roundw
                  case rel => exact ⟨i + 1, xs ++ [x], A7, c7, by go_num, by omega, by rw [List.length_append, HXi.out]; rfl, HNx.out.symm, HE7.out.2⟩
                  case measure => simp [intOf]; omega
              -- moves up to here
            · obtain rfl : i = m := by omega
              have G1 : Hid (pcs l = (pcs (l.drop (p + 2 + 4 * i))).map ((out ++ [((kd : Int), xs)]) ++ ·)) := by
                have h := HKs.out _ _ HSg.out
                rw [← HXs.out] at h
                rw [Hid, h, HTd.out, List.drop_drop]
              have HWf : Hid ((Lit.int .i64 (kd : Int)).wf = true) := by
                have : kd = 1 ∨ kd = 2 := by omega
                rcases this with rfl | rfl <;> rfl
              have HW3 : Hid (W32 xs) := by rw [Hid, HXs.out]; exact nums4_w32 _ _ (Nat.le_refl _)
              have k0 := (HP.out.bx.cell 0).trans (show _ = some _ from rfl)
              have k1 := (HP.out.bx.cell 1).trans (show _ = some _ from rfl)
              have kl := HP.out.bx.lt
              have HOw : Hid (foot.Own (wr.alloc (.cells #[.int .i64 (kd : Int), .slice Aa xs.length ca] 128)) 128 2 Ao out.length co vs) := HP.out.ls.acc.own.bel ((Below.refl _ _).alloc (Nat.le_refl _) _)
              have HRz : Hid (Rg (wr.alloc (.cells #[.int .i64 (kd : Int), .slice Aa xs.length ca] 128)) (fun k => k = wr.heap.size) 2 (some ⟨wr.heap.size, 0, none⟩) 1 [.int .i64 (kd : Int), .slice Aa xs.length ca]) := rg_two (Bk.new wr _ _)
              have HFin : Hid (∀ (w8 : World) (A8 : Option Addr) (c8 : Nat), foot.Own w8 128 2 A8 (out.length + 1) c8 (vs ++ [.int .i64 (kd : Int), .slice Aa xs.length ca]) → Chg (sf Ao) (wr.alloc (.cells #[.int .i64 (kd : Int), .slice Aa xs.length ca] 128)) w8 → Fresh (wr.alloc (.cells #[.int .i64 (kd : Int), .slice Aa xs.length ca] 128)) (sf Ao) (sf A8) →
                  Lst 2 rSeg 128 (fun k => w.heap.size ≤ k) w w8 A8 (out.length + 1) c8 (vs ++ [.int .i64 (kd : Int), .slice Aa xs.length ca]) (out ++ [((kd : Int), xs)])) := fun w8 A8 c8 ho hc hf => by
                have hb : Below wr.heap.size wr (wr.alloc (.cells #[.int .i64 (kd : Int), .slice Aa xs.length ca] 128)) := (Below.refl _ _).alloc (Nat.le_refl _) _
                have hq := HP.out
                have hL0 := (hq.ls.wide keeps_seg (C := fun k => w.heap.size ≤ k) fun k _ hB => hB.1).go keeps_seg hb
                have hseg := seg_of (G := fun k => w.heap.size ≤ k ∧ ¬ sf Ao k) HWf.out (Rel_own (hq.as_.own.bel hb) HW3.out fun k hk => ⟨hq.as_.low k hk, fun e => by have := hq.lo k hk; have := hq.hi k e; omega⟩)
                exact hL0.app keeps_seg (rAll.single hseg) rfl ho hc hf
              clear HKs HSeg
              generalize xs.length = nx at *
              go_wp2_with (at_builtin; refine wpList_app _ rfl (.tmp 89) (.tmp 91) _ rfl 128 i0 _ 2 32 Tryz.underlying25 Hi.out Hz0.out Hz1.out Hz2.out rfl (by omega) Ao out.length co vs rfl HOw.out _ (some ⟨wr.heap.size, 0, none⟩) 1 1 (by intro h; cases h) _ rfl HRz.out (by intro u hu; simp at hu; rcases hu with rfl | rfl <;> rfl) (by unfold maxLen; omega) (by omega) ?_; intro A8 c8 w8 ho8 hc8 hf8; have H8 := Lib.hid (HFin.out w8 A8 c8 ho8 hc8 hf8); have y18 := (HU.out w8 H8.out.acc.bel).2; clear ho8 hc8 hf8)
              go_roundw
              case rel => exact ⟨p + 2 + 4 * i, out ++ [((kd : Int), xs)], A8, c8, _, by omega, by go_num, by rw [List.length_append]; rfl, G1.out, by rw [List.length_append]; simp; omega, by rw [List.length_append]; exact H8.out⟩
              case measure => simp [intOf]; omega
    · obtain rfl : p = l.length := by omega
      have HP1 : Hid (pcs l = some out) := by rw [Hid, HPc.out, List.drop_length, pcs_nil]; simp
      have HSp : Hid (Sp wr (fun k => w.heap.size ≤ k) Ao co out) := (Sp.of_lst HLs.out).mono fun k _ hk => hk.elim id fun h => h
      go_wp2_with fail
      exact HQ1.out _ _ _ _ HP1.out HSp.out HBw.out
end Go.Proofs.YtaeeeinpelfppaaGreat.attr
