/- path.Join: a sequence in pieces, a set in pieces behind it. Condition: at most 10^6 numbers each. -/
import Derived.Test.YtafepficapdepaaPieces
import Derived.Test.YtafepficapdepaaNormWalk
import Derived.Test.YtafepficapdepaaNormSize
import Derived.Test.YtafepficapdepaaAsnMerged
namespace Go.Proofs.Ytafepficapdepaa.pth
open Go.RowKit Go.Shelf Go.Proofs Go.Proofs.Ytafepficapdepaa.kit Go.Proofs.Ytafepficapdepaa.mem Go.Proofs.Ytafepficapdepaa.foot Go.Proofs.Ytafepficapdepaa.nums Go.Proofs.Ytafepficapdepaa.asn
set_option linter.unusedVariables false
set_option linter.unusedSimpArgs false
attribute [local go_sem] Oper.semAt_some
theorem upto_sgsK (K : Int) (l : List Nat) (k : Nat) (h1 : l.length ≤ 255 * k) (h2 : 255 * k ≤ l.length + 254) : (upto k).map (fun x => (K, (l.drop x).take 255)) = sgs K l := by
  have h := upto_sgs l k h1 h2
  have h3 : ((upto k).map (fun x => ((2 : Int), (l.drop x).take 255))).map (fun s => (K, s.2)) = (sgs 2 l).map (fun s => (K, s.2)) := by rw [h]
  rw [List.map_map] at h3
  unfold sgs at h3 ⊢
  rw [List.map_map] at h3
  exact h3
/-- between two rounds -/
structure PJ (w : World) (ob n1 : Nat) (A0 : Option Addr) (ps : List Sg) (A : Option Addr) (l pre : List Nat) (W : World) : Prop where
  mem : ∃ A1 c1 vs, Bk W ob 73 #[.slice A1 (ps.length + pre.length) c1] ∧ (∀ k, sf A1 k → sf A0 k ∨ n1 ≤ k) ∧ Lst 2 rSeg 122 (fun k => w.heap.size ≤ k ∧ k ≠ ob) w W A1 (ps.length + pre.length) c1 vs (ps ++ pre.map fun x => ((1 : Int), (l.drop x).take 255))
  src : Us W (fun k => k ≠ ob ∧ ¬ sf A0 k ∧ k < n1) A l
  big : n1 ≤ W.heap.size
section
variable {w : World} {ob n1 : Nat} {A0 : Option Addr}
theorem PJ.own {ps : List Sg} {A : Option Addr} {l : List Nat} {B : Nat} (hB : w.heap.size ≤ B) : OwnFrom B (PJ w ob n1 A0 ps A l) := fun s W W' row hs hg hr => by
  have hst := stay_row hg fun r e => (hr r e).2
  obtain ⟨⟨A1, c1, vs, h1, h2, h3⟩, h4, h5⟩ := hs
  exact ⟨⟨A1, c1, vs, hst.block _ _ _ _ h1, h2, ⟨⟨foot.Own.stay h3.acc.own hst, h3.acc.bel.trans (below_grown hg h3.acc.bel.size fun g e => Nat.le_trans hB (hr g e).1), h3.acc.low⟩, all_stay h3.all hst, h3.len⟩⟩, Rg.stay h4 hst, Nat.le_trans h5 hg.size⟩
variable {W wc w' : World} {A A1 A2 A' : Option Addr} {l pre y : List Nat} {ps : List Sg} {x m c1 c2 c' : Nat} {vs : List Value}
/-- one piece more -/
theorem PJ.next (hm : m = ps.length + pre.length) (hob : w.heap.size ≤ ob) (hobn : ob < n1) (hA0 : ∀ k, sf A0 k → w.heap.size ≤ k ∧ k < ob) (hy : y = (l.drop x).take 255) (hw : W32 y) (hbk : Bk W ob 73 #[.slice A1 m c1]) (hne : ∀ k, sf A1 k → sf A0 k ∨ n1 ≤ k)
    (hlst : Lst 2 rSeg 122 (fun k => w.heap.size ≤ k ∧ k ≠ ob) w W A1 m c1 vs (ps ++ pre.map fun x => ((1 : Int), (l.drop x).take 255))) (hsr : Us W (fun k => k ≠ ob ∧ ¬ sf A0 k ∧ k < n1) A l) (hbig : n1 ≤ W.heap.size)
    (ho2 : foot.Own wc 22 1 A2 y.length c2 (uv y)) (hlo2 : ∀ k, sf A2 k → W.heap.size ≤ k) (hb2 : Below W.heap.size W wc)
    (ho : foot.Own w' 122 2 A' (m + 1) c' (vs ++ [.int .i64 1, .slice A2 y.length c2])) (hch : Chg (sf A1) (wc.alloc (.cells #[.int .i64 1, .slice A2 y.length c2] 122)) w') (hf : Fresh (wc.alloc (.cells #[.int .i64 1, .slice A2 y.length c2] 122)) (sf A1) (sf A')) :
    KeepsOthers W (w'.setCell ⟨ob, 0, none⟩ (.slice A' (m + 1) c')) ∧ Kp (fun k => k = ob ∨ sf A0 k) n1 W (w'.setCell ⟨ob, 0, none⟩ (.slice A' (m + 1) c')) ∧ PJ w ob n1 A0 ps A l (pre ++ [x]) (w'.setCell ⟨ob, 0, none⟩ (.slice A' (m + 1) c')) := by
  have hba : Below W.heap.size W (wc.alloc (.cells #[.int .i64 1, .slice A2 y.length c2] 122)) := hb2.alloc hb2.size _
  have hlow : ∀ k, sf A1 k → w.heap.size ≤ k := fun k hk => by
    rcases hne k hk with e | e
    · exact (hA0 k e).1
    · omega
  have hno : ¬ sf A1 ob := fun hs => by
    rcases hne _ hs with e | e
    · have := (hA0 _ e).2; omega
    · omega
  have hw2 : Below w.heap.size w w' := hlst.acc.bel.trans ((hba.mono hlst.acc.bel.size).trans (hch.below hlow (Nat.le_trans hlst.acc.bel.size hba.size)))
  have hA' : ∀ k, sf A' k → sf A0 k ∨ n1 ≤ k := fun k hk => by
    rcases hf k hk with e | e
    · exact hne k e
    · have := hba.size; right; omega
  have hx : ∀ k, Chg (fun j => j = ob) w' (w'.setCell ⟨ob, 0, none⟩ k) := fun k => (Chg.refl (fun j => j = ob) w').put (p := ⟨ob, 0, none⟩) (.inl rfl) k
  have hW' : ∀ k, Chg (fun j => (j = ob ∨ sf A0 j) ∨ n1 ≤ j) W (w'.setCell ⟨ob, 0, none⟩ k) := fun k => ((Chg.of_below hba (fun j => (j = ob ∨ sf A0 j) ∨ n1 ≤ j)).trans hch fun i _ hi => (hne i hi).elim (fun e => .inl (.inr e)) .inr).trans (hx k) fun i _ hi => .inl (.inl hi)
  refine ⟨⟨(hW' _).size, fun k o hk ho' => ?_⟩, hW' _, ⟨A', c', vs ++ [.int .i64 1, .slice A2 y.length c2], ?_, hA', ?_⟩, ?_, Nat.le_trans hbig (hW' _).size⟩
  · have hkW := (Array.getElem?_eq_some_iff.1 hk).1
    have n1 : ¬ sf A1 k := fun hs => by
      rcases hlst.acc.own.2 with ⟨rfl, _⟩ | ⟨g, off, cur, rfl, hb, _⟩
      · exact sf_none k hs
      · rw [sf_some] at hs
        subst hs
        unfold Bk at hb
        rw [hb] at hk
        cases hk
        cases ho'
    have n2 : k ≠ ob := by
      rintro rfl
      unfold Bk at hbk
      rw [hbk] at hk
      cases hk
      cases ho'
    rw [(hx _).block k (Nat.lt_of_lt_of_le (Nat.lt_of_lt_of_le hkW hba.size) hch.size) n2, hch.block k (Nat.lt_of_lt_of_le hkW hba.size) n1, hba.block k hkW]
    exact hk
  · have h1 := (hbk.below hba hbk.lt).chg hch hno
    have h2 := h1.put 0 (.slice A' (m + 1) c')
    rw [List.length_append, List.length_singleton, ← Nat.add_assoc, ← hm]
    simpa using h2
  · have hL := (hlst.go keeps_seg hba).app keeps_seg (news := [.int .i64 1, .slice A2 y.length c2]) (l2 := [((1 : Int), y)]) (k := 1)
      (rAll.single (seg_of (by decide) (Rel_own ((ho2.bel (((Below.refl _ wc).alloc (Nat.le_refl _) _)))) hw fun k hk => by
        have h3 := hlo2 k hk
        have h4 := hlst.acc.bel.size
        refine ⟨⟨by omega, by omega⟩, fun hs => ?_⟩
        have := hlst.acc.own.lt k hs
        omega))) rfl ho hch hf
    rw [List.length_append, List.length_singleton, List.map_append, List.map_cons, List.map_nil, ← hy, ← Nat.add_assoc, ← hm, ← List.append_assoc]
    exact ⟨⟨hL.acc.own.chg (hx _) (fun k hk1 hk e => by
      rw [e] at hk
      rcases hA' ob hk with e2 | e2
      · have := (hA0 _ e2).2; omega
      · omega), hL.acc.bel.trans ((hx _).below (fun k e => by rw [e]; exact hob) hw2.size), hL.acc.low⟩, hL.all.chg keeps_seg (hx _) (fun k _ hk e => hk.1.2 e), hL.len⟩
  · exact ((hsr.chg (F := fun _ => False) (Chg.of_below hba _) (fun _ _ _ e => e)).chg hch (fun k _ hk hs => by
      rcases hne k hs with e | e
      · exact hk.2.1 e
      · omega)).chg (hx _) (fun k _ hk e => hk.1 e)
end
/-- a sequence, and a set behind it -/
def joinS (lead set : List Nat) : List Sg := sgs 2 lead ++ sgs 1 (setN set)
set_option maxRecDepth 100000 in
set_option maxHeartbeats 4000000 in
theorem Join_any (A C : Option Addr) (c d : Nat) (lead set : List Nat) (H : Foot) (w : World) (hl : lead.length ≤ 1000000) (hst : set.length ≤ 1000000) (hw : W32 lead) (hw2 : W32 set) (h : foot.Own w 22 1 A lead.length c (uv lead)) (h2 : Sn w H C d set) :
    Calls Try.prog 104 #[.slice A lead.length c, .slice C set.length d] w (RetP (joinS lead set) w) := by
  refine (callsIn_wide (n := 4)).1 ?_
  obtain ⟨i0, hi, hz0, hz1, hz2⟩ := info_parts info_seg
  have h1 : 1 ≤ 4 := by omega
  have hmx : Try.prog.follows .mixedOrders = true := by kernel_rfl
  have HPi := Lib.hid (pieces_any A c lead w hl hw h)
  have HSe : Hid (∀ w', Below w.heap.size w w' → Calls Try.prog 103 #[.slice C set.length d] w' fun e w2 => RetNums (setN set) w' e w2) := fun w' hb => by
    refine (Set_any C d set H w' (by omega) h2.nil h2.cap h2.max (Rg.bel h2.us hb)).mono ?_
    rintro e w2 ⟨t, ht, _, hr⟩
    obtain rfl := ht.eq (setN_ok set)
    exact hr
  have hts := setN_len set
  have HWt := Lib.hid (setN_w32 hw2)
  have HCh : Hid (∀ A len w, Calls Try.prog 153 #[.slice A len len, .int .i64 255] w fun e w' => e = .returned (.func (.func 169) #[] #[.pointer (some ⟨w.heap.size, 0, none⟩), .pointer (some ⟨w.heap.size + 1, 0, none⟩)]) ∧ w' = (w.alloc (.cells #[.slice A len len] 67)).alloc (.cells #[.int .i64 255] 3)) := fun A len w => Chunk_any _ _ _ w
  have HChA := fun (A : Option Addr) (len c : Nat) (w : World) => Chunk_any A len c w
  have HLs := Lib.hid (sgs_len 2 lead)
  unfold joinS
  generalize sgs 2 lead = ps at *
  generalize setN set = t at *
  refine callsIn_of_wp_marks Try.func104 rfl trivial ?_ rfl
  simp only [Try.ntmps104, List.size_toArray, List.length_cons, List.length_nil, Nat.reduceAdd, Nat.reduceSub, Array.replicate_succ, Array.replicate_zero, List.push_toArray, List.append_toArray, List.nil_append, List.cons_append]
  gi_wp2_with (refine ⟨trivial, ?_⟩; gi_at_call 152; refine (callsIn_wide.2 HPi.out).mono ?_; rintro e w1 ⟨A0, c0, vs0, rfl, hL1⟩; have HL1 := Lib.hid hL1; clear hL1)
  have HSx := Lib.hid (HSe.out (w1.alloc (.cells #[.slice A0 ps.length c0] 73)) (HL1.out.acc.bel.alloc HL1.out.acc.bel.size _))
  gi_wp2_with (first
    | (refine ⟨trivial, ?_⟩; gi_at_call 103; refine (callsIn_wide.2 HSx.out).mono ?_; rintro e w2 ⟨A2, c2, rfl, ho2, hlo2, hb2⟩; have HO2 := Lib.hid (And.intro ho2 (And.intro hlo2 hb2)); have HChx := Lib.hid (HChA A2 t.length c2 w2); clear ho2 hlo2 hb2)
    | (refine ⟨trivial, ?_⟩; gi_at_call 153; refine (callsIn_wide.2 HChx.out).mono ?_; rintro e w' ⟨rfl, rfl⟩))
  clear HCh HChA HSe HPi HSx HChx h h2
  obtain ⟨ho2, hlo2, hb2⟩ := HO2.out
  have hob : w.heap.size ≤ w1.heap.size := HL1.out.acc.bel.size
  have hs2 : w1.heap.size + 1 ≤ w2.heap.size := by have := hb2.size; simpa using this
  have hA0 : ∀ k, sf A0 k → w.heap.size ≤ k ∧ k < w1.heap.size := fun k hk => ⟨HL1.out.acc.low k hk, HL1.out.acc.own.lt k hk⟩
  have hA2 : ∀ k, sf A2 k → w1.heap.size + 1 ≤ k ∧ k < w2.heap.size := fun k hk => ⟨by have := hlo2 k hk; simpa using this, ho2.lt k hk⟩
  have hz3 : ((w2.alloc (Obj.cells #[Value.slice A2 t.length c2] 67)).alloc (Obj.cells #[Value.int IntKind.i64 255] 3)).heap.size = w2.heap.size + 2 := by simp
  have hb3 : Below w2.heap.size w2 ((w2.alloc (Obj.cells #[Value.slice A2 t.length c2] 67)).alloc (Obj.cells #[Value.int IntKind.i64 255] 3)) := ((Below.refl _ _).alloc (Nat.le_refl _) _).alloc (by simp) _
  have hbk3 : Bk ((w2.alloc (Obj.cells #[Value.slice A2 t.length c2] 67)).alloc (Obj.cells #[Value.int IntKind.i64 255] 3)) w1.heap.size 73 #[.slice A0 ps.length c0] := ((Bk.new w1 73 #[.slice A0 ps.length c0]).below hb2 (by simp)).below hb3 (by omega)
  have hI0 : PJ w w1.heap.size (w2.heap.size + 2) A0 ps A2 t [] ((w2.alloc (Obj.cells #[Value.slice A2 t.length c2] 67)).alloc (Obj.cells #[Value.int IntKind.i64 255] 3)) := by
    have hba : Below w1.heap.size w1 (w1.alloc (Obj.cells #[Value.slice A0 ps.length c0] 73)) := (Below.refl _ _).alloc (Nat.le_refl _) _
    refine ⟨⟨A0, c0, vs0, hbk3, fun k hk => .inl hk, ?_⟩, ?_, Nat.le_of_eq hz3.symm⟩
    · have hw := (HL1.out.wide keeps_seg (C := fun k => w.heap.size ≤ k ∧ k ≠ w1.heap.size) fun k hk hB => ⟨hB, by omega⟩)
      have := ((hw.go keeps_seg hba).go keeps_seg hb2).go keeps_seg hb3
      simpa using this
    · exact ((ho2.bel hb3).rg).mono fun k _ hk => ⟨by have := hA2 k hk; omega, fun e => by have := hA2 k hk; have := hA0 k e; omega, by have := hA2 k hk; omega⟩
  have hcS : ((w2.alloc (Obj.cells #[Value.slice A2 t.length c2] 67)).alloc (Obj.cells #[Value.int IntKind.i64 255] 3)).cell? ⟨w2.heap.size, 0, none⟩ = some (.slice A2 t.length c2) := by
    simp
  have hcN : ((w2.alloc (Obj.cells #[Value.slice A2 t.length c2] 67)).alloc (Obj.cells #[Value.int IntKind.i64 255] 3)).cell? ⟨w2.heap.size + 1, 0, none⟩ = some (.int .i64 255) := by
    simp
  have hb0 : Below w.heap.size w ((w2.alloc (Obj.cells #[Value.slice A2 t.length c2] 67)).alloc (Obj.cells #[Value.int IntKind.i64 255] 3)) := hI0.mem.elim fun _ h => h.elim fun _ h => h.elim fun _ h => h.2.2.acc.bel
  generalize (w2.alloc (Obj.cells #[Value.slice A2 t.length c2] 67)).alloc (Obj.cells #[Value.int IntKind.i64 255] 3) = w3 at *
  have hcap2 := ho2.cap
  have hform := ho2.2
  clear HO2 ho2 hlo2 hb2 hb3 hbk3 HL1
  generalize w1.heap.size = ob at *
  generalize w2.heap.size = Bs at *
  rcases hform with ⟨rfl, ht0, rfl⟩ | ⟨b, off, cur, rfl, _⟩
  · obtain rfl : t = [] := List.length_eq_zero_iff.1 ht0
    have hseq : SeqStopsK Fence.wide 3 Try.prog 169 #[.pointer (some ⟨Bs, 0, none⟩), .pointer (some ⟨Bs + 1, 0, none⟩)] (fun x : Nat => #[Value.slice none 0 0]) (Kp (fun k => k = ob ∨ sf A0 k) (Bs + 2)) (fun ys => ys = []) (fun _ => True) 0 w3 := fun l' J Jx W hW hJ hJx hY h0 =>
      (chunk1_nil 3 l' Bs (Bs + 1) J W ((hW.cell (p := ⟨Bs, 0, none⟩) (show Bs < _ by omega)).trans hcS) h0).mono fun e W' h => ⟨h.1, .inl ⟨[], rfl, h.2⟩⟩
    refine wpIn_rangeFunc_ownF (F := Fence.wide) (n := 4) rfl h1 (gf := 169) (lb := #[.pointer (some ⟨Bs, 0, none⟩), .pointer (some ⟨Bs + 1, 0, none⟩)]) rfl trivial enters_chunk hseq kp_t (kp_b (Nat.le_of_eq hz3.symm)) (Below.refl _ _) (fun _ => rfl)
      (PJ w ob (Bs + 2) A0 ps none []) (fun _ _ _ => False) (PJ.own (by omega)) (fun _ _ _ _ _ hs _ _ => hs) hI0
      (fun x => { tmps := #[.slice A lead.length c, .slice C set.length d, undef, undef, .slice none 0 0, .pointer (some ⟨ob, 0, none⟩), .slice none 0 0, .slice A lead.length c, .slice A0 ps.length c0, .slice C set.length d, .slice none 0 0, .func (.func 169) #[] #[.pointer (some ⟨Bs, 0, none⟩), .pointer (some ⟨Bs + 1, 0, none⟩)], .slice none 0 0, undef, undef, undef, undef, undef, undef, undef], defers := [] }) ?assign ?body ?done ?stop
    case assign =>
      intro l' x W K hK
      gi_wp2
      exact hK
    case body =>
      rintro l' pre x W hPJ hlt
      exact absurd hlt (by omega)
    case done =>
      rintro D ys W hD rfl hPJ hK
      obtain ⟨⟨A1, c1, vs, hbk, hne, hlst⟩, hsr, hbig⟩ := hPJ
      have hcell := hbk.cell 0
      simp at hcell
      have HL := Lib.hid hlst
      have HK := Lib.hid hK
      have HBD : Hid (w.heap.size ≤ D) := Nat.le_trans hb0.size hD
      clear hlst hsr
      gi_wp2
      refine ⟨by simp, .inl ⟨_, _, rfl, run_takeDeferred HK.out, ?_⟩⟩
      have e1 : ps ++ sgs 1 [] = ps := by simp [sgs, ck_nil]
      rw [e1]
      refine ⟨_, results_tmp rfl _ _ _, A1, c1, vs, rfl, ?_⟩
      have hst : Stay W (W.putObj D (.deferred none)) := stay_row (grownBy_putObj' W D _) (fun r e => by cases e; exact ⟨_, HK.out, rfl⟩)
      have hl := HL.out
      rw [List.map_nil, List.append_nil, List.length_nil, Nat.add_zero] at hl
      exact ⟨⟨foot.Own.stay hl.acc.own hst, hl.acc.bel.trans (below_grown (grownBy_putObj' W D _) hl.acc.bel.size (fun g e => by cases e; exact HBD.out)), hl.acc.low⟩, (all_stay hl.all hst).mono keeps_seg (fun k _ h => ⟨h.1.1, h.2⟩), hl.len⟩
    case stop =>
      rintro D c pre W _ _ h _
      exact h.elim
  · have hseq : SeqStopsK Fence.wide 3 Try.prog 169 #[.pointer (some ⟨Bs, 0, none⟩), .pointer (some ⟨Bs + 1, 0, none⟩)] (fun x : Nat => #[Value.slice (some ⟨b, off + x, none⟩) (min 255 (t.length - x)) (min 255 (t.length - x))]) (Kp (fun k => k = ob ∨ sf A0 k) (Bs + 2)) (fun ys => ∃ k, t.length ≤ 255 * k ∧ 255 * k ≤ t.length + 254 ∧ ys = upto k) (fun _ => True) t.length w3 := fun l' J Jx W hW hJ hJx hY h0 =>
      chunk1_in 3 l' Bs (Bs + 1) (fun k => k = ob ∨ sf A0 k) (Bs + 2) b off t.length c2 (by omega) hcap2 (by omega) (by omega) (by omega) (fun e => e.elim (by omega) (fun e => by have := hA0 _ e; omega)) (fun e => e.elim (by omega) (fun e => by have := hA0 _ e; omega)) J Jx hY
        (fun pre W1 h => hJ pre W1 W1.drew none h (grown_drew (World.grownBy.refl W1 none)) (fun r e => by cases e)) W (Nat.le_trans (Nat.le_of_eq hz3.symm) hW.size) ((hW.cell (p := ⟨Bs, 0, none⟩) (show Bs < _ by omega)).trans hcS) ((hW.cell (p := ⟨Bs + 1, 0, none⟩) (show Bs + 1 < _ by omega)).trans hcN) h0
    refine wpIn_rangeFunc_ownF (F := Fence.wide) (n := 4) rfl h1 (gf := 169) (lb := #[.pointer (some ⟨Bs, 0, none⟩), .pointer (some ⟨Bs + 1, 0, none⟩)]) rfl trivial enters_chunk hseq kp_t (kp_b (Nat.le_of_eq hz3.symm)) (Below.refl _ _) (fun _ => rfl)
      (PJ w ob (Bs + 2) A0 ps (some ⟨b, off, none⟩) t) (fun _ _ _ => False) (PJ.own (by omega)) (fun _ _ _ _ _ hs _ _ => hs) hI0
      (fun x => { tmps := #[.slice A lead.length c, .slice C set.length d, undef, undef, .slice none 0 0, .pointer (some ⟨ob, 0, none⟩), .slice (some ⟨b, off + x, none⟩) (min 255 (t.length - x)) (min 255 (t.length - x)), .slice A lead.length c, .slice A0 ps.length c0, .slice C set.length d, .slice (some ⟨b, off, none⟩) t.length c2, .func (.func 169) #[] #[.pointer (some ⟨Bs, 0, none⟩), .pointer (some ⟨Bs + 1, 0, none⟩)], .slice (some ⟨b, off + x, none⟩) (min 255 (t.length - x)) (min 255 (t.length - x)), undef, undef, undef, undef, undef, undef, undef], defers := [] }) ?assign ?body ?done ?stop
    case assign =>
      intro l' x W K hK
      gi_wp2
      exact hK
    case body =>
      rintro l' pre x W hPJ hlt
      obtain ⟨⟨A1, c1, vs, hbk, hne, hlst⟩, hsr, hbig⟩ := hPJ
      obtain ⟨m, hm⟩ : ∃ m, m = ps.length + pre.length := ⟨_, rfl⟩
      rw [← hm] at hbk hlst
      have hcell := hbk.cell 0
      have hfr := hbk.free 0
      simp at hcell
      obtain ⟨y, hy⟩ : ∃ y, y = (t.drop x).take 255 := ⟨_, rfl⟩
      have hyl : y.length = min 255 (t.length - x) := by rw [hy, List.length_take, List.length_drop]
      have hwy : W32 y := by rw [hy]; exact (HWt.out.drop x).take 255
      have hbd : Below W.heap.size W W.drew := (Below.refl _ _).drew
      have hus : Us W.drew (fun k => k ≠ ob ∧ ¬ sf A0 k ∧ k < Bs + 2) (some ⟨b, off + x, none⟩) y := by
        rw [hy]
        exact us_part (Rg.chg (F := fun _ => False) hsr (Chg.of_below hbd _) (fun _ _ _ e => e)) x 255
      have HCl := Lib.hid (Clone_any (some ⟨b, off + x, none⟩) y.length y _ W.drew (by omega) (by intro h; cases h) (Nat.le_refl _) (by unfold maxLen; omega) hus)
      have HNext : Hid (∀ (wc : World) (A2 : Option Addr) (c2 : Nat) (A' : Option Addr) (c' : Nat) (w' : World), foot.Own wc 22 1 A2 y.length c2 (uv y) → (∀ k, sf A2 k → W.drew.heap.size ≤ k) → Below W.drew.heap.size W.drew wc →
          foot.Own w' 122 2 A' (m + 1) c' (vs ++ [.int .i64 1, .slice A2 y.length c2]) → Chg (sf A1) (wc.alloc (.cells #[.int .i64 1, .slice A2 y.length c2] 122)) w' → Fresh (wc.alloc (.cells #[.int .i64 1, .slice A2 y.length c2] 122)) (sf A1) (sf A') →
          KeepsOthers W (w'.setCell ⟨ob, 0, none⟩ (.slice A' (m + 1) c')) ∧ Kp (fun k => k = ob ∨ sf A0 k) (Bs + 2) W (w'.setCell ⟨ob, 0, none⟩ (.slice A' (m + 1) c')) ∧ PJ w ob (Bs + 2) A0 ps (some ⟨b, off, none⟩) t (pre ++ [x]) (w'.setCell ⟨ob, 0, none⟩ (.slice A' (m + 1) c'))) :=
        fun wc A2 c2 A' c' w' h1 h2 h3 h4 h5 h6 => PJ.next hm (by omega) (by omega) hA0 hy hwy hbk hne hlst hsr hbig h1 h2 (hbd.trans h3) h4 h5 h6
      have hno : ¬ sf A1 ob := fun hs => by
        rcases hne _ hs with e | e
        · have := (hA0 _ e).2; omega
        · omega
      have HOw : Hid (∀ (wc : World), Below W.drew.heap.size W.drew wc → ∀ (A2 : Option Addr) (c2 : Nat), foot.Own (wc.alloc (.cells #[.int .i64 1, .slice A2 y.length c2] 122)) 122 2 A1 m c1 vs) :=
        fun wc h A2 c2 => hlst.acc.own.bel ((hbd.trans h).alloc (hbd.trans h).size _)
      have hgW : ob < W.drew.heap.size := by show ob < W.heap.size; omega
      have HFr : Hid (∀ (wc : World), Below W.drew.heap.size W.drew wc → wc.frozen? ⟨ob, 0, none⟩ = false) := fun wc h => (hbk.below (hbd.trans h) hbk.lt).free 0
      have HCell3 : Hid (∀ (wc : World) (A2 : Option Addr) (c2 : Nat) (A' : Option Addr) (c' : Nat) (w' : World), Below W.drew.heap.size W.drew wc → foot.Own w' 122 2 A' (m + 1) c' (vs ++ [.int .i64 1, .slice A2 y.length c2]) → Chg (sf A1) (wc.alloc (.cells #[.int .i64 1, .slice A2 y.length c2] 122)) w' → Fresh (wc.alloc (.cells #[.int .i64 1, .slice A2 y.length c2] 122)) (sf A1) (sf A') →
          w'.cell? ⟨ob, 0, none⟩ = some (.slice A1 m c1) ∧ w'.frozen? ⟨ob, 0, none⟩ = false) := fun wc A2 c2 A' c' w' h _ hch _ => by
        have h1 := (hbk.below ((hbd.trans h).alloc (hbd.trans h).size _) hbk.lt).chg hch hno
        exact ⟨by have := h1.cell 0; simpa using this, h1.free 0⟩
      have hpre : pre.length < t.length := hlt
      have hls := HLs.out
      have HB1 : Hid (m + 1 ≤ maxLen) := by show _ ≤ _; unfold maxLen; omega
      have HB2 : Hid ((m + 1) * 32 ≤ 140737488355328) := by show _ ≤ _; omega
      have Hi := Lib.hid hi
      have Hz0 := Lib.hid hz0
      have Hz1 := Lib.hid hz1
      have Hz2 := Lib.hid hz2
      rw [hyl] at HCl
      clear hi hz0 hz1 hz2 hus hy hyl hwy hbk hne hlst hsr hbig hseq hI0 hcS hcN hw hw2 hlt hpre hls hm hno hA0 hb0
      gi_wp2
      refine wpIn_region_any (by assumption) ?_
      change wpAnyIn _ _ _ _ _ _ _ _ _ (World.drew _)
      refine wpAnyIn_ready (rs := [0, 1]) (by kernel_rfl) (by simp) ?_
      refine AllReadyIn.cons rfl (fun K hK => ?_) ?_
      · skip
        go_simp
        refine hK _ _ ?_
        clear hK K
        refine wpAnyIn_ready (rs := [1]) (by kernel_rfl) (by simp) ?_
        refine AllReadyIn.cons rfl (fun K hK => ?_) AllReadyIn.nil
        go_simp
        refine hK _ _ ?_
        clear hK K
        refine wpAnyIn_ready (rs := [2]) (by kernel_rfl) (by simp) ?_
        refine AllReadyIn.cons rfl (fun K hK => ?_) AllReadyIn.nil
        go_simp
        gi_wp2_with (refine ⟨trivial, ?_⟩; gi_at_call 150; refine (CallsIn.inRound l' (callsIn_wide.2 HCl.out)).mono ?_; rintro e wc ⟨A2, c2, rfl, ho2, hlo2, hb2⟩; have HCn := Lib.hid (And.intro ho2 (And.intro hlo2 hb2)); have hcell2 := (hb2.cell (p := ⟨ob, 0, none⟩) hgW).trans hcell; have hfr2 := HFr.out wc hb2; have hgc : ob < wc.heap.size := Nat.lt_of_lt_of_le hgW hb2.size; clear ho2 hlo2 hb2)
        refine wpAnyIn_ready (rs := [3]) (by kernel_rfl) (by simp) ?_
        refine AllReadyIn.cons rfl (fun K hK => ?_) AllReadyIn.nil
        go_simp
        refine hK _ _ ?_
        clear hK K
        refine wpAnyIn_ready (rs := [4]) (by kernel_rfl) (by simp) ?_
        refine AllReadyIn.cons rfl (fun K hK => ?_) AllReadyIn.nil
        go_simp
        refine hK _ _ ?_
        clear hK K
        refine wpAnyIn_ready (rs := [5]) (by kernel_rfl) (by simp) ?_
        refine AllReadyIn.cons rfl (fun K hK => ?_) AllReadyIn.nil
        refine stepIn_app rfl (.tmp 13) (.tmp 17) 73 rfl 122 i0 _ 2 32 Try.underlying73 Hi.out Hz0.out Hz1.out Hz2.out rfl (by omega) A1 m c1 vs rfl (HOw.out wc HCn.out.2.2 A2 c2) _ (some ⟨wc.heap.size, 0, none⟩) 1 1 (by intro h; cases h) [.int .i64 1, .slice A2 y.length c2] rfl (Rg.new wc 122 2 1 _ rfl) (by simp [Value.oneCell']) HB1.out HB2.out ?_
        intro A' c' w' ho hch hf
        obtain ⟨HE1, HE2, HE3⟩ := HNext.out wc A2 c2 A' c' w' HCn.out.1 HCn.out.2.1 HCn.out.2.2 ho hch hf
        have hcell3 := HCell3.out wc A2 c2 A' c' w' HCn.out.2.2 ho hch hf
        have HE := Lib.hid (And.intro HE1 (And.intro HE2 HE3))
        clear ho hch hf HE1 HE2 HE3
        refine hK _ _ ?_
        clear hK K
        refine wpAnyIn_ready (rs := [6]) (by kernel_rfl) (by simp) ?_
        refine AllReadyIn.cons rfl (fun K hK => ?_) AllReadyIn.nil
        go_simp
        refine hK _ _ ?_
        clear hK K
        refine wpAnyIn_done (by kernel_rfl) ?_ _
        gi_wp2
        exact HE.out
      refine AllReadyIn.cons rfl (fun K hK => ?_) AllReadyIn.nil
      go_simp
      refine hK _ _ ?_
      clear hK K
      refine wpAnyIn_ready (rs := [0, 2]) (by kernel_rfl) (by simp) ?_
      refine AllReadyIn.cons rfl (fun K hK => ?_) ?_
      · skip
        go_simp
        refine hK _ _ ?_
        clear hK K
        refine wpAnyIn_ready (rs := [2]) (by kernel_rfl) (by simp) ?_
        refine AllReadyIn.cons rfl (fun K hK => ?_) AllReadyIn.nil
        go_simp
        gi_wp2_with (refine ⟨trivial, ?_⟩; gi_at_call 150; refine (CallsIn.inRound l' (callsIn_wide.2 HCl.out)).mono ?_; rintro e wc ⟨A2, c2, rfl, ho2, hlo2, hb2⟩; have HCn := Lib.hid (And.intro ho2 (And.intro hlo2 hb2)); have hcell2 := (hb2.cell (p := ⟨ob, 0, none⟩) hgW).trans hcell; have hfr2 := HFr.out wc hb2; have hgc : ob < wc.heap.size := Nat.lt_of_lt_of_le hgW hb2.size; clear ho2 hlo2 hb2)
        refine wpAnyIn_ready (rs := [3]) (by kernel_rfl) (by simp) ?_
        refine AllReadyIn.cons rfl (fun K hK => ?_) AllReadyIn.nil
        go_simp
        refine hK _ _ ?_
        clear hK K
        refine wpAnyIn_ready (rs := [4]) (by kernel_rfl) (by simp) ?_
        refine AllReadyIn.cons rfl (fun K hK => ?_) AllReadyIn.nil
        go_simp
        refine hK _ _ ?_
        clear hK K
        refine wpAnyIn_ready (rs := [5]) (by kernel_rfl) (by simp) ?_
        refine AllReadyIn.cons rfl (fun K hK => ?_) AllReadyIn.nil
        refine stepIn_app rfl (.tmp 13) (.tmp 17) 73 rfl 122 i0 _ 2 32 Try.underlying73 Hi.out Hz0.out Hz1.out Hz2.out rfl (by omega) A1 m c1 vs rfl (HOw.out wc HCn.out.2.2 A2 c2) _ (some ⟨wc.heap.size, 0, none⟩) 1 1 (by intro h; cases h) [.int .i64 1, .slice A2 y.length c2] rfl (Rg.new wc 122 2 1 _ rfl) (by simp [Value.oneCell']) HB1.out HB2.out ?_
        intro A' c' w' ho hch hf
        obtain ⟨HE1, HE2, HE3⟩ := HNext.out wc A2 c2 A' c' w' HCn.out.1 HCn.out.2.1 HCn.out.2.2 ho hch hf
        have hcell3 := HCell3.out wc A2 c2 A' c' w' HCn.out.2.2 ho hch hf
        have HE := Lib.hid (And.intro HE1 (And.intro HE2 HE3))
        clear ho hch hf HE1 HE2 HE3
        refine hK _ _ ?_
        clear hK K
        refine wpAnyIn_ready (rs := [6]) (by kernel_rfl) (by simp) ?_
        refine AllReadyIn.cons rfl (fun K hK => ?_) AllReadyIn.nil
        go_simp
        refine hK _ _ ?_
        clear hK K
        refine wpAnyIn_done (by kernel_rfl) ?_ _
        gi_wp2
        exact HE.out
      refine AllReadyIn.cons rfl (fun K hK => ?_) AllReadyIn.nil
      go_simp
      gi_wp2_with (refine ⟨trivial, ?_⟩; gi_at_call 150; refine (CallsIn.inRound l' (callsIn_wide.2 HCl.out)).mono ?_; rintro e wc ⟨A2, c2, rfl, ho2, hlo2, hb2⟩; have HCn := Lib.hid (And.intro ho2 (And.intro hlo2 hb2)); have hcell2 := (hb2.cell (p := ⟨ob, 0, none⟩) hgW).trans hcell; have hfr2 := HFr.out wc hb2; have hgc : ob < wc.heap.size := Nat.lt_of_lt_of_le hgW hb2.size; clear ho2 hlo2 hb2)
      refine wpAnyIn_ready (rs := [0, 3]) (by kernel_rfl) (by simp) ?_
      refine AllReadyIn.cons rfl (fun K hK => ?_) ?_
      · skip
        go_simp
        refine hK _ _ ?_
        clear hK K
        refine wpAnyIn_ready (rs := [3]) (by kernel_rfl) (by simp) ?_
        refine AllReadyIn.cons rfl (fun K hK => ?_) AllReadyIn.nil
        go_simp
        refine hK _ _ ?_
        clear hK K
        refine wpAnyIn_ready (rs := [4]) (by kernel_rfl) (by simp) ?_
        refine AllReadyIn.cons rfl (fun K hK => ?_) AllReadyIn.nil
        go_simp
        refine hK _ _ ?_
        clear hK K
        refine wpAnyIn_ready (rs := [5]) (by kernel_rfl) (by simp) ?_
        refine AllReadyIn.cons rfl (fun K hK => ?_) AllReadyIn.nil
        refine stepIn_app rfl (.tmp 13) (.tmp 17) 73 rfl 122 i0 _ 2 32 Try.underlying73 Hi.out Hz0.out Hz1.out Hz2.out rfl (by omega) A1 m c1 vs rfl (HOw.out wc HCn.out.2.2 A2 c2) _ (some ⟨wc.heap.size, 0, none⟩) 1 1 (by intro h; cases h) [.int .i64 1, .slice A2 y.length c2] rfl (Rg.new wc 122 2 1 _ rfl) (by simp [Value.oneCell']) HB1.out HB2.out ?_
        intro A' c' w' ho hch hf
        obtain ⟨HE1, HE2, HE3⟩ := HNext.out wc A2 c2 A' c' w' HCn.out.1 HCn.out.2.1 HCn.out.2.2 ho hch hf
        have hcell3 := HCell3.out wc A2 c2 A' c' w' HCn.out.2.2 ho hch hf
        have HE := Lib.hid (And.intro HE1 (And.intro HE2 HE3))
        clear ho hch hf HE1 HE2 HE3
        refine hK _ _ ?_
        clear hK K
        refine wpAnyIn_ready (rs := [6]) (by kernel_rfl) (by simp) ?_
        refine AllReadyIn.cons rfl (fun K hK => ?_) AllReadyIn.nil
        go_simp
        refine hK _ _ ?_
        clear hK K
        refine wpAnyIn_done (by kernel_rfl) ?_ _
        gi_wp2
        exact HE.out
      refine AllReadyIn.cons rfl (fun K hK => ?_) AllReadyIn.nil
      go_simp
      refine hK _ _ ?_
      clear hK K
      refine wpAnyIn_ready (rs := [0, 4]) (by kernel_rfl) (by simp) ?_
      refine AllReadyIn.cons rfl (fun K hK => ?_) ?_
      · skip
        go_simp
        refine hK _ _ ?_
        clear hK K
        refine wpAnyIn_ready (rs := [4]) (by kernel_rfl) (by simp) ?_
        refine AllReadyIn.cons rfl (fun K hK => ?_) AllReadyIn.nil
        go_simp
        refine hK _ _ ?_
        clear hK K
        refine wpAnyIn_ready (rs := [5]) (by kernel_rfl) (by simp) ?_
        refine AllReadyIn.cons rfl (fun K hK => ?_) AllReadyIn.nil
        refine stepIn_app rfl (.tmp 13) (.tmp 17) 73 rfl 122 i0 _ 2 32 Try.underlying73 Hi.out Hz0.out Hz1.out Hz2.out rfl (by omega) A1 m c1 vs rfl (HOw.out wc HCn.out.2.2 A2 c2) _ (some ⟨wc.heap.size, 0, none⟩) 1 1 (by intro h; cases h) [.int .i64 1, .slice A2 y.length c2] rfl (Rg.new wc 122 2 1 _ rfl) (by simp [Value.oneCell']) HB1.out HB2.out ?_
        intro A' c' w' ho hch hf
        obtain ⟨HE1, HE2, HE3⟩ := HNext.out wc A2 c2 A' c' w' HCn.out.1 HCn.out.2.1 HCn.out.2.2 ho hch hf
        have hcell3 := HCell3.out wc A2 c2 A' c' w' HCn.out.2.2 ho hch hf
        have HE := Lib.hid (And.intro HE1 (And.intro HE2 HE3))
        clear ho hch hf HE1 HE2 HE3
        refine hK _ _ ?_
        clear hK K
        refine wpAnyIn_ready (rs := [6]) (by kernel_rfl) (by simp) ?_
        refine AllReadyIn.cons rfl (fun K hK => ?_) AllReadyIn.nil
        go_simp
        refine hK _ _ ?_
        clear hK K
        refine wpAnyIn_done (by kernel_rfl) ?_ _
        gi_wp2
        exact HE.out
      refine AllReadyIn.cons rfl (fun K hK => ?_) AllReadyIn.nil
      go_simp
      refine hK _ _ ?_
      clear hK K
      refine wpAnyIn_ready (rs := [0]) (by kernel_rfl) (by simp) ?_
      refine AllReadyIn.cons rfl (fun K hK => ?_) AllReadyIn.nil
      go_simp
      refine hK _ _ ?_
      clear hK K
      refine wpAnyIn_ready (rs := [5]) (by kernel_rfl) (by simp) ?_
      refine AllReadyIn.cons rfl (fun K hK => ?_) AllReadyIn.nil
      refine stepIn_app rfl (.tmp 13) (.tmp 17) 73 rfl 122 i0 _ 2 32 Try.underlying73 Hi.out Hz0.out Hz1.out Hz2.out rfl (by omega) A1 m c1 vs rfl (HOw.out wc HCn.out.2.2 A2 c2) _ (some ⟨wc.heap.size, 0, none⟩) 1 1 (by intro h; cases h) [.int .i64 1, .slice A2 y.length c2] rfl (Rg.new wc 122 2 1 _ rfl) (by simp [Value.oneCell']) HB1.out HB2.out ?_
      intro A' c' w' ho hch hf
      obtain ⟨HE1, HE2, HE3⟩ := HNext.out wc A2 c2 A' c' w' HCn.out.1 HCn.out.2.1 HCn.out.2.2 ho hch hf
      have hcell3 := HCell3.out wc A2 c2 A' c' w' HCn.out.2.2 ho hch hf
      have HE := Lib.hid (And.intro HE1 (And.intro HE2 HE3))
      clear ho hch hf HE1 HE2 HE3
      refine hK _ _ ?_
      clear hK K
      refine wpAnyIn_ready (rs := [6]) (by kernel_rfl) (by simp) ?_
      refine AllReadyIn.cons rfl (fun K hK => ?_) AllReadyIn.nil
      go_simp
      refine hK _ _ ?_
      clear hK K
      refine wpAnyIn_done (by kernel_rfl) ?_ _
      gi_wp2
      exact HE.out
    case done =>
      rintro D ys W hD ⟨k, hk1, hk2, rfl⟩ hPJ hK
      obtain ⟨⟨A1, c1, vs, hbk, hne, hlst⟩, hsr, hbig⟩ := hPJ
      have hcell := hbk.cell 0
      simp at hcell
      rw [upto_sgsK 1 t k hk1 hk2] at hlst
      have hlen : ps.length + (upto k).length = (ps ++ sgs 1 t).length := by rw [List.length_append, ← upto_sgsK 1 t k hk1 hk2, List.length_map]
      rw [hlen] at hlst hcell
      have HL := Lib.hid hlst
      have HK := Lib.hid hK
      have HBD : Hid (w.heap.size ≤ D) := Nat.le_trans hb0.size hD
      clear hlst hsr
      obtain ⟨nz, hnz⟩ : ∃ nz, nz = (ps ++ sgs 1 t).length := ⟨_, rfl⟩
      have HNz := Lib.hid hnz
      rw [← hnz] at hcell
      clear hnz
      gi_wp2
      refine ⟨by simp, .inl ⟨_, _, rfl, run_takeDeferred HK.out, ?_⟩⟩
      refine ⟨_, results_tmp rfl _ _ _, A1, c1, vs, by rw [← HNz.out]; rfl, ?_⟩
      have hst : Stay W (W.putObj D (.deferred none)) := stay_row (grownBy_putObj' W D _) (fun r e => by cases e; exact ⟨_, HK.out, rfl⟩)
      have hl := HL.out
      exact ⟨⟨foot.Own.stay hl.acc.own hst, hl.acc.bel.trans (below_grown (grownBy_putObj' W D _) hl.acc.bel.size (fun g e => by cases e; exact HBD.out)), hl.acc.low⟩, (all_stay hl.all hst).mono keeps_seg (fun k _ h => ⟨h.1.1, h.2⟩), hl.len⟩
    case stop =>
      rintro D c pre W _ _ h _
      exact h.elim
end Go.Proofs.Ytafepficapdepaa.pth
