/- Updates in a row; what pack.Gone returns. Condition: at most 10000 prefixes. -/
import Derived.Test.YtbljhjfaimnieaaGreatNlriSort
import Derived.Test.YtbljhjfaimnieaaGreatPack
import Derived.Test.YtbljhjfaimnieaaGreatUpdFns
import Derived.Test.YtbljhjfaimnieaaGreatPkGps
namespace Go.Proofs.YtbljhjfaimnieaaGreat.pck
open Go.RowKit Go.Proofs.YtbljhjfaimnieaaGreat.kit Go.Proofs.YtbljhjfaimnieaaGreat.mem Go.Proofs.YtbljhjfaimnieaaGreat.foot Go.Proofs.YtbljhjfaimnieaaGreat.nums Go.Proofs.YtbljhjfaimnieaaGreat.asn Go.Proofs.YtbljhjfaimnieaaGreat.pth Go.Proofs.YtbljhjfaimnieaaGreat.octet Go.Proofs.YtbljhjfaimnieaaGreat.attr Go.Proofs.YtbljhjfaimnieaaGreat.upd Go.Proofs.YtbljhjfaimnieaaGreat.mv Go.Proofs.YtbljhjfaimnieaaGreat.srt
set_option linter.unusedVariables false
set_option linter.unusedSimpArgs false
/-- an Update as its cells -/
def rUm : Rel Upd := fun w G cs u => ∃ A1 c1 Ap cp Ac cc A2 c2, cs = upc A1 u.gone.length c1 (atc u.a Ap cp Ac cc) A2 u.here.length c2 ∧ Um w G u A1 c1 Ap cp Ac cc A2 c2
theorem upc_one {A1 : Option Addr} {n1 c1 : Nat} {a : Atr} {Ap : Option Addr} {cp : Nat} {Ac : Option Addr} {cc : Nat} {A2 : Option Addr} {n2 c2 : Nat} : ∀ v ∈ upc A1 n1 c1 (atc a Ap cp Ac cc) A2 n2 c2, v.oneCell' = true := fun v hv => by
  unfold upc at hv
  rcases List.mem_append.1 hv with h | h
  · rcases List.mem_append.1 h with h | h
    · simp at h; rw [h]; rfl
    · exact atc_one v h
  · simp at h; rw [h]; rfl
theorem keeps_um : Keeps 11 rUm := by
  refine ⟨fun h => ?_, fun h v hv => ?_, fun h hc hd => ?_, fun h hG => ?_⟩
  all_goals obtain ⟨A1, c1, Ap, cp, Ac, cc, A2, c2, rfl, hm⟩ := h
  · rfl
  · exact upc_one v hv
  · exact ⟨A1, c1, Ap, cp, Ac, cc, A2, c2, rfl, hm.chg hc hd⟩
  · exact ⟨A1, c1, Ap, cp, Ac, cc, A2, c2, rfl, hm.mono hG⟩
theorem info_um : (Tryz.prog.info? 49).map (fun i => (i.zero, i.size, i.bytes)) = some (some (.agg zeroUC.toArray), 11, 136) := by kernel_rfl
/-- good prefixes are packed, all of them -/
theorem okP_gd {room : Nat} (h5 : 5 ≤ room) {p : Pf} (h : gdP p = true) : nlri.okP (room : Int) p = true := by
  unfold gdP at h
  simp only [Bool.and_eq_true, decide_eq_true_iff] at h
  have h2 := (pfx.goodB_iff p.1 p.2).1 h.2
  have h3 := nlri.bodyN_le p.2.toNat (by omega)
  rw [nlri.okP_iff]
  unfold nlri.sizeP
  rw [if_pos h.2]
  omega
theorem filter_gd {room : Nat} (h5 : 5 ≤ room) {l s : List Pf} (h : IsSort gdP l s) : s.filter (nlri.okP (room : Int)) = s := List.filter_eq_self.2 fun p hp => okP_gd h5 ((h.mem p).1 hp).2
theorem strict_len : ∀ (s l : List Pf), s.Pairwise plt → (∀ x ∈ s, x ∈ l) → s.length ≤ l.length
  | [], l, _, _ => Nat.zero_le _
  | x :: s, l, h, hm => by
    obtain ⟨h1, h2⟩ := List.pairwise_cons.1 h
    have hx := hm x (by simp)
    have := strict_len s (l.erase x) h2 fun y hy => (List.mem_erase_of_ne (fun e => plt_irrefl x (by have := h1 y hy; rwa [e] at this))).2 (hm y (by simp [hy]))
    rw [List.length_erase_of_mem hx] at this
    have := List.length_pos_of_mem hx
    simp only [List.length_cons]
    omega
theorem issort_len {l s : List Pf} (h : IsSort gdP l s) : s.length ≤ l.length := strict_len s l h.strict fun x hx => ((h.mem x).1 hx).1
def goneU (g : List Pf) : Upd := ⟨g, zeroA, []⟩
set_option maxRecDepth 100000 in
set_option maxHeartbeats 8000000 in
theorem Gone_any {G : Foot} (A : Option Addr) (n c : Nat) (l : List Pf) (w : World) (hn : n ≤ 10000) (hA : A = none → c = 0) (hl : l.length = n) (hw : ∀ x ∈ l, x.1 < 4294967296) (h : Rg w G 2 A n (fv l)) :
    Calls Tryz.prog 17 #[.slice A n c] w fun e w' => ∃ s, IsSort gdP l s ∧ RetL 11 rUm 49 ((nlri.packK 4073 s).map goneU) w e w' := by
  obtain ⟨i0, hi, hz0, hz1, hz2⟩ := info_parts info_um
  have Hi := Lib.hid hi
  have Hz0 := Lib.hid hz0
  have Hz1 := Lib.hid hz1
  have Hz2 := Lib.hid hz2
  have HSo := Lib.hid (srt.Sort_any A n c l w (by omega) hA hl hw h)
  have HSl : Hid (∀ s, IsSort gdP l s → s.length ≤ 10000 ∧ ∀ x ∈ s, x.1 < 4294967296) := fun s hs => ⟨by rw [← hl] at hn; exact Nat.le_trans (issort_len hs) hn, fun x hx => hw x ((hs.mem x).1 hx).1⟩
  obtain ⟨Q, hQ⟩ : ∃ Q : Ending → World → Prop, Q = fun e w' => ∃ s, IsSort gdP l s ∧ RetL 11 rUm 49 ((nlri.packK 4073 s).map goneU) w e w' := ⟨_, rfl⟩
  have HQ : Hid (∀ (s : List Pf) (A : Option Addr) (m c : Nat) (vs : List Value) (w' : World), IsSort gdP l s → Lst 11 rUm 49 (fun j => w.heap.size ≤ j) w w' A m c vs ((nlri.packK 4073 s).map goneU) → Q (.returned (.slice A m c)) w') := fun s A m c vs w' hs h => by
    rw [hQ]
    have e := h.len
    subst e
    exact ⟨s, hs, A, c, vs, rfl, h⟩
  show Calls _ _ _ _ _
  rw [← hQ]
  clear hQ h hw hA hl hi hz0 hz1 hz2
  go_enter Tryz.func17, Tryz.ntmps17
  go_wp2_with (first
    | (go_at_call 36; refine HSo.out.mono ?_; rintro e w1 ⟨A1, c1, s, rfl, hs, ho, hlo, hb⟩; have HIs := Lib.hid hs; have HB1 := Lib.hid hb; have hsl := HSl.out s hs; have HPk : Hid (Calls Tryz.prog 35 #[.slice A1 s.length c1, .int .i64 4073] w1 (nlri.RetG (nlri.packK 4073 s) w1)) := by { have h := nlri.Pack_any A1 c1 s 4073 w1 hsl.1 (by omega) (by omega) ho.nil hsl.2 ho.rg; rwa [show s.filter (nlri.okP 4073) = s from filter_gd (room := 4073) (by omega) hs] at h }; have hpl : (nlri.packK 4073 s).length ≤ 10000 := Nat.le_trans (nlri.packF_len _ _ _) hsl.1; clear ho hlo hb hs hsl)
    | (go_at_call 35; refine HPk.out.mono ?_; rintro e w2 ⟨A2, c2, vs2, rfl, hg⟩; have HG2 := Lib.hid hg; have HB2 := Lib.hid (HB1.out.trans (hg.acc.bel.mono HB1.out.size)); clear hg))
  obtain ⟨gs, hgs⟩ : ∃ gs, gs = nlri.packK 4073 s := ⟨_, rfl⟩
  have HGs := Lib.hid hgs
  rw [← hgs] at HG2 hpl ⊢
  clear hgs HPk
  go_loopw [3, 10] (fun v3 v10 wr => ∃ (k c : Nat) (A3 : Option Addr) (vs : List Value), k ≤ gs.length ∧ v10 = .int .i64 k ∧ v3 = .slice A3 k c ∧ Below w2.heap.size w2 wr ∧ Lst 11 rUm 49 (fun j => w.heap.size ≤ j) w wr A3 k c vs ((gs.take k).map goneU) ∧ ∀ j, sf A3 j → w2.heap.size ≤ j) (fun _ v10 _ => gs.length - (intOf v10).toNat)
  case atStart => exact ⟨0, 0, none, [], Nat.zero_le _, rfl, rfl, Below.refl _ _, (Lst.nil w2).elder HB2.out, fun j hj => absurd hj (sf_none j)⟩
  case round =>
    obtain ⟨k, c3, A3, vs, hk, rfl, rfl, hb, hL, hlo⟩ := hrel
    have HL := Lib.hid hL
    have HB := Lib.hid hb
    have HLo := Lib.hid hlo
    clear hL hb hlo
    by_cases hlt : k < gs.length
    · have hki : (k : Int) < (gs.length : Int) := by omega
      have HTk : Hid ((gs.take (k + 1)).map goneU = (gs.take k).map goneU ++ [goneU gs[k]]) := by rw [Hid, List.take_succ_eq_append_getElem hlt, List.map_append]; rfl
      obtain ⟨B, d, hv, hBn, hBc, hBr⟩ := HG2.out.row k gs[k] (List.getElem?_eq_getElem hlt)
      obtain ⟨gb, off, rfl⟩ := HG2.out.acc.own.form (by omega)
      obtain ⟨q1, _, q3⟩ := HG2.out.acc.own.at_ k hv
      have x0 := (HB.out.cell (p := ⟨gb, off + k, none⟩) q3).trans q1
      generalize gs[k] = g at *
      have HA3 : Hid (∀ j, sf A3 j → j < wr.heap.size) := HL.out.acc.own.lt
      have HPw : Hid (Pw w2 (fun j => w.heap.size ≤ j ∧ j < w2.heap.size) B d g) := ⟨hBn, hBc.1, hBc.2, (hBr.mono (H := fun j => w.heap.size ≤ j ∧ j < w2.heap.size) fun j hj hG => ⟨Nat.le_trans HB1.out.size hG.1, hj⟩)⟩
      clear hv hBn hBc hBr q1 q3
      have HU0 : Hid (Um wr (fun j => w.heap.size ≤ j ∧ ¬ sf A3 j) (goneU g) B d none 0 none 0 none 0) := ⟨(HPw.out.bel HB.out).mono fun j _ hj => ⟨hj.1, fun hs => by have := HLo.out j hs; omega⟩, Am.zero _ _, Pw.nil_ _ _⟩
      go_wp2_with (first
        | (refine wpList_lit rfl 40 49 1 _ rfl i0 _ 11 Tryz.underlying40 Hi.out Hz0.out Hz1.out (by omega) [.agg (upc B g.length d zeroC none 0 0).toArray] rfl (by omega) (by omega) (by rfl) (by intro v hv; simp at hv; rw [hv]; rfl) (upc B g.length d zeroC none 0 0) (by rfl) ?_; have HA4 : Hid (Below wr.heap.size wr (wr.alloc (.cells (upc B g.length d zeroC none 0 0).toArray 49))) := (Below.refl _ _).alloc (Nat.le_refl _) _; have HL4 := Lib.hid (HL.out.go keeps_um HA4.out); have HU4 := Lib.hid (HU0.out.bel HA4.out); have HN4 : Hid (Rg (wr.alloc (.cells (upc B g.length d zeroC none 0 0).toArray 49)) (fun k => k = wr.heap.size) 11 (some ⟨wr.heap.size, 0, none⟩) 1 (upc B g.length d zeroC none 0 0)) := Rg.new wr 49 11 1 (upc B g.length d zeroC none 0 0).toArray rfl)
        | (at_builtin; refine wpList_app _ rfl (.tmp 14) (.tmp 17) _ rfl 49 i0 _ 11 136 Tryz.underlying40 Hi.out Hz0.out Hz1.out Hz2.out rfl (by omega) A3 k c3 vs rfl HL4.out.acc.own _ (some ⟨wr.heap.size, 0, none⟩) 1 1 (by intro h; cases h) (upc B g.length d zeroC none 0 0) rfl HN4.out (upc_one (a := zeroA) (Ap := none) (cp := 0) (Ac := none) (cc := 0)) (by unfold maxLen; omega) (by omega) ?_; intro A8 c8 w8 ho hc hf; have HL8 : Hid (Lst 11 rUm 49 (fun j => w.heap.size ≤ j) w w8 A8 (k + 1) c8 (vs ++ upc B g.length d zeroC none 0 0) ((gs.take k).map goneU ++ [goneU g])) := Lst.app keeps_um HL4.out (rAll.single ⟨B, d, none, 0, none, 0, none, 0, rfl, HU4.out⟩) rfl ho hc hf; have HB8 : Hid (Below w2.heap.size w2 w8) := (HB.out.trans (HA4.out.mono HB.out.size)).trans (hc.below (fun j hj => HLo.out j hj) (HB.out.trans (HA4.out.mono HB.out.size)).size); have HLo8 : Hid (∀ j, sf A8 j → w2.heap.size ≤ j) := fun j hj => by { rcases hf j hj with q | q; exact HLo.out j q; have := (HB.out.trans (HA4.out.mono HB.out.size)).size; omega }; clear ho hc hf))
      go_roundw
      case rel => exact ⟨k + 1, c8, A8, _, by omega, by go_num, rfl, HB8.out, by rw [HTk.out]; exact HL8.out, HLo8.out⟩
      case measure => simp [intOf]; omega
    · obtain rfl : k = gs.length := by omega
      have hL := HL.out
      rw [List.take_length, HGs.out] at hL
      have HP := Lib.hid (HQ.out s _ _ _ _ _ HIs.out hL)
      clear hL
      go_wp2_with fail
      rw [HGs.out]
      exact HP.out
end Go.Proofs.YtbljhjfaimnieaaGreat.pck
