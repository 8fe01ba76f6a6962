/- What pack.groups and Groups return. Condition: at most 10000 of what is told, and at most 100000 numbers and pieces in each. -/
import Derived.Test.YtbljhjfaimnieaaGreatPkGps
namespace Go.Proofs.YtbljhjfaimnieaaGreat.pck
open Go.RowKit Go.Proofs.YtbljhjfaimnieaaGreat.kit Go.Proofs.YtbljhjfaimnieaaGreat.mem Go.Proofs.YtbljhjfaimnieaaGreat.foot Go.Proofs.YtbljhjfaimnieaaGreat.nums Go.Proofs.YtbljhjfaimnieaaGreat.asn Go.Proofs.YtbljhjfaimnieaaGreat.pth Go.Proofs.YtbljhjfaimnieaaGreat.octet Go.Proofs.YtbljhjfaimnieaaGreat.attr Go.Proofs.YtbljhjfaimnieaaGreat.mv
set_option linter.unusedVariables false
set_option linter.unusedSimpArgs false
def Sm (x : To) : Prop := nsz x.2.path ≤ 100000 ∧ x.2.comms.length ≤ 100000
abbrev ky (x : To) : Atr := x.2
set_option maxRecDepth 100000 in
set_option maxHeartbeats 4000000 in
/-- the closure: whether a group is of the attributes of what lies at g -/
theorem grp1_any (b off m d g : Nat) (y x : To) (Yp Yc Xp Xc : Option Addr) (yp yc xp xc : Nat) (G H : Foot) (w : World) (z : Bool) (hz : z = true ↔ ky y = ky x) (hm : 0 < m) (hb : b < w.heap.size) (hg : g < w.heap.size)
    (hy : w.rangeAt b (off + 2) (atc y.2 Yp yp Yc yc)) (hx : w.rangeAt g 2 (atc x.2 Xp xp Xc xc)) (ay : Am w G y.2 Yp yp Yc yc) (ax : Am w H x.2 Xp xp Xc xc) (sy : Sm y) (sx : Sm x) :
    Calls Tryz.prog 48 #[.slice (some ⟨b, off, none⟩) m d, .pointer (some ⟨g, 0, none⟩)] w fun e w' => e = .returned (.bool z) ∧ Below w.heap.size w w' := by
  have HSz : Hid ((Tryz.prog.info? 26).map (·.size) = some 9) := info_atr
  have HS := Lib.hid (fun w' (h : Below w.heap.size w w') => SameP_any y.2 x.2 Yp Yc Xp Xc yp yc xp xc G H w' z hz (ay.bel h) (ax.bel h) (by have := sy.1; omega) (by have := sx.1; omega) (by have := sy.2; omega) (by have := sx.2; omega))
  have hmi : (0 : Int) < (m : Int) := by omega
  have HU : Hid (∀ w', Below w.heap.size w w' → w'.rangeAt b (off + 2) (atc y.2 Yp yp Yc yc) ∧ w'.rangeAt g 2 (atc x.2 Xp xp Xc xc)) := fun w' h => ⟨range_bel hy h hb, range_bel hx h hg⟩
  clear hz hy hx ay ax sy sx hb hg
  have HX1 : Hid (Below w.heap.size w w.drew) := (Below.refl _ _).drew
  go_enter Tryz.func48, Tryz.ntmps48
  go_wp2_with fail
  refine region_mv (S := fun w' => w'.rangeAt b (off + 2) (atc y.2 Yp yp Yc yc) ∧ w'.rangeAt g 2 (atc x.2 Xp xp Xc xc)) (A := List.range 8) (sq := [.p 0, .p 1, .p 2, .p 3, .p 4, .p 5, .c 6, .p 7]) (by kernel_rfl) (by kernel_rfl) ?_ (fun hHeld => ?_)
  · exact HU.out _ HX1.out
  repeat ((with_reducible refine mv_at ?_); (first
    | (refine ⟨_, .agg (atc y.2 Yp yp Yc yc).toArray, rfl, yieldsIf_load_mid (by rfl) 26 (.tmp 6) rfl b (off + 2) (by rfl) (atc y.2 Yp yp Yc yc) _ (fun w h => h.1) Tryz.underlying26 (by rfl) HSz.out, ?_⟩)
    | (refine ⟨_, .agg (atc x.2 Xp xp Xc xc).toArray, rfl, yieldsIf_load_mid (by rfl) 26 (.tmp 8) rfl g (2) (by rfl) (atc x.2 Xp xp Xc xc) _ (fun w h => h.2) Tryz.underlying26 (by rfl) HSz.out, ?_⟩)
    | (refine ⟨_, ?_, rfl, Or.inl ⟨by rfl, ?_⟩, ?_⟩; rotate_left; · (intro w hSw; (try dsimp only at hSw); go_simp <;> with_reducible rfl))
    | (refine ⟨_, undef, rfl, Or.inr ⟨by rfl, rfl⟩, ?_⟩)); try simp only [Act.put, List.getElem_toArray, List.getElem_cons_succ, List.getElem_cons_zero, List.setIfInBounds_toArray, List.set_cons_zero, List.set_cons_succ])
  refine mv_c (o := _) rfl (fun K hK => ?_)
  go_simp
  go_at_call 49
  refine (HS.out _ HX1.out).mono ?_
  rintro e w2 ⟨rfl, h⟩
  have HX2 := Lib.hid (HX1.out.trans (h.mono HX1.out.size))
  clear h
  refine hK.out _ _ ?_ (fun hHeld => ?_)
  · exact HU.out _ HX2.out
  clear hK K
  try simp only [Act.put, List.getElem_toArray, List.getElem_cons_succ, List.getElem_cons_zero, List.setIfInBounds_toArray, List.set_cons_zero, List.set_cons_succ]
  repeat ((with_reducible refine mv_at ?_); (first
    | (refine ⟨_, ?_, rfl, Or.inl ⟨by rfl, ?_⟩, ?_⟩; rotate_left; · (intro w hSw; (try dsimp only at hSw); go_simp <;> with_reducible rfl))
    | (refine ⟨_, undef, rfl, Or.inr ⟨by rfl, rfl⟩, ?_⟩)); try simp only [Act.put, List.getElem_toArray, List.getElem_cons_succ, List.getElem_cons_zero, List.setIfInBounds_toArray, List.set_cons_zero, List.set_cons_succ])
  refine mv_end ?_
  go_wp2_with fail
  go_ret
  exact ⟨rfl, HX2.out⟩
theorem _root_.Go.Proofs.YtbljhjfaimnieaaGreat.mem.Bk.all0 {w : World} {g : Nat} {t : TypeId} {cs : List Value} (h : Bk w g t cs.toArray) : w.rangeAt g 0 cs := fun j v hv => by
  rw [h.cell, List.getElem?_toArray, Nat.zero_add]
  exact hv
/-- which group is the first of x's attributes -/
def AtI (gs : List (List To)) (x : To) (r : Int) : Prop := (r = -1 ∧ ∀ g ∈ gs, hk ky g ≠ some (ky x)) ∨ ∃ i : Nat, ∃ hi : i < gs.length, r = (i : Int) ∧ hk ky gs[i] = some (ky x) ∧ ∀ j (hj : j < gs.length), j < i → hk ky gs[j] ≠ some (ky x)
set_option maxRecDepth 100000 in
set_option maxHeartbeats 4000000 in
theorem index_any (A : Option Addr) (n c g : Nat) (vs : List Value) (gs : List (List To)) (x : To) (Xp Xc : Option Addr) (xp xc : Nat) (H : Foot) (w1 w : World) (h : Gps w1 w A n c vs gs) (hn : n ≤ 10000) (hne : ∀ q ∈ gs, q ≠ []) (hsm : ∀ q ∈ gs, ∀ y ∈ q, Sm y)
    (hg : g < w.heap.size) (hx : w.rangeAt g 2 (atc x.2 Xp xp Xc xc)) (ax : Am w H x.2 Xp xp Xc xc) (sx : Sm x) :
    Calls Tryz.prog 47 #[.slice A n c, .func (.func 48) #[] #[.pointer (some ⟨g, 0, none⟩)]] w fun e w' => ∃ r, e = .returned (.int .i64 r) ∧ AtI gs x r ∧ Below w.heap.size w w' := by
  have HE := Lib.hid h.els
  have HLn := h.len
  have HG : Hid (∀ (k : Nat) (hkl : k < gs.length) (w' : World), Below w.heap.size w w' → ∃ b off cs, A = some ⟨b, off, none⟩ ∧ w'.cell? ⟨b, off + k, none⟩ = some cs ∧ ∃ B m d, cs = .slice B m d ∧ ∀ z : Bool, (z = true ↔ hk ky gs[k] = some (ky x)) → Calls Tryz.prog 48 #[.slice B m d, .pointer (some ⟨g, 0, none⟩)] w' fun e w2 => e = .returned (.bool z) ∧ Below w'.heap.size w' w2) := fun k hkl w' hb => by
    have hR : Keeps 1 (rSl 11 rTo) := keeps_sl keeps_to
    obtain ⟨b, off, cs, e1, _, hlt, hr, hc⟩ := (HE.out.bel hR hb).at_ hR hkl
    obtain ⟨B, d, e2, _, _, _, he⟩ := hr
    subst e2
    refine ⟨b, off, .slice B gs[k].length d, e1, by have := hc 0 _ rfl; simpa using this, B, gs[k].length, d, rfl, fun z hz => ?_⟩
    have hmem := List.getElem_mem hkl
    have hpos : 0 < gs[k].length := List.length_pos_iff.2 (hne _ hmem)
    obtain ⟨b2, off2, cs2, e3, hl2, hr2, hc2⟩ := els_range keeps_to he hpos
    have hs2 := hsm _ hmem _ (List.getElem_mem hpos)
    have hz2 : z = true ↔ ky gs[k][0] = ky x := by
      rw [hz]
      have : hk ky gs[k] = some (ky gs[k][0]) := by
        unfold hk
        rw [List.head?_eq_getElem?, List.getElem?_eq_getElem hpos]
        rfl
      rw [this, Option.some.injEq]
    generalize gs[k][0] = y at *
    obtain ⟨Yp, yp, Yc, yc, rfl, ay, _⟩ := hr2
    subst e3
    have hy : w'.rangeAt b2 (off2 + 2) (atc y.2 Yp yp Yc yc) := fun j v hv => by
      have := hc2 (2 + j) v (by unfold toc; rw [List.getElem?_append_right (by simp)]; simpa using hv)
      rw [← this]
      congr 2
      omega
    exact grp1_any b2 off2 gs[k].length d g y x Yp Yc Xp Xc yp yc xp xc _ H w' z hz2 hpos hl2 (Nat.lt_of_lt_of_le hg hb.size) hy (range_bel hx hb hg) ay (ax.bel hb) hs2 sx
  clear h hne hsm hg hx ax sx HE
  subst HLn
  go_enter Tryz.func47, Tryz.ntmps47
  go_wp2_with fail
  go_loopw [8] (fun v8 wr => ∃ k : Nat, k ≤ gs.length ∧ v8 = .int .i64 k ∧ (∀ j (hj : j < gs.length), j < k → hk ky gs[j] ≠ some (ky x)) ∧ Below w.heap.size w wr) (fun v8 _ => gs.length - (intOf v8).toNat)
  case atStart => exact ⟨0, Nat.zero_le _, rfl, fun j hj h => by omega, Below.refl _ _⟩
  case round =>
    obtain ⟨k, hk0, rfl, hp, hb⟩ := hrel
    have HP := Lib.hid hp
    have HB := Lib.hid hb
    clear hp hb
    by_cases hlt : k < gs.length
    · have hlt' : (k : Int) < (gs.length : Int) := by omega
      obtain ⟨b, off, cs, rfl, c0, B, m, d, rfl, hcall⟩ := HG.out k hlt wr HB.out
      obtain ⟨z, hz⟩ := bool_of (hk ky gs[k] = some (ky x))
      have HC := Lib.hid (hcall z hz)
      clear hcall
      rcases z with _ | _
      · have hno : hk ky gs[k] ≠ some (ky x) := by simpa using hz
        have HP2 : Hid (∀ j (hj : j < gs.length), j < k + 1 → hk ky gs[j] ≠ some (ky x)) := fun j hj h => by
          rcases Nat.lt_or_ge j k with h1 | h1
          · exact HP.out j hj h1
          · obtain rfl : j = k := by omega
            exact hno
        clear hz hno
        go_wp2_with (go_at_call 48; refine HC.out.mono ?_; rintro e w2 ⟨rfl, h⟩; have HB2 := Lib.hid (HB.out.trans (h.mono HB.out.size)); clear h)
        go_roundw
        case rel => exact ⟨k + 1, by omega, by go_num, HP2.out, HB2.out⟩
        case measure => simp [intOf]; omega
      · have HY : Hid (hk ky gs[k] = some (ky x)) := hz.1 rfl
        clear hz
        go_wp2_with (go_at_call 48; refine HC.out.mono ?_; rintro e w2 ⟨rfl, h⟩; have HB2 := Lib.hid (HB.out.trans (h.mono HB.out.size)); clear h)
        go_ret
        exact ⟨k, rfl, .inr ⟨k, hlt, rfl, HY.out, HP.out⟩, HB2.out⟩
    · obtain rfl : k = gs.length := by omega
      go_wp2_with fail
      go_ret
      refine ⟨-1, rfl, .inl ⟨rfl, fun q hq => ?_⟩, HB.out⟩
      obtain ⟨j, hj, rfl⟩ := List.mem_iff_getElem.1 hq
      exact HP.out j hj hj
theorem info_ts : (Tryz.prog.info? 27).map (fun i => (i.zero, i.size, i.bytes)) = some (some (.slice none 0 0), 1, 24) := by kernel_rfl
/-- groups handed back -/
def RetGs (gs : List (List To)) (w : World) (e : Ending) (w' : World) : Prop := ∃ A c, e = .returned (.slice A gs.length c) ∧ (A = none → c = 0) ∧ gs.length ≤ c ∧ c ≤ maxLen ∧ Els 1 (rSl 11 rTo) w' (fun _ => True) A gs ∧ Below w.heap.size w w'
theorem groups_take {l : List To} {k : Nat} (h : k < l.length) : groupsL ky (l.take (k + 1)) = insG ky l[k] (groupsL ky (l.take k)) := by
  unfold groupsL
  rw [List.take_succ_eq_append_getElem h, List.foldl_append]
  rfl
theorem ins_len (x : To) : ∀ gs : List (List To), (insG ky x gs).length ≤ gs.length + 1
  | [] => by simp [insG]
  | g :: gs => by
    unfold insG
    split
    · simp
    · have := ins_len x gs
      simp only [List.length_cons]; omega
theorem groups_mem {l : List To} : ∀ {k : Nat}, k ≤ l.length → ∀ q ∈ groupsL ky (l.take k), ∀ y ∈ q, y ∈ l
  | 0, _, q, hq, _, _ => by simp [groupsL] at hq
  | k + 1, h, q, hq, y, hy => by
    rw [groups_take h] at hq
    rcases insG_mem ky hq hy with e | ⟨p, hp, hy⟩
    · rw [e]; exact List.getElem_mem h
    · exact groups_mem (Nat.le_of_lt h) p hp y hy
theorem groups_len {l : List To} : ∀ {k : Nat}, k ≤ l.length → (groupsL ky (l.take k)).length ≤ k
  | 0, _ => by simp [groupsL]
  | k + 1, h => by
    rw [groups_take h]
    have := ins_len l[k] (groupsL ky (l.take k))
    have := groups_len (l := l) (k := k) (Nat.le_of_lt h)
    omega
theorem ins_sz {x : To} {m : Nat} : ∀ {gs : List (List To)}, (∀ q ∈ gs, q.length ≤ m) → ∀ q ∈ insG ky x gs, q.length ≤ m + 1
  | [], _, q, hq => by simp [insG] at hq; rw [hq]; simp
  | g :: gs, h, q, hq => by
    unfold insG at hq
    split at hq
    · rcases List.mem_cons.1 hq with e | e
      · rw [e]; have := h g (by simp); simp; omega
      · have := h q (List.mem_cons_of_mem _ e); omega
    · rcases List.mem_cons.1 hq with e | e
      · rw [e]; have := h g (by simp); omega
      · exact ins_sz (fun p hp => h p (List.mem_cons_of_mem _ hp)) q e
theorem groups_sz {l : List To} : ∀ {k : Nat}, k ≤ l.length → ∀ q ∈ groupsL ky (l.take k), q.length ≤ k
  | 0, _, q, hq => by simp [groupsL] at hq
  | k + 1, h, q, hq => by
    rw [groups_take h] at hq
    exact ins_sz (groups_sz (Nat.le_of_lt h)) q hq
set_option maxRecDepth 100000 in
set_option maxHeartbeats 8000000 in
theorem groups_any (A : Option Addr) (c : Nat) (l : List To) (G : Foot) (w : World) (hl : l.length ≤ 10000) (h : Els 11 rTo w G A l) (hsz : ∀ x ∈ l, Sm x) :
    Calls Tryz.prog 27 #[.slice A l.length c] w (RetGs (groupsL ky (onlyL l)) w) := by
  obtain ⟨i0, hi, hz0, hz1, hz2⟩ := info_parts info_to
  have Hi := Lib.hid hi
  have Hz0 := Lib.hid hz0
  have Hz1 := Lib.hid hz1
  have Hz2 := Lib.hid hz2
  obtain ⟨j0, hj, hy0, hy1, hy2⟩ := info_parts info_ts
  have Hj := Lib.hid hj
  have Hy0 := Lib.hid hy0
  have Hy1 := Lib.hid hy1
  have Hy2 := Lib.hid hy2
  have HSt : Hid ((Tryz.prog.info? 61).map (·.size) = some 11) := info_to11
  have HO := Lib.hid (only_any A c l G w hl h hsz)
  have hol : (onlyL l).length ≤ 10000 := Nat.le_trans (List.length_filter_le _ _) hl
  have hos : ∀ x ∈ onlyL l, Sm x := fun x hx => hsz x (List.mem_filter.1 hx).1
  clear h hsz hl hi hz0 hz1 hz2 hj hy0 hy1 hy2
  generalize onlyL l = L at *
  have HSm := Lib.hid hos
  obtain ⟨Q, hQ⟩ : ∃ Q, Q = RetGs (groupsL ky L) w := ⟨_, rfl⟩
  have HQ : Hid (∀ (w1 w' : World) (A : Option Addr) (n c : Nat) (vs : List Value), Below w.heap.size w w1 → Gps w1 w' A n c vs (groupsL ky L) → Q (.returned (.slice A n c)) w') := fun w1 w' A n c vs hb h => by
    rw [hQ]
    have e := h.len
    subst e
    exact ⟨A, c, rfl, h.acc.own.nil, h.acc.own.cap, h.acc.own.max, h.els, hb.trans (h.acc.bel.mono hb.size)⟩
  rw [← hQ]
  clear hQ hos
  go_enter Tryz.func27, Tryz.ntmps27
  go_wp2_with (go_at_call 33; refine HO.out.mono ?_; rintro e w1 ⟨AL, cL, vL, rfl, hL⟩; have HLs := Lib.hid hL; clear hL)
  have HW1 := Lib.hid HLs.out.acc.bel
  have HEl : Hid (Els 11 rTo w1 (fun k => k < w1.heap.size) AL L) := by
    obtain ⟨us, h1, h2⟩ := HLs.out.els keeps_to
    exact ⟨us, h1.mono fun k hk _ => hk, h2.mono keeps_to fun k hk _ => hk⟩
  clear HLs
  go_loopw [3, 10] (fun v3 v10 wr => ∃ (k n c : Nat) (A3 : Option Addr) (vs : List Value), k ≤ L.length ∧ v10 = .int .i64 k ∧ v3 = .slice A3 n c ∧ Gps w1 wr A3 n c vs (groupsL ky (L.take k))) (fun _ v10 _ => L.length - (intOf v10).toNat)
  case atStart => exact ⟨0, 0, 0, none, [], Nat.zero_le _, rfl, rfl, Gps.nil w1⟩
  case round =>
    obtain ⟨k, n, c3, A3, vs, hk, rfl, rfl, hG⟩ := hrel
    have HG := Lib.hid hG
    clear hG
    by_cases hlt : k < L.length
    · have hki : (k : Int) < (L.length : Int) := by omega
      have HTk := Lib.hid (groups_take hlt)
      have hgl := groups_len (l := L) (k := k) (Nat.le_of_lt hlt)
      rw [HG.out.len] at hgl
      have HNe := Lib.hid (groupsL_ne ky (L.take k))
      have HGz := Lib.hid (groups_sz (l := L) (k := k) (Nat.le_of_lt hlt))
      have HMm := Lib.hid (groups_mem (l := L) (k := k) (Nat.le_of_lt hlt))
      obtain ⟨us, hu1, hu2⟩ := HEl.out
      obtain ⟨cs, hr0, hx0⟩ := hu2.at_ keeps_to hlt
      obtain ⟨b, off, cs', rfl, hbl, hr, hrg⟩ := els_range keeps_to (HEl.out.bel keeps_to HG.out.acc.bel) hlt
      have hs := HSm.out _ (List.getElem_mem hlt)
      generalize groupsL ky (L.take k) = gs at *
      have hrx : rTo w1 (fun k => k < w1.heap.size) cs' L[k] := by
        obtain ⟨b1, off1, cs1, e1, _, hl1, hr1, hc1⟩ := HEl.out.at_ keeps_to hlt
        cases e1
        have : cs1 = cs' := by
          refine List.ext_getElem? fun j => ?_
          have l1 := keeps_to.len hr1
          have l2 := keeps_to.len hr
          by_cases hj : j < 11
          · have q1 := hc1 j _ (List.getElem?_eq_getElem (by omega : j < cs1.length))
            have q2 := hrg j _ (List.getElem?_eq_getElem (by omega : j < cs'.length))
            have q3 := HG.out.acc.bel.cell (p := ⟨b, off + k * 11 + j, none⟩) hl1
            rw [q3, q1] at q2
            rw [List.getElem?_eq_getElem (by omega), List.getElem?_eq_getElem (by omega)]
            exact q2
          · rw [List.getElem?_eq_none (by omega), List.getElem?_eq_none (by omega)]
        rw [← this]; exact hr1
      clear hu1 hu2 hr0 hx0 hr
      generalize L[k] = x at *
      obtain ⟨Ap, cp, Ac, cc, rfl, ham, h32⟩ := hrx
      have HRx : Hid (rTo w1 (fun k => k < w1.heap.size) (toc x Ap cp Ac cc) x) := ⟨Ap, cp, Ac, cc, rfl, ham, h32⟩
      have HRg := Lib.hid hrg
      have HAm := Lib.hid (ham.bel HG.out.acc.bel)
      have HSx := Lib.hid hs
      have HA3 : Hid (∀ j, sf A3 j → j < wr.heap.size) := HG.out.acc.own.lt
      have HBl : Hid (∀ (i : Nat) (B : Option Addr) (m d : Nat), vs[i]? = some (.slice B m d) → ∀ k, sf B k → k < wr.heap.size) := fun i B m d hi => by
        obtain ⟨_, _, _, _, hown, _⟩ := HG.out.at_ hi
        exact hown.lt
      clear hrg ham hs hbl h32
      go_upto_region 5 with (first
        | (refine loadMidG (by rfl) 61 (.tmp 12) rfl b (off + k * 11) (by rfl) (toc x Ap cp Ac cc) _ HRg.out Tryz.underlying61 (by rfl) HSt.out ?_)
        | (refine wpList_storeBk rfl 61 (.tmp 5) (.tmp 13) rfl wr.heap.size (by rfl) (toc x Ap cp Ac cc).toArray (by rfl) 61 zeroTo.toArray (Bk.new wr _ _) HSt.out rfl (by rfl) ?_; intro w2 h5 h6 h7; have K1 := Lib.hid h5; have C1 := Lib.hid h6; clear h5 h6 h7))
      have hB1 : Below wr.heap.size wr w2 := by
        have h1 : Below wr.heap.size wr (wr.alloc (.cells zeroTo.toArray 61)) := (Below.refl _ _).alloc (Nat.le_refl _) _
        exact h1.trans (C1.out.below (fun k e => by omega) h1.size)
      have HG2 := Lib.hid (HG.out.go hB1)
      have HX2 : Hid (rTo w1 (fun k => k < w1.heap.size) (toc x Ap cp Ac cc) x) := HRx.out
      obtain ⟨gb, hgb⟩ : ∃ g, g = wr.heap.size := ⟨_, rfl⟩
      rw [← hgb] at K1 HA3 HBl ⊢
      have hgw : w1.heap.size ≤ gb := by rw [hgb]; exact HG.out.acc.bel.size
      have HIx := Lib.hid (index_any A3 n c3 gb vs gs x Ap Ac cp cc _ w1 w2 HG2.out (by omega) HNe.out (fun q hq y hy => HSm.out _ (HMm.out q hq y hy)) K1.out.lt (fun j v hv => by rw [K1.out.cell]; show (toc x Ap cp Ac cc).toArray[2 + j]? = _; rw [List.getElem?_toArray]; unfold toc; rw [List.getElem?_append_right (by simp)]; simpa using hv) (HAm.out.bel hB1) HSx.out)
      clear hB1 C1 HRg HG HRx hgb HAm HSx HNe HMm
      go_upto_region 6 with (go_at_call 47; refine HIx.out.mono ?_; rintro e w3 ⟨r, rfl, hr, h2⟩; have HR := Lib.hid hr; have HG3 := Lib.hid (HG2.out.go h2); have K3 := Lib.hid (K1.out.below h2 K1.out.lt); clear hr h2)
      have h23 : w2.heap.size ≤ w3.heap.size ∨ True := .inr trivial
      clear HIx HG2 K1 h23
      rcases HR.out with ⟨rfl, hno⟩ | ⟨i, hil, rfl, hyes, hbef⟩
      · have HEq : Hid (groupsL ky (L.take (k + 1)) = gs ++ [[x]]) := by rw [Hid, HTk.out]; exact insG_none ky hno
        clear hno HR HTk
        have HRow : Hid (∀ j, sf A3 j → j < w3.heap.size) := HG3.out.acc.own.lt
        go_wp2_with (first
          | (refine wpList_loadBk rfl 61 (.tmp 5) rfl gb (by rfl) 61 (toc x Ap cp Ac cc).toArray _ K3.out Tryz.underlying61 (by rfl) HSt.out ?_)
          | (refine wpList_lit rfl 27 61 1 _ rfl i0 _ 11 Tryz.underlying27 Hi.out Hz0.out Hz1.out (by omega) [.agg (toc x Ap cp Ac cc).toArray] rfl (by omega) (by omega) (by rfl) (by intro v hv; simp at hv; rw [hv]; rfl) (toc x Ap cp Ac cc) (by rfl) ?_; have HA4 : Hid (Below w3.heap.size w3 (w3.alloc (.cells (toc x Ap cp Ac cc).toArray 61))) := (Below.refl _ _).alloc (Nat.le_refl _) _; have HB4 : Hid (foot.Own (w3.alloc (.cells (toc x Ap cp Ac cc).toArray 61)) 61 11 (some ⟨w3.heap.size, 0, none⟩) 1 1 (toc x Ap cp Ac cc)) := Own.made w3 _ 11 1 1 _ _ (Nat.le_refl _) (by unfold maxLen; omega) rfl rfl rfl)
          | (refine wpList_lit rfl 30 27 1 _ rfl j0 _ 1 Tryz.underlying30 Hj.out Hy0.out Hy1.out (by omega) [.slice (some ⟨w3.heap.size, 0, none⟩) 1 1] rfl (by omega) (by omega) (by rfl) (by intro v hv; simp at hv; rw [hv]; rfl) [.slice (some ⟨w3.heap.size, 0, none⟩) 1 1] (by rfl) ?_; generalize hw4 : w3.alloc (.cells (toc x Ap cp Ac cc).toArray 61) = w4 at *; have HA5 : Hid (Below w4.heap.size w4 (w4.alloc (.cells #[.slice (some ⟨w3.heap.size, 0, none⟩) 1 1] 27))) := (Below.refl _ _).alloc (Nat.le_refl _) _; have HG5 := Lib.hid ((HG3.out.go HA4.out).go HA5.out); have HB5 := Lib.hid (HB4.out.bel HA5.out); have HN5 : Hid (Rg (w4.alloc (.cells #[.slice (some ⟨w3.heap.size, 0, none⟩) 1 1] 27)) (fun k => k = w4.heap.size) 1 (some ⟨w4.heap.size, 0, none⟩) 1 [.slice (some ⟨w3.heap.size, 0, none⟩) 1 1]) := Rg.new w4 27 1 1 #[.slice (some ⟨w3.heap.size, 0, none⟩) 1 1] rfl)
          | (at_builtin; refine wpList_app _ rfl (.tmp 19) (.tmp 22) _ rfl 27 j0 _ 1 24 Tryz.underlying30 Hj.out Hy0.out Hy1.out Hy2.out rfl (by omega) A3 n c3 vs rfl HG5.out.acc.own _ (some ⟨w4.heap.size, 0, none⟩) 1 1 (by intro h; cases h) [.slice (some ⟨w3.heap.size, 0, none⟩) 1 1] rfl HN5.out (by intro u hu; simp at hu; rw [hu]; rfl) (by unfold maxLen; omega) (by omega) ?_; intro A8 c8 w8 ho hc hf; have HG8 : Hid (Gps w1 w8 A8 (n + 1) c8 (vs ++ [.slice (some ⟨w3.heap.size, 0, none⟩) 1 1]) (gs ++ [[x]])) := Gps.more (g := [x]) HG5.out HB5.out (rAll.single HX2.out) (fun k hk => by rw [sf_some] at hk; have hk : w3.heap.size = k := hk; have := HG3.out.acc.bel.size; omega) (fun k hk hs => by rw [sf_some] at hk; have hk : w3.heap.size = k := hk; have := HRow.out k hs; omega) (fun i B' m' d' hi k hk hs => by rw [sf_some] at hk; have hk : w3.heap.size = k := hk; obtain ⟨_, _, _, _, hown, _⟩ := HG3.out.at_ hi; have := hown.lt k hs; omega) ho hc hf; clear ho hc hf))
        go_roundw
        case rel => exact ⟨k + 1, n + 1, c8, A8, _, by omega, by go_num, rfl, by rw [HEq.out]; exact HG8.out⟩
        case measure => simp [intOf]; omega
      · have HEq : Hid (groupsL ky (L.take (k + 1)) = gs.set i (gs[i] ++ [x])) := by rw [Hid, HTk.out]; exact insG_set ky hil hyes hbef
        clear hyes hbef HR HTk
        have hgi := List.getElem?_eq_getElem hil
        generalize gs[i] = g at *
        obtain ⟨B, d, es, hvi, hown, hes, hlo, hap⟩ := HG3.out.row i g hgi
        have hin : i < n := by rw [← HG3.out.len]; exact hil
        obtain ⟨ga, oa, rfl⟩ := HG3.out.acc.own.form (by omega)
        have hci := (HG3.out.acc.own.at_ i hvi).1
        have hfr := (HG3.out.acc.own.at_ i hvi).2.1
        have hgl3 := (HG3.out.acc.own.at_ i hvi).2.2
        have hapg : ∀ k, sf B k → k ≠ ga := fun k hk e => hap k hk (by rw [sf_some]; exact e.symm)
        have hgag : ga ≠ gb := fun e => by have := HA3.out ga (by rw [sf_some]); omega
        have hBgb : ∀ k, sf B k → k ≠ gb := fun k hk e => by have := HBl.out i _ _ _ hvi k hk; omega
        have hgel : g.length ≤ 10000 := by have := HGz.out g (List.mem_of_getElem? hgi); omega
        have hin' : (i : Int) < (n : Int) := by omega
        have HOw := Lib.hid hown
        have HVi := Lib.hid hvi
        have HGi := Lib.hid hgi
        have HEs := Lib.hid hes
        have HLo := Lib.hid hlo
        have HAg := Lib.hid hapg
        have HBb := Lib.hid hBgb
        have HS3 : Hid (w3.cell? ⟨ga, oa + i, none⟩ = some (.slice B g.length d) ∧ w3.rangeAt gb 0 (toc x Ap cp Ac cc)) := ⟨hci, fun j v hv => by rw [K3.out.cell, Nat.zero_add, List.getElem?_toArray]; exact hv⟩
        clear hvi hgi hown hes hlo hap hapg hBgb hci hfr hil
        go_wp2_with fail
        refine region_mv (S := fun w' => w'.cell? ⟨ga, oa + i, none⟩ = some (.slice B g.length d) ∧ w'.rangeAt gb 0 (toc x Ap cp Ac cc)) (A := List.range 10) (sq := [.p 0, .p 1, .p 2, .p 3, .p 4, .p 5, .p 6, .c 7, .c 8, .p 9, .d 10]) (by kernel_rfl) (by kernel_rfl) ?_ (fun hHeld => ?_)
        · exact HS3.out
        repeat ((with_reducible refine mv_at ?_); (first
          | (refine ⟨_, .agg (toc x Ap cp Ac cc).toArray, rfl, yieldsIf_load_mid (by rfl) 61 (.tmp 5) rfl gb 0 (by rfl) (toc x Ap cp Ac cc) _ (fun w h => h.2) Tryz.underlying61 (by rfl) HSt.out, ?_⟩)
          | (refine ⟨_, ?_, rfl, Or.inl ⟨by rfl, ?_⟩, ?_⟩; rotate_left; · (intro w hSw; (try dsimp only at hSw); go_simp <;> with_reducible rfl))
          | (refine ⟨_, undef, rfl, Or.inr ⟨by rfl, rfl⟩, ?_⟩)); try simp only [Act.put, List.getElem_toArray, List.getElem_cons_succ, List.getElem_cons_zero, List.setIfInBounds_toArray, List.set_cons_zero, List.set_cons_succ])
        refine mv_c (o := _) rfl (fun K hK => ?_)
        refine step_lit rfl 27 61 1 _ rfl i0 _ 11 Tryz.underlying27 Hi.out Hz0.out Hz1.out (by omega) [.agg (toc x Ap cp Ac cc).toArray] rfl (by omega) (by omega) (by rfl) (by intro v hv; simp at hv; rw [hv]; rfl) (toc x Ap cp Ac cc) (by rfl) ?_
        have HA4 : Hid (Below w3.heap.size w3 (w3.drew.alloc (.cells (toc x Ap cp Ac cc).toArray 61))) := ((Below.refl _ _).drew).alloc (Nat.le_refl _) _
        have HN4 : Hid (Rg (w3.drew.alloc (.cells (toc x Ap cp Ac cc).toArray 61)) (fun k => k = w3.heap.size) 11 (some ⟨w3.heap.size, 0, none⟩) 1 (toc x Ap cp Ac cc)) := Rg.new w3.drew 61 11 1 (toc x Ap cp Ac cc).toArray rfl
        generalize w3.drew.alloc (.cells (toc x Ap cp Ac cc).toArray 61) = w4 at *
        have HG4 := Lib.hid (HG3.out.go HA4.out)
        have HO4 := Lib.hid (HOw.out.bel HA4.out)
        have K4 := Lib.hid (K3.out.below HA4.out K3.out.lt)
        refine hK.out _ _ ?_ (fun hHeld => ?_)
        · exact ⟨(HG4.out.acc.own.at_ i HVi.out).1, K4.out.all0⟩
        clear hK K
        try simp only [Act.put, List.getElem_toArray, List.getElem_cons_succ, List.getElem_cons_zero, List.setIfInBounds_toArray, List.set_cons_zero, List.set_cons_succ]
        refine mv_c (o := _) rfl (fun K hK => ?_)
        refine step_app _ rfl (.tmp 29) (.tmp 31) _ rfl 61 i0 _ 11 104 Tryz.underlying27 Hi.out Hz0.out Hz1.out Hz2.out rfl (by omega) B g.length d es rfl HO4.out _ (some ⟨w3.heap.size, 0, none⟩) 1 1 (by intro h; cases h) (toc x Ap cp Ac cc) rfl HN4.out toc_one (by unfold maxLen; omega) (by omega) ?_
        intro B8 d8 w8 ho hc hf
        have HP8 := Lib.hid (Gps.put HG4.out HVi.out HGi.out ho HEs.out HX2.out HLo.out HAg.out hc hf)
        have K8 := Lib.hid (K4.out.chg hc fun e => HBb.out _ e rfl)
        have HA8 : Hid (foot.Own w8 27 1 (some ⟨ga, oa, none⟩) n c3 vs) := HG4.out.acc.own.chg hc fun k _ hk e => HAg.out k e (by rw [sf_some] at hk; exact hk.symm)
        obtain ⟨y0, y1, y2⟩ := HA8.out.at_ i HVi.out
        clear ho hc hf
        refine hK.out _ _ ?_ (fun hHeld => ?_)
        · exact ⟨(HA8.out.at_ i HVi.out).1, K8.out.all0⟩
        clear hK K
        try simp only [Act.put, List.getElem_toArray, List.getElem_cons_succ, List.getElem_cons_zero, List.setIfInBounds_toArray, List.set_cons_zero, List.set_cons_succ]
        repeat ((with_reducible refine mv_at ?_); (first
          | (refine ⟨_, ?_, rfl, Or.inl ⟨by rfl, ?_⟩, ?_⟩; rotate_left; · (intro w hSw; (try dsimp only at hSw); go_simp <;> with_reducible rfl))
          | (refine ⟨_, undef, rfl, Or.inr ⟨by rfl, rfl⟩, ?_⟩)); try simp only [Act.put, List.getElem_toArray, List.getElem_cons_succ, List.getElem_cons_zero, List.setIfInBounds_toArray, List.set_cons_zero, List.set_cons_succ])
        have y3 := y1 (oa + i)
        refine mv_d (o := _) rfl (fun K hK => ?_)
        go_simp
        refine hK.out _ _ ?_
        clear hK K
        try simp only [Act.put, List.getElem_toArray, List.getElem_cons_succ, List.getElem_cons_zero, List.setIfInBounds_toArray, List.set_cons_zero, List.set_cons_succ]
        refine mv_end ?_
        go_wp2_with fail
        go_roundw
        case rel => exact ⟨k + 1, n, c3, _, _, by omega, by go_num, rfl, by rw [HEq.out]; exact HP8.out⟩
        case measure => simp [intOf]; omega
    · obtain rfl : k = L.length := by omega
      have hG := HG.out
      rw [List.take_length] at hG
      have HP := Lib.hid (HQ.out w1 _ _ _ _ _ HW1.out hG)
      clear hG
      go_wp2_with fail
      exact HP.out
end Go.Proofs.YtbljhjfaimnieaaGreat.pck
