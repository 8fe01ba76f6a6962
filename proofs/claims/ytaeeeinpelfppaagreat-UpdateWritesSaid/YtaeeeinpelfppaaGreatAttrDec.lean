/- What (attr.one).lay does with communities. Condition: whole numbers, at most 10^5 bytes; none were there. The plain law of laying an attribute; what attr.wrong does. The plain law of attr.Decode. What attr.Decode does: the memory of its loop. -/
import Derived.Test.YtaeeeinpelfppaaGreatAttrLay
namespace Go.Proofs.YtaeeeinpelfppaaGreat.attr
open Go.RowKit Go.Proofs.YtaeeeinpelfppaaGreat.kit Go.Proofs.YtaeeeinpelfppaaGreat.mem Go.Proofs.YtaeeeinpelfppaaGreat.foot Go.Proofs.YtaeeeinpelfppaaGreat.nums Go.Proofs.YtaeeeinpelfppaaGreat.asn Go.Proofs.YtaeeeinpelfppaaGreat.pth Go.Proofs.YtaeeeinpelfppaaGreat.octet
set_option linter.unusedVariables false
set_option linter.unusedSimpArgs false
/-- so many communities are read -/
structure CQ (w : World) (g r : Nat) (a : Atr) (Ap : Option Addr) (cp : Nat) (G : Foot) (l : List UInt8) (bad : Bool) (xs : List Nat) (Aa : Option Addr) (ca : Nat) (wr : World) : Prop where
  bk : Bk wr g 29 (atc { a with comms := xs } Ap cp Aa ca).toArray
  sp : Sp wr G Ap cp a.path
  rd : Rdr wr r l bad
  own : foot.Own wr 26 1 Aa xs.length ca (uv xs)
  lo : ∀ k, sf Aa k → r < k
  ch : Chg (fun k => k = g) w wr
  gl : g < w.heap.size
  rl : w.heap.size < r
  gG : ¬ G g
  lG : ∀ k, G k → k < w.heap.size
section
variable {w wr w3 w4 : World} {g r x c' cp ca : Nat} {a : Atr} {Ap Aa A' : Option Addr} {G : Foot} {l l3 : List UInt8} {bad b3 : Bool} {xs : List Nat}
theorem CQ.start (h : LQ w g a Ap cp none 0 G r l bad wr) (hc : a.comms = []) : CQ w g r a Ap cp G l bad [] none 0 wr :=
  ⟨by
    have e : ({ a with comms := [] } : Atr) = a := by rw [← hc]
    rw [e]
    exact h.bk, h.am.sp, h.rd, foot.Own.none_ _ _ _, fun k hk => absurd hk (sf_none k), h.ch, h.gl, h.rl, h.gG, h.lG⟩
theorem CQ.drewN (h : CQ w g r a Ap cp G l bad xs Aa ca wr) (n : Nat) : CQ w g r a Ap cp G l bad xs Aa ca (wr.drewN n) :=
  ⟨h.bk, h.sp.bel (below_drewN (Below.refl _ _) n), h.rd, h.own.bel (below_drewN (Below.refl _ _) n), h.lo, h.ch.drewN n, h.gl, h.rl, h.gG, h.lG⟩
theorem CQ.read (h : CQ w g r a Ap cp G l bad xs Aa ca wr) (hr : Rdr w3 r l3 b3) (hg : wr.grownBy w3 (some r)) : CQ w g r a Ap cp G l3 b3 xs Aa ca w3 := by
  have h1 := h.gl
  have h2 := h.rl
  have hc := chg_of_grown hg
  exact ⟨h.bk.chg hc (by omega), h.sp.chg hc fun k _ hk e => by have := h.lG k hk; omega, hr, h.own.chg hc fun k _ hk e => by have := h.lo k hk; omega, h.lo, h.ch.trans hc fun i hi e => by omega, h1, h2, h.gG, h.lG⟩
theorem CQ.put (h : CQ w g r a Ap cp G l bad xs Aa ca wr) (ho : foot.Own w4 26 1 A' (xs.length + 1) c' (uv xs ++ [.int .u32 (x : Int)])) (hc : Chg (sf Aa) (wr.alloc (.cells #[.int .u32 (x : Int)] 26)) w4) (hf : Fresh (wr.alloc (.cells #[.int .u32 (x : Int)] 26)) (sf Aa) (sf A')) :
    Bk w4 g 29 (atc { a with comms := xs } Ap cp Aa ca).toArray ∧ CQ w g r a Ap cp G l bad (xs ++ [x]) A' c' (w4.setCell ⟨g, 8, none⟩ (.slice A' (xs.length + 1) c')) := by
  have h1 := h.gl
  have h2 := h.rl
  have hrw := h.rd.lt
  have hb : Below wr.heap.size wr (wr.alloc (.cells #[.int .u32 (x : Int)] 26)) := (Below.refl _ _).alloc (Nat.le_refl _) _
  have hAg : ¬ sf Aa g := fun e => by have := h.lo _ e; omega
  have hAr : ¬ sf Aa r := fun e => by have := h.lo _ e; omega
  have hbk4 := (h.bk.below hb h.bk.lt).chg hc hAg
  have hlo' : ∀ k, sf A' k → r < k := fun k hk => by
    rcases hf k hk with e | e
    · exact h.lo k e
    · have := hb.size; omega
  have hst : Chg (fun k => k = g) w4 (w4.setCell ⟨g, 8, none⟩ (.slice A' (xs.length + 1) c')) := (Chg.refl (fun k => k = g) w4).put (p := ⟨g, 8, none⟩) (.inl rfl) _
  have hsp4 : Sp w4 G Ap cp a.path := (h.sp.bel hb).chg hc fun k _ hk e => by have := h.lG k hk; have := h.lo k e; omega
  have hrd4 : Rdr w4 r l bad := by
    obtain ⟨A0, c0, k1, k2, k3, k4, k5⟩ := h.rd
    refine ⟨A0, c0, (k1.below hb k1.lt).chg hc hAr, k2, k3, k4, k5.keep fun b o hbr => ?_⟩
    rw [World.cell?_of_block (w := wr.alloc (.cells #[.int .u32 (x : Int)] 26)) (hc.block b (by have := hb.size; have := k1.lt; omega) (fun e => by have := h.lo b e; omega))]
    exact hb.cell (p := ⟨b, o, none⟩) (by have := k1.lt; show b < _; omega)
  refine ⟨hbk4, ?_, hsp4.chg hst fun k _ hk e => h.gG (e ▸ hk), ?_, ?_, hlo', ?_, h1, h2, h.gG, h.lG⟩
  · have h3 := hbk4.put 8 (.slice A' (xs.length + 1) c')
    have e : (atc { a with comms := xs ++ [x] } Ap cp A' c').toArray = (atc { a with comms := xs } Ap cp Aa ca).toArray.setIfInBounds 8 (.slice A' (xs.length + 1) c') := by
      simp [atc]
    rw [e]
    exact h3
  · obtain ⟨A0, c0, k1, k2, k3, k4, k5⟩ := hrd4
    exact ⟨A0, c0, k1.chg hst (by omega), k2, k3, k4, bs_apart k5 hbk4 (atc_nob _ Ap cp Aa ca) 8 _⟩
  · rw [List.length_append, uv_app]
    exact ho.chg hst fun k _ hk e => by have := hlo' k hk; omega
  · exact ((h.ch.bel hb).trans hc fun i hi e => by have := h.lo i e; omega).trans hst fun _ _ e => e
theorem CQ.ret (h : CQ w g r a Ap cp G l bad xs Aa ca wr) (hw : Awf a) (h32 : W32 xs) : RetLay g 8 { a with comms := xs } 0 G none 0 w (.returned (.int .i64 0)) wr :=
  ⟨rfl, h.ch, fun _ => ⟨Ap, cp, Aa, ca, h.bk, ⟨⟨hw.has, hw.orig, hw.hop, hw.med, hw.pref, hw.aas, hw.aid⟩, h.sp.mono fun _ _ hk => .inl hk, ⟨h.own.nil, h.own.cap, h.own.max, h.own.rg.mono fun k _ hk => .inr (by have := h.lo k hk; have := h.rl; omega)⟩, h32⟩, fun e => absurd rfl e⟩⟩
end
set_option maxRecDepth 100000 in
set_option maxHeartbeats 4000000 in
theorem lay_8 (f vc al ac g : Nat) (vA aA : Option Addr) (a : Atr) (Ap : Option Addr) (cp : Nat) (G : Foot) (w : World) (v : List UInt8) (hl : v.length ≤ 100000) (h4 : v.length % 4 = 0) (hc0 : a.comms = []) (hg : Bk w g 29 (atc a Ap cp none 0).toArray) (hm : Am w G a Ap cp none 0) (hG : ∀ k, G k → k < w.heap.size ∧ k ≠ g) (hv : Bs w w.heap.size vA v) (hn : vA = none → vc = 0) :
    Calls Tryz.prog 96 #[.agg (oneV f 8 vA v.length vc aA al ac), .pointer (some ⟨g, 0, none⟩)] w (RetLay g 8 { a with comms := nums4 v } 0 G none 0 w) := by
  have HNw := Lib.hid (lay_new f vc al ac g vA aA a Ap none cp 0 G w 8 v hl hg hm hG hv hn)
  have HNw : Hid (Calls Tryz.prog 18 #[.slice vA v.length vc] (w.alloc (.cells #[.int .i64 (f : Int), .int .i64 8, .slice vA v.length vc, .slice aA al ac] 90)) fun e w2 => ∃ r, e = .returned (.pointer (some ⟨r, 0, none⟩)) ∧ LQ w g a Ap cp none 0 G r v false w2 ∧ Bk w2 w.heap.size 90 #[.int .i64 (f : Int), .int .i64 8, .slice vA v.length vc, .slice aA al ac] ∧ Below w.heap.size w w2) := HNw.out
  obtain ⟨j0, hj, hy0, hy1, hy2⟩ := info_parts info_u32
  have Hj := Lib.hid hj
  have Hy0 := Lib.hid hy0
  have Hy1 := Lib.hid hy1
  have Hy2 := Lib.hid hy2
  have Hc0 := Lib.hid hc0
  have Hwf := Lib.hid hm.wf
  have HLf := Lib.hid (fun (w : World) (r : Nat) (l : List UInt8) (b : Bool) (h : Rdr w r l b) => Left_any r l b w h)
  have HU32 := Lib.hid (fun (w : World) (r : Nat) (l : List UInt8) (b : Bool) (h : Rdr w r l b) => u32_any r l b w h)
  obtain ⟨n, hn4⟩ : ∃ n, v.length = 4 * n := ⟨v.length / 4, by omega⟩
  have HN := Lib.hid hn4
  have hn5 : n ≤ 25000 := by omega
  clear hg hm hG hv hn hj hy0 hy1 hy2 hc0 h4 hn4
  unfold oneV
  go_enter Tryz.func96, Tryz.ntmps96
  go_wp2_with (go_at_call 18; refine HNw.out.mono ?_; rintro e w2 ⟨r, rfl, h1, h2⟩; have HL2 := Lib.hid h1; have p1 := h2.1.cell 1; simp at p1; clear h1 h2)
  go_loopw [] (fun wr => ∃ (i : Nat) (xs : List Nat) (Aa : Option Addr) (ca : Nat), i ≤ n ∧ xs.length = i ∧ xs = nums4 (v.take (4 * i)) ∧ CQ w g r a Ap cp G (v.drop (4 * i)) false xs Aa ca wr) (fun wr => lenAt wr r)
  case atStart => exact ⟨0, [], none, 0, by omega, rfl, rfl, CQ.start HL2.out Hc0.out⟩
  case round =>
    obtain ⟨i, xs, Aa, ca, hin, hxi, hxs, hcq⟩ := hrel
    have HP := Lib.hid hcq
    have HXs := Lib.hid hxs
    have HXi := Lib.hid hxi
    have HLfx := Lib.hid (HLf.out wr r _ false hcq.rd)
    have HLn := Lib.hid (rdr_len hcq.rd)
    clear hcq hxs hxi
    by_cases hlt : i < n
    · have dl : 0 < (v.drop (4 * i)).length := by rw [List.length_drop, HN.out]; omega
      have h44 : 4 ≤ (v.drop (4 * i)).length := by rw [List.length_drop, HN.out]; omega
      have HUx : Hid (∀ wz, Rdr wz r (v.drop (4 * i)) false → Calls Tryz.prog 91 #[.pointer (some ⟨r, 0, none⟩)] wz fun e w' => e = .returned (.int .u32 (num ((v.drop (4 * i)).take 4) : Int)) ∧ Rdr w' r (v.drop (4 * (i + 1))) false ∧ wz.grownBy w' (some r)) := fun wz h => by
        have h1 := HU32.out wz r _ false h
        have h2 := rok4 h44
        have e : (v.drop (4 * i)).drop 4 = v.drop (4 * (i + 1)) := by rw [List.drop_drop]; congr 1
        rw [h2.1, h2.2.1, h2.2.2, e] at h1
        exact h1
      have HNx : Hid (nums4 (v.take (4 * (i + 1))) = xs ++ [num ((v.drop (4 * i)).take 4)]) := by rw [Hid, nums4_next (by rw [HN.out]; omega), HXs.out]
      have HMs : Hid ((v.drop (4 * (i + 1))).length < (v.drop (4 * i)).length) := by rw [Hid, List.length_drop, List.length_drop, HN.out]; omega
      have hxl : xs.length ≤ 25000 := by have := HXi.out; omega
      clear h44
      generalize num ((v.drop (4 * i)).take 4) = x at *
      generalize hL' : (v.drop (4 * i)).length = L' at *
      clear hL'
      go_upto_region 24 with (go_at_call 25; refine HLfx.out.mono ?_; rintro e w' ⟨rfl, rfl⟩)
      have HCs : Hid (∀ wz, CQ w g r a Ap cp G (v.drop (4 * i)) false xs Aa ca wz → wz.cell? ⟨g, 8, none⟩ = some (.slice Aa xs.length ca)) := fun wz h => (h.bk.cell 8).trans rfl
      have HPd : Hid (CQ w g r a Ap cp G (v.drop (4 * i)) false xs Aa ca wr.drew) := HP.out.drewN 1
      have HUd := Lib.hid (HUx.out _ HPd.out.rd)
      have k1 := HCs.out _ HPd.out
      have kf := HPd.out.bk.free 8
      have kl := HPd.out.bk.lt
      have HPut : Hid (∀ (wz w4 : World) (A' : Option Addr) (c' : Nat), CQ w g r a Ap cp G (v.drop (4 * (i + 1))) false xs Aa ca wz → foot.Own w4 26 1 A' (xs.length + 1) c' (uv xs ++ [.int .u32 (x : Int)]) → Chg (sf Aa) (wz.alloc (.cells #[.int .u32 (x : Int)] 26)) w4 → Fresh (wz.alloc (.cells #[.int .u32 (x : Int)] 26)) (sf Aa) (sf A') → Bk w4 g 29 (atc { a with comms := xs } Ap cp Aa ca).toArray ∧ CQ w g r a Ap cp G (v.drop (4 * (i + 1))) false (xs ++ [x]) A' c' (w4.setCell ⟨g, 8, none⟩ (.slice A' (xs.length + 1) c'))) := fun wz w4 A' c' h1 h2 h3 h4 => h1.put h2 h3 h4
      go_region_law (first
        | (refine step_app _ rfl (.tmp 96) (.tmp 99) _ rfl 26 j0 _ 1 4 Tryz.underlying27 Hj.out Hy0.out Hy1.out Hy2.out rfl (by omega) Aa xs.length ca (uv xs) rfl (by exact HOa.out) _ (some ⟨w5.heap.size, 0, none⟩) 1 1 (by intro h; cases h) [.int .u32 (x : Int)] rfl (by exact HRa.out) (by intro u hu; simp at hu; rw [hu]; rfl) (by unfold maxLen; omega) (by omega) ?_; intro A7 c7 w7 ho7 hc7 hf7; clear k1 kf kl; go_must (have HE7 := Lib.hid (HPut.out w5 w7 A7 c7 HP5.out ho7 hc7 hf7)); go_must (have k1 := (HE7.out.1.cell 8).trans (show _ = some _ from rfl)); go_must (have kf := HE7.out.1.free 8); go_must (have kl := HE7.out.1.lt); clear ho7 hc7 hf7)
        | (go_simp; go_at_call 91; refine HUd.out.mono ?_; rintro e w5 ⟨rfl, h1, h2⟩; clear k1 kf kl; go_must (have HP5 := Lib.hid (HPd.out.read h1 h2)); go_must (have k1 := (HP5.out.bk.cell 8).trans (show _ = some _ from rfl)); go_must (have kf := HP5.out.bk.free 8); go_must (have kl := HP5.out.bk.lt); go_must (have HOa : Hid (foot.Own (w5.alloc (.cells #[.int .u32 (x : Int)] 26)) 26 1 Aa xs.length ca (uv xs)) := HP5.out.own.bel ((Below.refl _ _).alloc (Nat.le_refl _) _)); go_must (have HRa := Lib.hid (Rg.new w5 26 1 1 #[.int .u32 (x : Int)] rfl)); clear h1 h2))
      all_goals
        go_wp2_with fail
        go_roundw
        case rel => exact ⟨i + 1, xs ++ [x], A7, c7, by omega, by rw [List.length_append, HXi.out]; rfl, HNx.out.symm, HE7.out.2⟩
        case measure => rw [rdr_len HE7.out.2.rd, HLn.out]; exact HMs.out
    · obtain rfl : i = n := by omega
      have e0 : v.drop (4 * i) = [] := List.drop_eq_nil_of_le (by rw [HN.out]; omega)
      have e1 : v.take (4 * i) = v := List.take_of_length_le (by rw [HN.out]; omega)
      rw [e0] at HLfx
      rw [e1] at HXs
      have HLfx : Hid (Calls Tryz.prog 25 #[.pointer (some ⟨r, 0, none⟩)] wr fun e w' => e = .returned (.int .i64 0) ∧ wr = w') := HLfx.out
      have HR : Hid (RetLay g 8 { a with comms := nums4 v } 0 G none 0 w (.returned (.int .i64 0)) wr) := by
        rw [← HXs.out]
        exact HP.out.ret Hwf.out (by rw [HXs.out]; exact nums4_w32 _ v (Nat.le_refl _))
      clear e0 e1
      go_wp2_with (go_at_call 25; refine HLfx.out.mono ?_; rintro e w' ⟨rfl, rfl⟩)
      go_ret
      exact HR.out
end Go.Proofs.YtaeeeinpelfppaaGreat.attr

namespace Go.Proofs.YtaeeeinpelfppaaGreat.attr
open Go.RowKit Go.Proofs.YtaeeeinpelfppaaGreat.kit Go.Proofs.YtaeeeinpelfppaaGreat.mem Go.Proofs.YtaeeeinpelfppaaGreat.foot Go.Proofs.YtaeeeinpelfppaaGreat.nums Go.Proofs.YtaeeeinpelfppaaGreat.asn Go.Proofs.YtaeeeinpelfppaaGreat.pth Go.Proofs.YtaeeeinpelfppaaGreat.octet
set_option linter.unusedVariables false
set_option linter.unusedSimpArgs false
/-- a value laid among the others, and what is wrong of it -/
noncomputable def layS (a : Atr) (k : Nat) (v : List UInt8) : Atr × Nat :=
  match k with
  | 1 => ({ a with orig := (num v : Int) }, if num v ≤ 2 then 0 else 6)
  | 2 => ({ a with path := normS ((pcs v).getD []) }, sub2 v)
  | 3 => ({ a with hop := (num v : Int) }, if hopB (num v : Int) = true then 0 else 8)
  | 4 => ({ a with med := (num v : Int) }, 0)
  | 5 => ({ a with pref := (num v : Int) }, 0)
  | 7 => ({ a with aas := (num (v.take 4) : Int), aid := (num (v.drop 4) : Int) }, 0)
  | 8 => ({ a with comms := nums4 v }, 0)
  | _ => (a, 0)
theorem layS_has (a : Atr) (k : Nat) (v : List UInt8) : (layS a k v).1.has = a.has := by unfold layS; split <;> rfl
/-- what is wrong of an attribute behind others; the others with it, where nothing is -/
noncomputable def wrongS (a : Atr) (f k : Nat) (v : List UInt8) : Atr × Nat :=
  if 1 ≤ k ∧ k ≤ 8 then
    if flaggedB f k = false then (a, 4)
    else if longB k v.length = false then (a, 5)
    else if (layS a k v).2 ≠ 0 then (a, (layS a k v).2)
    else ({ (layS a k v).1 with has := a.has + 2 ^ k }, 0)
  else if f < 128 then (a, 2) else (a, 0)
theorem lay_any (f vc al ac g k : Nat) (vA aA : Option Addr) (a : Atr) (Ap Ac : Option Addr) (cp cc : Nat) (G : Foot) (w : World) (v : List UInt8) (h1 : 1 ≤ k) (h8 : k ≤ 8) (hlg : longB k v.length = true) (hl : v.length ≤ 50000) (hc : k = 8 → a.comms = [] ∧ Ac = none ∧ cc = 0) (hg : Bk w g 29 (atc a Ap cp Ac cc).toArray) (hm : Am w G a Ap cp Ac cc) (hG : ∀ k, G k → k < w.heap.size ∧ k ≠ g) (hv : Bs w w.heap.size vA v) (hn : vA = none → vc = 0) :
    Calls Tryz.prog 96 #[.agg (oneV f k vA v.length vc aA al ac), .pointer (some ⟨g, 0, none⟩)] w (RetLay g k (layS a k v).1 (layS a k v).2 G Ac cc w) := by
  have h : k = 1 ∨ k = 2 ∨ k = 3 ∨ k = 4 ∨ k = 5 ∨ k = 6 ∨ k = 7 ∨ k = 8 := by omega
  rcases h with rfl | rfl | rfl | rfl | rfl | rfl | rfl | rfl
  · have hx : v.length = 1 := of_decide_eq_true hlg
    obtain ⟨b, rfl⟩ := List.length_eq_one_iff.1 hx
    have := lay_1 f vc al ac g vA aA a Ap Ac cp cc G w [b] b rfl hg hm hG hv hn
    show Calls _ _ _ _ (RetLay g 1 { a with orig := (num [b] : Int) } (if num [b] ≤ 2 then 0 else 6) G Ac cc w)
    rw [num1]
    exact this
  · exact lay_2 f vc al ac g vA aA a Ap Ac cp cc G w v hl hg hm hG hv hn
  · exact lay_3 f vc al ac g vA aA a Ap Ac cp cc G w v (of_decide_eq_true hlg) hg hm hG hv hn
  · exact lay_4 f vc al ac g vA aA a Ap Ac cp cc G w v (of_decide_eq_true hlg) hg hm hG hv hn
  · exact lay_5 f vc al ac g vA aA a Ap Ac cp cc G w v (of_decide_eq_true hlg) hg hm hG hv hn
  · exact lay_6 f vc al ac g vA aA a Ap Ac cp cc G w v (by omega) hg hm hG hv hn
  · exact lay_7 f vc al ac g vA aA a Ap Ac cp cc G w v (of_decide_eq_true hlg) hg hm hG hv hn
  · obtain ⟨h0, rfl, rfl⟩ := hc rfl
    have hx : (decide (v.length % 4 = 0) && decide (v.length ≤ 1020)) = true := hlg
    rw [Bool.and_eq_true] at hx
    exact lay_8 f vc al ac g vA aA a Ap cp G w v (by omega) (of_decide_eq_true hx.1) h0 hg hm hG hv hn
theorem or_bit (h : Int) (k : Nat) (h0 : 0 ≤ h) (h1 : h < 512) (hk : k ≤ 8) (hb : bitI h k = false) : bits .or .i64 h (2 ^ k) = h + 2 ^ k := by
  have : ∀ (a : Fin 512) (k : Fin 9), bitI (a.val : Int) k.val = false → bits .or .i64 (a.val : Int) (2 ^ k.val) = (a.val : Int) + 2 ^ k.val := by decide +kernel
  have := this ⟨h.toNat, by omega⟩ ⟨k, by omega⟩
  simp only [Int.toNat_of_nonneg h0] at this
  exact this hb
theorem wf_small {x : Int} (h0 : 0 ≤ x) (h1 : x < 1024) : (Lit.int .i64 x).wf = true := by
  simp [Lit.wf, IntKind.min, IntKind.max, IntKind.signed, IntKind.bits]
  omega
set_option maxRecDepth 100000 in
set_option maxHeartbeats 4000000 in
theorem wrong_any (f vc al ac g k : Nat) (vA aA : Option Addr) (a : Atr) (Ap Ac : Option Addr) (cp cc : Nat) (G : Foot) (w : World) (v : List UInt8) (hf : f ≤ 255) (hh : 0 ≤ a.has ∧ a.has < 512) (hbit : bitI a.has k = false) (hl : v.length ≤ 50000) (hc : k = 8 → a.comms = [] ∧ Ac = none ∧ cc = 0) (hg : Bk w g 29 (atc a Ap cp Ac cc).toArray) (hm : Am w G a Ap cp Ac cc) (hG : ∀ k, G k → k < w.heap.size ∧ k ≠ g) (hv : Bs w w.heap.size vA v) (hn : vA = none → vc = 0) :
    Calls Tryz.prog 57 #[.agg (oneV f k vA v.length vc aA al ac), .pointer (some ⟨g, 0, none⟩)] w (RetLay g k (wrongS a f k v).1 (wrongS a f k v).2 G Ac cc w) := by
  have HB1 : Hid (Below w.heap.size w (w.alloc (.cells (oneV f k vA v.length vc aA al ac) 90))) := (Below.refl _ _).alloc (Nat.le_refl _) _
  have HX1 : Hid (Bk (w.alloc (.cells (oneV f k vA v.length vc aA al ac) 90)) w.heap.size 90 (oneV f k vA v.length vc aA al ac)) := Bk.new w _ _
  have HFl : Hid (∀ w', Calls Tryz.prog 93 #[.int .i64 (k : Int)] w' fun e w2 => e = .returned (.int .i64 (flg (k : Int))) ∧ w' = w2) := fun w' => flags_any k w'
  have HSame : Hid (∀ w', Below w.heap.size w w' → RetLay g k a 0 G Ac cc w (.returned (.int .i64 0)) w') := fun w' hb => ⟨rfl, Chg.of_below hb _, fun _ => ⟨Ap, cp, Ac, cc, hg.below hb hg.lt, (hm.bel hb).mono fun _ _ h => .inl h, fun _ => ⟨rfl, rfl⟩⟩⟩
  have HErr : Hid (∀ (a' : Atr) (s : Nat) w', s ≠ 0 → Below w.heap.size w w' → RetLay g k a' s G Ac cc w (.returned (.int .i64 (s : Int))) w') := fun a' s w' hs hb => ⟨rfl, Chg.of_below hb _, fun h => absurd h hs⟩
  have a128 := and128 f hf
  by_cases hk : 1 ≤ k ∧ k ≤ 8
  · have dfl : (flg (k : Int) != 0) = true := by
      have h : k = 1 ∨ k = 2 ∨ k = 3 ∨ k = 4 ∨ k = 5 ∨ k = 6 ∨ k = 7 ∨ k = 8 := by omega
      rcases h with rfl | rfl | rfl | rfl | rfl | rfl | rfl | rfl <;> decide
    have HFd : Hid (∀ w', Calls Tryz.prog 94 #[.agg (oneV f k vA v.length vc aA al ac)] w' fun e w2 => e = .returned (.bool (flaggedB f k)) ∧ Below w'.heap.size w' w2) := fun w' => flagged_any f k v.length vc al ac vA aA w' hf hk.1 hk.2
    have HLg : Hid (∀ w', Calls Tryz.prog 95 #[.agg (oneV f k vA v.length vc aA al ac)] w' fun e w2 => e = .returned (.bool (longB k v.length)) ∧ Below w'.heap.size w' w2) := fun w' => long_any f k v.length vc al ac vA aA w' hk.1 hk.2
    unfold wrongS
    rw [if_pos hk]
    have HLy : Hid (∀ w', longB k v.length = true → Below w.heap.size w w' → Calls Tryz.prog 96 #[.agg (oneV f k vA v.length vc aA al ac), .pointer (some ⟨g, 0, none⟩)] w' (RetLay g k (layS a k v).1 (layS a k v).2 G Ac cc w')) := fun w' h hb => lay_any f vc al ac g k vA aA a Ap Ac cp cc G w' v hk.1 hk.2 h hl hc (hg.below hb hg.lt) (hm.bel hb) (fun j hj => ⟨Nat.lt_of_lt_of_le (hG j hj).1 hb.size, (hG j hj).2⟩) ((hv.below hb (Nat.le_refl _)).more hb.size) hn
    have hgl := hg.lt
    have HGl := Lib.hid hG
    have hor := or_bit a.has k hh.1 hh.2 hk.2 hbit
    have HHs := Lib.hid (layS_has a k v)
    have HCl : Hid (∀ w', Below w.heap.size w w' → Below (w.heap.size + 1) (w.alloc (.cells (oneV f k vA v.length vc aA al ac) 90)) w' → Bk w' w.heap.size 90 (oneV f k vA v.length vc aA al ac)) := fun w' _ hb => HX1.out.below hb (Nat.lt_succ_self _)
    generalize layS a k v = ly at *
    generalize flg (k : Int) = fk at *
    clear hg hm hG hv hn hc hbit a128
    cases hfl : flaggedB f k
    · rw [hfl] at HFd
      rw [if_pos rfl]
      clear hfl
      unfold oneV at *
      go_enter Tryz.func57, Tryz.ntmps57
      go_wp2_with (first
        | (go_at_call 93; refine (HFl.out _).mono ?_; rintro e w2 ⟨rfl, rfl⟩)
        | (go_at_call 94; refine (HFd.out _).mono ?_; rintro e w3 ⟨rfl, h1⟩; have HB3 := Lib.hid (HB1.out.trans (h1.mono HB1.out.size)); clear h1))
      go_ret
      exact HErr.out a 4 _ (by decide) HB3.out
    · rw [hfl] at HFd
      rw [if_neg (by decide)]
      clear hfl
      cases hlg : longB k v.length
      · rw [hlg] at HLg
        rw [if_pos rfl]
        clear hlg
        unfold oneV at *
        go_enter Tryz.func57, Tryz.ntmps57
        go_wp2_with (first
          | (go_at_call 93; refine (HFl.out _).mono ?_; rintro e w2 ⟨rfl, rfl⟩)
          | (go_at_call 94; refine (HFd.out _).mono ?_; rintro e w3 ⟨rfl, h1⟩; have HB3 := Lib.hid (HB1.out.trans (h1.mono HB1.out.size)); have HX3 := Lib.hid (HX1.out.below h1 HX1.out.lt); have x0 := HX3.out.cell 0; have x1 := HX3.out.cell 1; have x2 := HX3.out.cell 2; have x3 := HX3.out.cell 3; simp at x0 x1 x2 x3; clear h1)
          | (go_at_call 95; refine (HLg.out _).mono ?_; rintro e w4 ⟨rfl, h1⟩; have HB4 := Lib.hid (HB3.out.trans (h1.mono HB3.out.size)); clear h1))
        go_ret
        exact HErr.out a 5 _ (by decide) HB4.out
      · have HLy := Lib.hid (fun w' hb => HLy.out w' hlg hb)
        rw [hlg] at HLg
        rw [if_neg (by decide)]
        clear hlg
        rcases Nat.eq_zero_or_pos ly.2 with hz | hp
        · rw [if_neg (by omega)]
          have dz : ((ly.2 : Int) != 0) = false := by rw [hz]; rfl
          have HZ := Lib.hid hz
          have HOr : Hid (bits .or .i64 a.has (IntKind.i64.wrap (2 ^ k)) = a.has + 2 ^ k) := by
            have : ∀ k : Fin 9, IntKind.i64.wrap (2 ^ k.val) = 2 ^ k.val := by decide +kernel
            rw [Hid, this ⟨k, by omega⟩]
            exact hor
          have HPw : Hid ((Lit.int .i64 (a.has + 2 ^ k)).wf = true) := by
            have : ∀ k : Fin 9, (0 : Int) ≤ 2 ^ k.val ∧ (2 : Int) ^ k.val ≤ 256 := by decide +kernel
            have := this ⟨k, by omega⟩
            have h0 := hh.1
            have h1 := hh.2
            exact wf_small (by simp only at this; omega) (by simp only at this; omega)
          clear hz hor
          unfold oneV at *
          go_enter Tryz.func57, Tryz.ntmps57
          go_upto_region 13 with (first
            | (go_at_call 93; refine (HFl.out _).mono ?_; rintro e w2 ⟨rfl, rfl⟩)
            | (go_at_call 94; refine (HFd.out _).mono ?_; rintro e w3 ⟨rfl, h1⟩; have HB3 := Lib.hid (HB1.out.trans (h1.mono HB1.out.size)); have HX3 := Lib.hid (HX1.out.below h1 HX1.out.lt); have x0 := HX3.out.cell 0; have x1 := HX3.out.cell 1; have x2 := HX3.out.cell 2; have x3 := HX3.out.cell 3; simp at x0 x1 x2 x3; clear h1)
            | (go_at_call 95; refine (HLg.out _).mono ?_; rintro e w4 ⟨rfl, h1⟩; have HB4 := Lib.hid (HB3.out.trans (h1.mono HB3.out.size)); have HX4 := Lib.hid (HX3.out.below h1 HX3.out.lt); have HLx := Lib.hid (HLy.out w4 HB4.out); have y0 := HX4.out.cell 0; have y1 := HX4.out.cell 1; have y2 := HX4.out.cell 2; have y3 := HX4.out.cell 3; simp at y0 y1 y2 y3; clear h1)
            | (go_at_call 96; refine HLx.out.mono ?_; rintro e w5 ⟨rfl, h1, h2⟩; have HC5 := Lib.hid h1; have HM5 := Lib.hid (h2 HZ.out); have HX5 := Lib.hid (HX4.out.chg h1 (by omega)); clear h1 h2))
          obtain ⟨A5, c5, B5, d5, hb5, hm5, hk5⟩ := HM5.out
          have q0 := hb5.cell 0
          simp only [atc, HHs.out] at q0
          simp at q0
          have z1 := HX5.out.cell 1
          simp at z1
          have qf := hb5.free 0
          have HB5 := Lib.hid hb5
          have HMm := Lib.hid hm5
          have HK5 := Lib.hid hk5
          clear hb5 hm5 hk5
          have HFin : Hid (RetLay g k { ly.1 with has := a.has + 2 ^ k } 0 G Ac cc w (.returned (.int .i64 0)) (w5.setCell ⟨g, 0, none⟩ (.int .i64 (a.has + 2 ^ k))).drew) := by
            have hch : Chg (fun k => k = g) w5 (w5.setCell ⟨g, 0, none⟩ (.int .i64 (a.has + 2 ^ k))).drew := ((Chg.refl (fun k => k = g) w5).put (p := ⟨g, 0, none⟩) (.inl rfl) _).drew
            have hm6 := HMm.out.chg hch fun j _ hj e => by
              have := HB4.out.size
              rcases hj with hj | hj
              · exact (HGl.out j hj).2 e
              · omega
            have hwf := hm6.wf
            refine ⟨rfl, ((Chg.of_below HB4.out _).trans HC5.out fun _ _ e => e).trans hch fun _ _ e => e, fun _ => ⟨A5, c5, B5, d5, (HB5.out.put 0 _).drew, ⟨⟨HPw.out, hwf.orig, hwf.hop, hwf.med, hwf.pref, hwf.aas, hwf.aid⟩, hm6.sp.mono fun j _ hj => ?_, Sn.mono hm6.sn fun j _ hj => ?_, hm6.w32⟩, HK5.out⟩⟩
            · exact hj.elim .inl fun h => .inr (Nat.le_trans HB4.out.size h)
            · exact hj.elim .inl fun h => .inr (Nat.le_trans HB4.out.size h)
          have HFi2 : Hid (RetLay g k { ly.1 with has := a.has + 2 ^ k } 0 G Ac cc w (.returned (.int .i64 0)) (w5.setCell ⟨g, 0, none⟩ (.int .i64 (bits .or .i64 a.has (IntKind.i64.wrap (2 ^ k))))).drew) := by
            rw [Hid, HOr.out]
            exact HFin.out
          go_region_with fail
          all_goals (go_wp2_with fail; go_ret; exact HFi2.out)
        · rw [if_pos (by omega)]
          have dz : ((ly.2 : Int) != 0) = true := by
            rw [bne_iff_ne]
            omega
          have HZ := Lib.hid hp
          clear hp hor
          unfold oneV at *
          go_enter Tryz.func57, Tryz.ntmps57
          go_wp2_with (first
            | (go_at_call 93; refine (HFl.out _).mono ?_; rintro e w2 ⟨rfl, rfl⟩)
            | (go_at_call 94; refine (HFd.out _).mono ?_; rintro e w3 ⟨rfl, h1⟩; have HB3 := Lib.hid (HB1.out.trans (h1.mono HB1.out.size)); have HX3 := Lib.hid (HX1.out.below h1 HX1.out.lt); have x0 := HX3.out.cell 0; have x1 := HX3.out.cell 1; have x2 := HX3.out.cell 2; have x3 := HX3.out.cell 3; simp at x0 x1 x2 x3; clear h1)
            | (go_at_call 95; refine (HLg.out _).mono ?_; rintro e w4 ⟨rfl, h1⟩; have HB4 := Lib.hid (HB3.out.trans (h1.mono HB3.out.size)); have HX4 := Lib.hid (HX3.out.below h1 HX3.out.lt); have HLx := Lib.hid (HLy.out w4 HB4.out); have y0 := HX4.out.cell 0; have y1 := HX4.out.cell 1; have y2 := HX4.out.cell 2; have y3 := HX4.out.cell 3; simp at y0 y1 y2 y3; clear h1)
            | (go_at_call 96; refine HLx.out.mono ?_; rintro e w5 ⟨rfl, h1, h2⟩; have HC5 := Lib.hid h1; clear h1 h2))
          go_ret
          exact ⟨rfl, (Chg.of_below HB4.out _).trans HC5.out fun _ _ e => e, fun h => absurd h (Nat.ne_of_gt HZ.out)⟩
  · have dfl : (flg (k : Int) != 0) = false := by
      have e : flg (k : Int) = 0 := by
        unfold flg
        rw [if_neg (by omega), if_neg (by omega), if_neg (by omega)]
      rw [e]
      rfl
    unfold wrongS
    rw [if_neg hk]
    generalize flg (k : Int) = fk at *
    clear hg hm hG hv hn hc hbit hh hk
    unfold oneV at *
    by_cases h128 : f < 128
    · rw [if_pos h128]
      have e128 : bits .and .i64 (f : Int) 128 = 0 := by rw [a128, if_neg (by omega)]
      clear a128
      go_enter Tryz.func57, Tryz.ntmps57
      go_wp2_with (go_at_call 93; refine (HFl.out _).mono ?_; rintro e w2 ⟨rfl, rfl⟩)
      go_ret
      exact HErr.out a 2 _ (by decide) HB1.out
    · rw [if_neg h128]
      have e128 : bits .and .i64 (f : Int) 128 = 128 := by rw [a128, if_pos (by omega)]
      clear a128
      go_enter Tryz.func57, Tryz.ntmps57
      go_wp2_with (go_at_call 93; refine (HFl.out _).mono ?_; rintro e w2 ⟨rfl, rfl⟩)
      go_ret
      exact HSame.out _ HB1.out
end Go.Proofs.YtaeeeinpelfppaaGreat.attr

namespace Go.Proofs.YtaeeeinpelfppaaGreat.attr
open Go.RowKit Go.Proofs.YtaeeeinpelfppaaGreat.kit Go.Proofs.YtaeeeinpelfppaaGreat.mem Go.Proofs.YtaeeeinpelfppaaGreat.foot Go.Proofs.YtaeeeinpelfppaaGreat.nums Go.Proofs.YtaeeeinpelfppaaGreat.asn Go.Proofs.YtaeeeinpelfppaaGreat.pth Go.Proofs.YtaeeeinpelfppaaGreat.octet
set_option linter.unusedVariables false
theorem att1_lt {l q : List UInt8} {x : At1} (h : att1 l = some (x, q)) : q.length < l.length := by
  rcases l with _ | ⟨f, _ | ⟨k, t⟩⟩
  · cases h
  · cases h
  · dsimp only [att1] at h
    split at h
    · have e := congrArg Prod.snd (Option.some.inj h)
      simp only at e
      rw [← e]
      simp only [List.length_drop, List.length_cons]
      omega
    · cases h
/-- what is read of bytes: the attributes, or what is told of the first error (sub, bytes) -/
inductive Dec where
  | ok (a : Atr)
  | err (sub : Nat) (data : List UInt8)
noncomputable def decF : Nat → List UInt8 → List Nat → Atr → Dec
  | _, [], _, a => .ok (normA a)
  | 0, _ :: _, _, a => .ok a
  | n + 1, b :: l, seen, a => match att1 (b :: l) with
    | none => .err 1 []
    | some (x, q) => if x.k ∈ seen then .err 1 [] else
      if (wrongS a x.f x.k x.v).2 ≠ 0 then .err (wrongS a x.f x.k x.v).2 (if (wrongS a x.f x.k x.v).2 = 11 then [] else x.all)
      else decF n q (x.k :: seen) (wrongS a x.f x.k x.v).1
noncomputable def decS (l : List UInt8) : Dec := decF l.length l [] zeroA
theorem decF_more : ∀ (n m : Nat) (l : List UInt8) (seen : List Nat) (a : Atr), l.length ≤ n → l.length ≤ m → decF n l seen a = decF m l seen a
  | n, m, [], seen, a, _, _ => by cases n <;> cases m <;> rfl
  | 0, m, b :: l, seen, a, h, _ => by simp at h
  | n + 1, 0, b :: l, seen, a, _, h => by simp at h
  | n + 1, m + 1, b :: l, seen, a, h1, h2 => by
    unfold decF
    rcases hx : att1 (b :: l) with _ | ⟨x, q⟩
    · rfl
    · have hlt := att1_lt hx
      dsimp only
      rw [decF_more n m q _ _ (by omega) (by omega)]
/-- the same from any place on -/
noncomputable def decQ (l : List UInt8) (seen : List Nat) (a : Atr) : Dec := decF l.length l seen a
theorem decQ_nil (seen : List Nat) (a : Atr) : decQ [] seen a = .ok (normA a) := rfl
theorem decQ_none {l : List UInt8} {seen : List Nat} {a : Atr} (hl : l ≠ []) (h : att1 l = none) : decQ l seen a = .err 1 [] := by
  rcases l with _ | ⟨b, l⟩
  · exact absurd rfl hl
  · unfold decQ
    show decF (l.length + 1) (b :: l) seen a = _
    unfold decF
    rw [h]
theorem decQ_some {l q : List UInt8} {x : At1} {seen : List Nat} {a : Atr} (h : att1 l = some (x, q)) : decQ l seen a = if x.k ∈ seen then .err 1 [] else
      if (wrongS a x.f x.k x.v).2 ≠ 0 then .err (wrongS a x.f x.k x.v).2 (if (wrongS a x.f x.k x.v).2 = 11 then [] else x.all)
      else decQ q (x.k :: seen) (wrongS a x.f x.k x.v).1 := by
  have hlt := att1_lt h
  rcases l with _ | ⟨b, l⟩
  · simp at hlt
  · unfold decQ
    show decF (l.length + 1) (b :: l) seen a = _
    rw [decF]
    rw [h]
    dsimp only
    rw [decF_more l.length q.length q _ _ (by simp at hlt; omega) (Nat.le_refl _)]
end Go.Proofs.YtaeeeinpelfppaaGreat.attr

namespace Go.Proofs.YtaeeeinpelfppaaGreat.attr
open Go.RowKit Go.Proofs.YtaeeeinpelfppaaGreat.kit Go.Proofs.YtaeeeinpelfppaaGreat.mem Go.Proofs.YtaeeeinpelfppaaGreat.foot Go.Proofs.YtaeeeinpelfppaaGreat.nums Go.Proofs.YtaeeeinpelfppaaGreat.asn Go.Proofs.YtaeeeinpelfppaaGreat.pth Go.Proofs.YtaeeeinpelfppaaGreat.octet
set_option linter.unusedVariables false
set_option linter.unusedSimpArgs false
theorem wrongS_has (a : Atr) (f k : Nat) (v : List UInt8) (hs : (wrongS a f k v).2 = 0) : (wrongS a f k v).1.has = a.has ∨ ((wrongS a f k v).1.has = a.has + 2 ^ k ∧ 1 ≤ k ∧ k ≤ 8) := by
  unfold wrongS at hs ⊢
  by_cases hk : 1 ≤ k ∧ k ≤ 8
  · rw [if_pos hk] at hs ⊢
    split at hs
    · cases hs
    · split at hs
      · cases hs
      · split at hs
        · exact absurd hs (by assumption)
        · rename_i h1 h2 h3
          rw [if_neg h1, if_neg h2, if_neg h3]
          exact .inr ⟨rfl, hk⟩
  · rw [if_neg hk] at hs ⊢
    split
    · exact .inl rfl
    · exact .inl rfl
/-- bits of types not yet seen are not set -/
def BitsOk (seen : List Nat) (a : Atr) : Prop := (0 ≤ a.has ∧ a.has < 512) ∧ ∀ k, k ∉ seen → bitI a.has k = false
theorem bit_add (h : Int) (k j : Nat) (h0 : 0 ≤ h) (h1 : h < 512) (hk : k ≤ 8) (hb : bitI h k = false) : (0 ≤ h + 2 ^ k ∧ h + 2 ^ k < 512) ∧ (j ≠ k → bitI h j = false → bitI (h + 2 ^ k) j = false) := by
  have h2 : ∀ (a : Fin 512) (k : Fin 9), bitI (a.val : Int) k.val = false → (0 ≤ (a.val : Int) + 2 ^ k.val ∧ (a.val : Int) + 2 ^ k.val < 512) ∧ ∀ j : Fin 9, j ≠ k → bitI (a.val : Int) j.val = false → bitI ((a.val : Int) + 2 ^ k.val) j.val = false := by decide +kernel
  have h3 := h2 ⟨h.toNat, by omega⟩ ⟨k, by omega⟩
  simp only [Int.toNat_of_nonneg h0] at h3
  have h4 := h3 hb
  refine ⟨h4.1, fun hj hbj => ?_⟩
  by_cases h8 : j ≤ 8
  · exact h4.2 ⟨j, by omega⟩ (fun e => hj (congrArg Fin.val e)) hbj
  · have e : (h + 2 ^ k) / 2 ^ j = 0 := by
      apply Int.ediv_eq_zero_of_lt h4.1.1
      have : (2 : Int) ^ 9 ≤ 2 ^ j := by
        have : (2 : Nat) ^ 9 ≤ 2 ^ j := Nat.pow_le_pow_right (by omega) (by omega)
        exact_mod_cast this
      have h5 := h4.1.2
      omega
    unfold bitI
    rw [e]
    rfl
theorem BitsOk.zero : BitsOk [] zeroA := ⟨by decide, fun k _ => by
  unfold bitI zeroA
  simp⟩
theorem BitsOk.next {seen : List Nat} {a : Atr} {f k : Nat} {v : List UInt8} (h : BitsOk seen a) (hk : k ∉ seen) (hs : (wrongS a f k v).2 = 0) : BitsOk (k :: seen) (wrongS a f k v).1 := by
  have hb := h.2 k hk
  rcases wrongS_has a f k v hs with e | ⟨e, h1, h8⟩
  · exact ⟨by rw [e]; exact h.1, fun j hj => by rw [e]; exact h.2 j fun hm => hj (List.mem_cons_of_mem _ hm)⟩
  · refine ⟨by rw [e]; exact (bit_add a.has k k h.1.1 h.1.2 h8 hb).1, fun j hj => ?_⟩
    rw [e]
    exact (bit_add a.has k j h.1.1 h.1.2 h8 hb).2 (fun e => hj (e ▸ List.mem_cons_self ..)) (h.2 j fun hm => hj (List.mem_cons_of_mem _ hm))
theorem bs_chg {w w' : World} {B g : Nat} {A : Option Addr} {x : List UInt8} {t : TypeId} {cs : Array Value} (h : Bs w B A x) (hk : Bk w g t cs) (hn : ∀ (i : Nat) (v : Value), cs[i]? = some v → ∀ n : Int, v ≠ Value.int .u8 n) (hc : Chg (fun k => k = g) w w') (hB : B ≤ w.heap.size) : Bs w' B A x := by
  obtain ⟨h1, h2⟩ := h
  refine ⟨h1, fun hp => ?_⟩
  obtain ⟨b, off, e1, e2, e3⟩ := h2 hp
  refine ⟨b, off, e1, e2, fun j v hv => ?_⟩
  have h3 := e3 j v hv
  have hne : b ≠ g := by
    intro e
    subst e
    rw [hk.cell] at h3
    have hm := List.mem_of_getElem? hv
    simp [bv] at hm
    obtain ⟨c, _, hc⟩ := hm
    exact hn _ _ h3 _ hc.symm
  rw [← h3]
  exact World.cell?_of_block (hc.block b (by omega) hne)
/-- the memory within attr.Decode's loop -/
structure DQ (w : World) (r sb : Nat) (q : List UInt8) (seen ms : List Nat) (a : Atr) (wr : World) : Prop where
  z2 : Bk wr w.heap.size 29 zeroC.toArray
  z3 : Bk wr (w.heap.size + 1) 33 #[.int .i64 0, .int .i64 0, .slice none 0 0]
  at_ : ∃ Ap cp Ac cc, Bk wr (w.heap.size + 2) 29 (atc a Ap cp Ac cc).toArray ∧ Am wr (fun k => w.heap.size + 2 < k ∧ k ≠ r ∧ k ≠ sb) a Ap cp Ac cc ∧ (8 ∉ seen → a.comms = [] ∧ Ac = none ∧ cc = 0)
  rd : Rdr wr r q false
  sn : ∃ cs : Array Value, Bk wr sb 88 cs ∧ cs.size = 256 ∧ ∀ k, k < 256 → cs[k]? = some (.bool (decide (k ∈ ms)))
  bel : Below w.heap.size w wr
  bits : BitsOk seen a
  lr : w.heap.size + 2 < r
  rs : r < sb
section
variable {w wr w' : World} {r sb : Nat} {q q' : List UInt8} {seen ms : List Nat} {a : Atr} {bad : Bool}
theorem DQ.go (h : DQ w r sb q seen ms a wr) (hb : Below wr.heap.size wr w') : DQ w r sb q seen ms a w' := by
  obtain ⟨Ap, cp, Ac, cc, k1, k2, k3⟩ := h.at_
  obtain ⟨cs, s1, s2, s3⟩ := h.sn
  exact ⟨h.z2.below hb h.z2.lt, h.z3.below hb h.z3.lt, ⟨Ap, cp, Ac, cc, k1.below hb k1.lt, k2.bel hb, k3⟩, h.rd.below hb h.rd.lt, ⟨cs, s1.below hb s1.lt, s2, s3⟩, h.bel.trans (hb.mono h.bel.size), h.bits, h.lr, h.rs⟩
theorem DQ.read (h : DQ w r sb q seen ms a wr) (hr : Rdr w' r q' false) (hg : wr.grownBy w' (some r)) : DQ w r sb q' seen ms a w' := by
  obtain ⟨Ap, cp, Ac, cc, k1, k2, k3⟩ := h.at_
  obtain ⟨cs, s1, s2, s3⟩ := h.sn
  have h1 := h.lr
  have h2 := h.rs
  have hc := chg_of_grown hg
  exact ⟨h.z2.chg hc (by omega), h.z3.chg hc (by omega), ⟨Ap, cp, Ac, cc, k1.chg hc (by omega), k2.chg hc fun k _ hk e => hk.2.1 e, k3⟩, hr, ⟨cs, s1.chg hc (by omega), s2, s3⟩, h.bel.trans (hc.below (fun k e => by omega) h.bel.size), h.bits, h1, h2⟩
/-- a type marked as seen -/
theorem DQ.mark (h : DQ w r sb q seen ms a wr) {k : Nat} (hk : k < 256) : DQ w r sb q seen (k :: ms) a (wr.setCell ⟨sb, k, none⟩ (.bool true)) := by
  obtain ⟨Ap, cp, Ac, cc, k1, k2, k3⟩ := h.at_
  obtain ⟨cs, s1, s2, s3⟩ := h.sn
  have h1 := h.lr
  have h2 := h.rs
  have hc : Chg (fun j => j = sb) wr (wr.setCell ⟨sb, k, none⟩ (.bool true)) := (Chg.refl (fun j => j = sb) wr).put (p := ⟨sb, k, none⟩) (.inl rfl) _
  have hb : Below sb wr (wr.setCell ⟨sb, k, none⟩ (.bool true)) := hc.below (fun j e => Nat.le_of_eq e.symm) (Nat.le_of_lt s1.lt)
  refine ⟨h.z2.chg hc (by omega), h.z3.chg hc (by omega), ⟨Ap, cp, Ac, cc, k1.chg hc (by omega), k2.chg hc fun k _ hk e => hk.2.2 e, k3⟩, h.rd.below hb (by omega), ⟨cs.setIfInBounds k (.bool true), s1.put k _, by simp [s2], fun j hj => ?_⟩, h.bel.trans (hc.below (fun k e => by omega) h.bel.size), h.bits, h1, h2⟩
  rw [Array.getElem?_setIfInBounds]
  by_cases e : k = j
  · subst e
    rw [if_pos rfl, if_pos (by omega)]
    simp
  · rw [if_neg e, s3 j hj]
    have : (j ∈ k :: ms) ↔ (j ∈ ms) := by
      rw [List.mem_cons]
      constructor
      · rintro (h | h)
        · exact absurd h.symm e
        · exact h
      · exact .inr
    simp only [this]
/-- an attribute laid among the others -/
theorem DQ.step (h : DQ w r sb q seen ms a wr) {f k : Nat} {v : List UInt8} {Ap Ac : Option Addr} {cp cc : Nat} {e : Ending}
    (hAc : 8 ∉ seen → Ac = none ∧ cc = 0) (hk : k ∉ seen) (hs : (wrongS a f k v).2 = 0)
    (hr : RetLay (w.heap.size + 2) k (wrongS a f k v).1 (wrongS a f k v).2 (fun j => (w.heap.size + 2 < j ∧ j ≠ r ∧ j ≠ sb) ∧ j < wr.heap.size) Ac cc wr e w')
    (hcm : k ≠ 8 → (wrongS a f k v).1.comms = a.comms) (hc0 : 8 ∉ seen → a.comms = []) : DQ w r sb q (k :: seen) ms (wrongS a f k v).1 w' := by
  obtain ⟨cs, s1, s2, s3⟩ := h.sn
  have h1 := h.lr
  have h2 := h.rs
  obtain ⟨_, hc, hm⟩ := hr
  obtain ⟨Ap', cp', Ac', cc', k1, k2, k3⟩ := hm hs
  have hrd : Rdr w' r q false := by
    obtain ⟨A0, c0, t1, t2, t3, t4, t5⟩ := h.rd
    obtain ⟨Ax, cx, Ay, cy, y1, _, _⟩ := h.at_
    exact ⟨A0, c0, t1.chg hc (by omega), t2, t3, t4, bs_chg t5 y1 (atc_nob a Ax cx Ay cy) hc (Nat.le_of_lt t1.lt)⟩
  refine ⟨h.z2.chg hc (by omega), h.z3.chg hc (by omega), ⟨Ap', cp', Ac', cc', k1, k2.mono fun j hj hx => ?_, fun h8 => ?_⟩, hrd, ⟨cs, s1.chg hc (by omega), s2, s3⟩, h.bel.trans (hc.below (fun k e => by omega) h.bel.size), h.bits.next hk hs, h1, h2⟩
  · rcases hx with hx | hx
    · exact hx.1
    · have := s1.lt
      exact ⟨by omega, by omega, by omega⟩
  · have h9 : 8 ∉ seen := fun hm => h8 (List.mem_cons_of_mem _ hm)
    have hk8 : k ≠ 8 := fun e => h8 (e ▸ List.mem_cons_self ..)
    obtain ⟨e1, e2⟩ := hAc h9
    obtain ⟨e3, e4⟩ := k3 hk8
    exact ⟨by rw [hcm hk8]; exact hc0 h9, e3.trans e1, e4.trans e2⟩
end
end Go.Proofs.YtaeeeinpelfppaaGreat.attr
