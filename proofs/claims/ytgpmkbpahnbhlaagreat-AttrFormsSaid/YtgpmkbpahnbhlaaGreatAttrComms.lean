/- What (attr.one).lay does with communities. Condition: whole numbers, at most 10^5 bytes; none were there. -/
import Derived.Test.YtgpmkbpahnbhlaaGreatAttrLay
namespace Go.Proofs.YtgpmkbpahnbhlaaGreat.attr
open Go.RowKit Go.Proofs.YtgpmkbpahnbhlaaGreat.kit Go.Proofs.YtgpmkbpahnbhlaaGreat.mem Go.Proofs.YtgpmkbpahnbhlaaGreat.foot Go.Proofs.YtgpmkbpahnbhlaaGreat.nums Go.Proofs.YtgpmkbpahnbhlaaGreat.asn Go.Proofs.YtgpmkbpahnbhlaaGreat.pth Go.Proofs.YtgpmkbpahnbhlaaGreat.octet
set_option linter.unusedVariables false
set_option linter.unusedSimpArgs false
/-- so many communities are read -/
structure CQ (w : World) (g r : Nat) (a : Atr) (Ap : Option Addr) (cp : Nat) (G : Foot) (l : List UInt8) (bad : Bool) (xs : List Nat) (Aa : Option Addr) (ca : Nat) (wr : World) : Prop where
  bk : Bk wr g 26 (atc { a with comms := xs } Ap cp Aa ca).toArray
  sp : Sp wr G Ap cp a.path
  rd : Rdr wr r l bad
  own : foot.Own wr 23 1 Aa xs.length ca (uv xs)
  lo : ∀ k, sf Aa k → r < k
  ch : Chg (fun k => k = g) w wr
  gl : g < w.heap.size
  rl : w.heap.size < r
  gG : ¬ G g
  lG : ∀ k, G k → k < w.heap.size
section
variable {w wr w3 w4 : World} {g r x c' cp ca : Nat} {a : Atr} {Ap Aa A' : Option Addr} {G : Foot} {l l3 : List UInt8} {bad b3 : Bool} {xs : List Nat}
theorem CQ.start (h : LQ w g a Ap cp none 0 G r l bad wr) (hc : a.comms = []) : CQ w g r a Ap cp G l bad [] none 0 wr :=
  ⟨by
    have e : ({ a with comms := [] } : Atr) = a := by rw [← hc]
    rw [e]
    exact h.bk, h.am.sp, h.rd, foot.Own.none_ _ _ _, fun k hk => absurd hk (sf_none k), h.ch, h.gl, h.rl, h.gG, h.lG⟩
theorem CQ.drewN (h : CQ w g r a Ap cp G l bad xs Aa ca wr) (n : Nat) : CQ w g r a Ap cp G l bad xs Aa ca (wr.drewN n) :=
  ⟨h.bk, h.sp.bel (below_drewN (Below.refl _ _) n), h.rd, h.own.bel (below_drewN (Below.refl _ _) n), h.lo, h.ch.drewN n, h.gl, h.rl, h.gG, h.lG⟩
theorem CQ.read (h : CQ w g r a Ap cp G l bad xs Aa ca wr) (hr : Rdr w3 r l3 b3) (hg : wr.grownBy w3 (some r)) : CQ w g r a Ap cp G l3 b3 xs Aa ca w3 := by
  have h1 := h.gl
  have h2 := h.rl
  have hc := chg_of_grown hg
  exact ⟨h.bk.chg hc (by omega), h.sp.chg hc fun k _ hk e => by have := h.lG k hk; omega, hr, h.own.chg hc fun k _ hk e => by have := h.lo k hk; omega, h.lo, h.ch.trans hc fun i hi e => by omega, h1, h2, h.gG, h.lG⟩
theorem CQ.put (h : CQ w g r a Ap cp G l bad xs Aa ca wr) (ho : foot.Own w4 23 1 A' (xs.length + 1) c' (uv xs ++ [.int .u32 (x : Int)])) (hc : Chg (sf Aa) (wr.alloc (.cells #[.int .u32 (x : Int)] 23)) w4) (hf : Fresh (wr.alloc (.cells #[.int .u32 (x : Int)] 23)) (sf Aa) (sf A')) :
    Bk w4 g 26 (atc { a with comms := xs } Ap cp Aa ca).toArray ∧ CQ w g r a Ap cp G l bad (xs ++ [x]) A' c' (w4.setCell ⟨g, 8, none⟩ (.slice A' (xs.length + 1) c')) := by
  have h1 := h.gl
  have h2 := h.rl
  have hrw := h.rd.lt
  have hb : Below wr.heap.size wr (wr.alloc (.cells #[.int .u32 (x : Int)] 23)) := (Below.refl _ _).alloc (Nat.le_refl _) _
  have hAg : ¬ sf Aa g := fun e => by have := h.lo _ e; omega
  have hAr : ¬ sf Aa r := fun e => by have := h.lo _ e; omega
  have hbk4 := (h.bk.below hb h.bk.lt).chg hc hAg
  have hlo' : ∀ k, sf A' k → r < k := fun k hk => by
    rcases hf k hk with e | e
    · exact h.lo k e
    · have := hb.size; omega
  have hst : Chg (fun k => k = g) w4 (w4.setCell ⟨g, 8, none⟩ (.slice A' (xs.length + 1) c')) := (Chg.refl (fun k => k = g) w4).put (p := ⟨g, 8, none⟩) (.inl rfl) _
  have hsp4 : Sp w4 G Ap cp a.path := (h.sp.bel hb).chg hc fun k _ hk e => by have := h.lG k hk; have := h.lo k e; omega
  have hrd4 : Rdr w4 r l bad := by
    obtain ⟨A0, c0, k1, k2, k3, k4, k5⟩ := h.rd
    refine ⟨A0, c0, (k1.below hb k1.lt).chg hc hAr, k2, k3, k4, k5.keep fun b o hbr => ?_⟩
    rw [World.cell?_of_block (w := wr.alloc (.cells #[.int .u32 (x : Int)] 23)) (hc.block b (by have := hb.size; have := k1.lt; omega) (fun e => by have := h.lo b e; omega))]
    exact hb.cell (p := ⟨b, o, none⟩) (by have := k1.lt; show b < _; omega)
  refine ⟨hbk4, ?_, hsp4.chg hst fun k _ hk e => h.gG (e ▸ hk), ?_, ?_, hlo', ?_, h1, h2, h.gG, h.lG⟩
  · have h3 := hbk4.put 8 (.slice A' (xs.length + 1) c')
    have e : (atc { a with comms := xs ++ [x] } Ap cp A' c').toArray = (atc { a with comms := xs } Ap cp Aa ca).toArray.setIfInBounds 8 (.slice A' (xs.length + 1) c') := by
      simp [atc]
    rw [e]
    exact h3
  · obtain ⟨A0, c0, k1, k2, k3, k4, k5⟩ := hrd4
    exact ⟨A0, c0, k1.chg hst (by omega), k2, k3, k4, bs_apart k5 hbk4 (atc_nob _ Ap cp Aa ca) 8 _⟩
  · rw [List.length_append, uv_app]
    exact ho.chg hst fun k _ hk e => by have := hlo' k hk; omega
  · exact ((h.ch.bel hb).trans hc fun i hi e => by have := h.lo i e; omega).trans hst fun _ _ e => e
theorem CQ.ret (h : CQ w g r a Ap cp G l bad xs Aa ca wr) (hw : Awf a) (h32 : W32 xs) : RetLay g 8 { a with comms := xs } 0 G none 0 w (.returned (.int .i64 0)) wr :=
  ⟨rfl, h.ch, fun _ => ⟨Ap, cp, Aa, ca, h.bk, ⟨⟨hw.has, hw.orig, hw.hop, hw.med, hw.pref, hw.aas, hw.aid⟩, h.sp.mono fun _ _ hk => .inl hk, ⟨h.own.nil, h.own.cap, h.own.max, h.own.rg.mono fun k _ hk => .inr (by have := h.lo k hk; have := h.rl; omega)⟩, h32⟩, fun e => absurd rfl e⟩⟩
end
set_option maxRecDepth 100000 in
set_option maxHeartbeats 4000000 in
theorem lay_8 (f vc al ac g : Nat) (vA aA : Option Addr) (a : Atr) (Ap : Option Addr) (cp : Nat) (G : Foot) (w : World) (v : List UInt8) (hl : v.length ≤ 100000) (h4 : v.length % 4 = 0) (hc0 : a.comms = []) (hg : Bk w g 26 (atc a Ap cp none 0).toArray) (hm : Am w G a Ap cp none 0) (hG : ∀ k, G k → k < w.heap.size ∧ k ≠ g) (hv : Bs w w.heap.size vA v) (hn : vA = none → vc = 0) :
    Calls Tryz.prog 70 #[.agg (oneV f 8 vA v.length vc aA al ac), .pointer (some ⟨g, 0, none⟩)] w (RetLay g 8 { a with comms := nums4 v } 0 G none 0 w) := by
  have HNw := Lib.hid (lay_new f vc al ac g vA aA a Ap none cp 0 G w 8 v hl hg hm hG hv hn)
  have HNw : Hid (Calls Tryz.prog 44 #[.slice vA v.length vc] (w.alloc (.cells #[.int .i64 (f : Int), .int .i64 8, .slice vA v.length vc, .slice aA al ac] 65)) fun e w2 => ∃ r, e = .returned (.pointer (some ⟨r, 0, none⟩)) ∧ LQ w g a Ap cp none 0 G r v false w2 ∧ Bk w2 w.heap.size 65 #[.int .i64 (f : Int), .int .i64 8, .slice vA v.length vc, .slice aA al ac] ∧ Below w.heap.size w w2) := HNw.out
  obtain ⟨j0, hj, hy0, hy1, hy2⟩ := info_parts info_u32
  have Hj := Lib.hid hj
  have Hy0 := Lib.hid hy0
  have Hy1 := Lib.hid hy1
  have Hy2 := Lib.hid hy2
  have Hc0 := Lib.hid hc0
  have Hwf := Lib.hid hm.wf
  have HLf := Lib.hid (fun (w : World) (r : Nat) (l : List UInt8) (b : Bool) (h : Rdr w r l b) => Left_any r l b w h)
  have HU32 := Lib.hid (fun (w : World) (r : Nat) (l : List UInt8) (b : Bool) (h : Rdr w r l b) => u32_any r l b w h)
  obtain ⟨n, hn4⟩ : ∃ n, v.length = 4 * n := ⟨v.length / 4, by omega⟩
  have HN := Lib.hid hn4
  have hn5 : n ≤ 25000 := by omega
  clear hg hm hG hv hn hj hy0 hy1 hy2 hc0 h4 hn4
  unfold oneV
  go_enter Tryz.func70, Tryz.ntmps70
  go_wp2_with (go_at_call 44; refine HNw.out.mono ?_; rintro e w2 ⟨r, rfl, h1, h2⟩; have HL2 := Lib.hid h1; have p1 := h2.1.cell 1; simp at p1; clear h1 h2)
  go_loopw [] (fun wr => ∃ (i : Nat) (xs : List Nat) (Aa : Option Addr) (ca : Nat), i ≤ n ∧ xs.length = i ∧ xs = nums4 (v.take (4 * i)) ∧ CQ w g r a Ap cp G (v.drop (4 * i)) false xs Aa ca wr) (fun wr => lenAt wr r)
  case atStart => exact ⟨0, [], none, 0, by omega, rfl, rfl, CQ.start HL2.out Hc0.out⟩
  case round =>
    obtain ⟨i, xs, Aa, ca, hin, hxi, hxs, hcq⟩ := hrel
    have HP := Lib.hid hcq
    have HXs := Lib.hid hxs
    have HXi := Lib.hid hxi
    have HLfx := Lib.hid (HLf.out wr r _ false hcq.rd)
    have HLn := Lib.hid (rdr_len hcq.rd)
    clear hcq hxs hxi
    by_cases hlt : i < n
    · have dl : 0 < (v.drop (4 * i)).length := by rw [List.length_drop, HN.out]; omega
      have h44 : 4 ≤ (v.drop (4 * i)).length := by rw [List.length_drop, HN.out]; omega
      have HUx : Hid (∀ wz, Rdr wz r (v.drop (4 * i)) false → Calls Tryz.prog 83 #[.pointer (some ⟨r, 0, none⟩)] wz fun e w' => e = .returned (.int .u32 (num ((v.drop (4 * i)).take 4) : Int)) ∧ Rdr w' r (v.drop (4 * (i + 1))) false ∧ wz.grownBy w' (some r)) := fun wz h => by
        have h1 := HU32.out wz r _ false h
        have h2 := rok4 h44
        have e : (v.drop (4 * i)).drop 4 = v.drop (4 * (i + 1)) := by rw [List.drop_drop]; congr 1
        rw [h2.1, h2.2.1, h2.2.2, e] at h1
        exact h1
      have HNx : Hid (nums4 (v.take (4 * (i + 1))) = xs ++ [num ((v.drop (4 * i)).take 4)]) := by rw [Hid, nums4_next (by rw [HN.out]; omega), HXs.out]
      have HMs : Hid ((v.drop (4 * (i + 1))).length < (v.drop (4 * i)).length) := by rw [Hid, List.length_drop, List.length_drop, HN.out]; omega
      have hxl : xs.length ≤ 25000 := by have := HXi.out; omega
      clear h44
      generalize num ((v.drop (4 * i)).take 4) = x at *
      generalize hL' : (v.drop (4 * i)).length = L' at *
      clear hL'
      go_upto_region 24 with (go_at_call 45; refine HLfx.out.mono ?_; rintro e w' ⟨rfl, rfl⟩)
      have HCs : Hid (∀ wz, CQ w g r a Ap cp G (v.drop (4 * i)) false xs Aa ca wz → wz.cell? ⟨g, 8, none⟩ = some (.slice Aa xs.length ca)) := fun wz h => (h.bk.cell 8).trans rfl
      have HPd : Hid (CQ w g r a Ap cp G (v.drop (4 * i)) false xs Aa ca wr.drew) := HP.out.drewN 1
      have HUd := Lib.hid (HUx.out _ HPd.out.rd)
      have k1 := HCs.out _ HPd.out
      have kf := HPd.out.bk.free 8
      have kl := HPd.out.bk.lt
      have HPut : Hid (∀ (wz w4 : World) (A' : Option Addr) (c' : Nat), CQ w g r a Ap cp G (v.drop (4 * (i + 1))) false xs Aa ca wz → foot.Own w4 23 1 A' (xs.length + 1) c' (uv xs ++ [.int .u32 (x : Int)]) → Chg (sf Aa) (wz.alloc (.cells #[.int .u32 (x : Int)] 23)) w4 → Fresh (wz.alloc (.cells #[.int .u32 (x : Int)] 23)) (sf Aa) (sf A') → Bk w4 g 26 (atc { a with comms := xs } Ap cp Aa ca).toArray ∧ CQ w g r a Ap cp G (v.drop (4 * (i + 1))) false (xs ++ [x]) A' c' (w4.setCell ⟨g, 8, none⟩ (.slice A' (xs.length + 1) c'))) := fun wz w4 A' c' h1 h2 h3 h4 => h1.put h2 h3 h4
      go_region_law (first
        | (refine step_app _ rfl (.tmp 96) (.tmp 99) _ rfl 23 j0 _ 1 4 Tryz.underlying24 Hj.out Hy0.out Hy1.out Hy2.out rfl (by omega) Aa xs.length ca (uv xs) rfl (by exact HOa.out) _ (some ⟨w5.heap.size, 0, none⟩) 1 1 (by intro h; cases h) [.int .u32 (x : Int)] rfl (by exact HRa.out) (by intro u hu; simp at hu; rw [hu]; rfl) (by unfold maxLen; omega) (by omega) ?_; intro A7 c7 w7 ho7 hc7 hf7; clear k1 kf kl; go_must (have HE7 := Lib.hid (HPut.out w5 w7 A7 c7 HP5.out ho7 hc7 hf7)); go_must (have k1 := (HE7.out.1.cell 8).trans (show _ = some _ from rfl)); go_must (have kf := HE7.out.1.free 8); go_must (have kl := HE7.out.1.lt); clear ho7 hc7 hf7)
        | (go_simp; go_at_call 83; refine HUd.out.mono ?_; rintro e w5 ⟨rfl, h1, h2⟩; clear k1 kf kl; go_must (have HP5 := Lib.hid (HPd.out.read h1 h2)); go_must (have k1 := (HP5.out.bk.cell 8).trans (show _ = some _ from rfl)); go_must (have kf := HP5.out.bk.free 8); go_must (have kl := HP5.out.bk.lt); go_must (have HOa : Hid (foot.Own (w5.alloc (.cells #[.int .u32 (x : Int)] 23)) 23 1 Aa xs.length ca (uv xs)) := HP5.out.own.bel ((Below.refl _ _).alloc (Nat.le_refl _) _)); go_must (have HRa := Lib.hid (Rg.new w5 23 1 1 #[.int .u32 (x : Int)] rfl)); clear h1 h2))
      all_goals
        go_wp2_with fail
        go_roundw
        case rel => exact ⟨i + 1, xs ++ [x], A7, c7, by omega, by rw [List.length_append, HXi.out]; rfl, HNx.out.symm, HE7.out.2⟩
        case measure => rw [rdr_len HE7.out.2.rd, HLn.out]; exact HMs.out
    · obtain rfl : i = n := by omega
      have e0 : v.drop (4 * i) = [] := List.drop_eq_nil_of_le (by rw [HN.out]; omega)
      have e1 : v.take (4 * i) = v := List.take_of_length_le (by rw [HN.out]; omega)
      rw [e0] at HLfx
      rw [e1] at HXs
      have HLfx : Hid (Calls Tryz.prog 45 #[.pointer (some ⟨r, 0, none⟩)] wr fun e w' => e = .returned (.int .i64 0) ∧ wr = w') := HLfx.out
      have HR : Hid (RetLay g 8 { a with comms := nums4 v } 0 G none 0 w (.returned (.int .i64 0)) wr) := by
        rw [← HXs.out]
        exact HP.out.ret Hwf.out (by rw [HXs.out]; exact nums4_w32 _ v (Nat.le_refl _))
      clear e0 e1
      go_wp2_with (go_at_call 45; refine HLfx.out.mono ?_; rintro e w' ⟨rfl, rfl⟩)
      go_ret
      exact HR.out
end Go.Proofs.YtgpmkbpahnbhlaaGreat.attr
