/- The plain law of laying an attribute; what attr.wrong does. -/
import Derived.Test.YtgpmkbpahnbhlaaGreatAttrComms
namespace Go.Proofs.YtgpmkbpahnbhlaaGreat.attr
open Go.RowKit Go.Proofs.YtgpmkbpahnbhlaaGreat.kit Go.Proofs.YtgpmkbpahnbhlaaGreat.mem Go.Proofs.YtgpmkbpahnbhlaaGreat.foot Go.Proofs.YtgpmkbpahnbhlaaGreat.nums Go.Proofs.YtgpmkbpahnbhlaaGreat.asn Go.Proofs.YtgpmkbpahnbhlaaGreat.pth Go.Proofs.YtgpmkbpahnbhlaaGreat.octet
set_option linter.unusedVariables false
set_option linter.unusedSimpArgs false
/-- a value laid among the others, and what is wrong of it -/
noncomputable def layS (a : Atr) (k : Nat) (v : List UInt8) : Atr × Nat :=
  match k with
  | 1 => ({ a with orig := (num v : Int) }, if num v ≤ 2 then 0 else 6)
  | 2 => ({ a with path := normS ((pcs v).getD []) }, sub2 v)
  | 3 => ({ a with hop := (num v : Int) }, if hopB (num v : Int) = true then 0 else 8)
  | 4 => ({ a with med := (num v : Int) }, 0)
  | 5 => ({ a with pref := (num v : Int) }, 0)
  | 7 => ({ a with aas := (num (v.take 4) : Int), aid := (num (v.drop 4) : Int) }, 0)
  | 8 => ({ a with comms := nums4 v }, 0)
  | _ => (a, 0)
theorem layS_has (a : Atr) (k : Nat) (v : List UInt8) : (layS a k v).1.has = a.has := by unfold layS; split <;> rfl
/-- what is wrong of an attribute behind others; the others with it, where nothing is -/
noncomputable def wrongS (a : Atr) (f k : Nat) (v : List UInt8) : Atr × Nat :=
  if 1 ≤ k ∧ k ≤ 8 then
    if flaggedB f k = false then (a, 4)
    else if longB k v.length = false then (a, 5)
    else if (layS a k v).2 ≠ 0 then (a, (layS a k v).2)
    else ({ (layS a k v).1 with has := a.has + 2 ^ k }, 0)
  else if f < 128 then (a, 2) else (a, 0)
theorem lay_any (f vc al ac g k : Nat) (vA aA : Option Addr) (a : Atr) (Ap Ac : Option Addr) (cp cc : Nat) (G : Foot) (w : World) (v : List UInt8) (h1 : 1 ≤ k) (h8 : k ≤ 8) (hlg : longB k v.length = true) (hl : v.length ≤ 50000) (hc : k = 8 → a.comms = [] ∧ Ac = none ∧ cc = 0) (hg : Bk w g 26 (atc a Ap cp Ac cc).toArray) (hm : Am w G a Ap cp Ac cc) (hG : ∀ k, G k → k < w.heap.size ∧ k ≠ g) (hv : Bs w w.heap.size vA v) (hn : vA = none → vc = 0) :
    Calls Tryz.prog 70 #[.agg (oneV f k vA v.length vc aA al ac), .pointer (some ⟨g, 0, none⟩)] w (RetLay g k (layS a k v).1 (layS a k v).2 G Ac cc w) := by
  have h : k = 1 ∨ k = 2 ∨ k = 3 ∨ k = 4 ∨ k = 5 ∨ k = 6 ∨ k = 7 ∨ k = 8 := by omega
  rcases h with rfl | rfl | rfl | rfl | rfl | rfl | rfl | rfl
  · have hx : v.length = 1 := of_decide_eq_true hlg
    obtain ⟨b, rfl⟩ := List.length_eq_one_iff.1 hx
    have := lay_1 f vc al ac g vA aA a Ap Ac cp cc G w [b] b rfl hg hm hG hv hn
    show Calls _ _ _ _ (RetLay g 1 { a with orig := (num [b] : Int) } (if num [b] ≤ 2 then 0 else 6) G Ac cc w)
    rw [num1]
    exact this
  · exact lay_2 f vc al ac g vA aA a Ap Ac cp cc G w v hl hg hm hG hv hn
  · exact lay_3 f vc al ac g vA aA a Ap Ac cp cc G w v (of_decide_eq_true hlg) hg hm hG hv hn
  · exact lay_4 f vc al ac g vA aA a Ap Ac cp cc G w v (of_decide_eq_true hlg) hg hm hG hv hn
  · exact lay_5 f vc al ac g vA aA a Ap Ac cp cc G w v (of_decide_eq_true hlg) hg hm hG hv hn
  · exact lay_6 f vc al ac g vA aA a Ap Ac cp cc G w v (by omega) hg hm hG hv hn
  · exact lay_7 f vc al ac g vA aA a Ap Ac cp cc G w v (of_decide_eq_true hlg) hg hm hG hv hn
  · obtain ⟨h0, rfl, rfl⟩ := hc rfl
    have hx : (decide (v.length % 4 = 0) && decide (v.length ≤ 1020)) = true := hlg
    rw [Bool.and_eq_true] at hx
    exact lay_8 f vc al ac g vA aA a Ap cp G w v (by omega) (of_decide_eq_true hx.1) h0 hg hm hG hv hn
theorem or_bit (h : Int) (k : Nat) (h0 : 0 ≤ h) (h1 : h < 512) (hk : k ≤ 8) (hb : bitI h k = false) : bits .or .i64 h (2 ^ k) = h + 2 ^ k := by
  have : ∀ (a : Fin 512) (k : Fin 9), bitI (a.val : Int) k.val = false → bits .or .i64 (a.val : Int) (2 ^ k.val) = (a.val : Int) + 2 ^ k.val := by decide +kernel
  have := this ⟨h.toNat, by omega⟩ ⟨k, by omega⟩
  simp only [Int.toNat_of_nonneg h0] at this
  exact this hb
theorem wf_small {x : Int} (h0 : 0 ≤ x) (h1 : x < 1024) : (Lit.int .i64 x).wf = true := by
  simp [Lit.wf, IntKind.min, IntKind.max, IntKind.signed, IntKind.bits]
  omega
set_option maxRecDepth 100000 in
set_option maxHeartbeats 4000000 in
theorem wrong_any (f vc al ac g k : Nat) (vA aA : Option Addr) (a : Atr) (Ap Ac : Option Addr) (cp cc : Nat) (G : Foot) (w : World) (v : List UInt8) (hf : f ≤ 255) (hh : 0 ≤ a.has ∧ a.has < 512) (hbit : bitI a.has k = false) (hl : v.length ≤ 50000) (hc : k = 8 → a.comms = [] ∧ Ac = none ∧ cc = 0) (hg : Bk w g 26 (atc a Ap cp Ac cc).toArray) (hm : Am w G a Ap cp Ac cc) (hG : ∀ k, G k → k < w.heap.size ∧ k ≠ g) (hv : Bs w w.heap.size vA v) (hn : vA = none → vc = 0) :
    Calls Tryz.prog 47 #[.agg (oneV f k vA v.length vc aA al ac), .pointer (some ⟨g, 0, none⟩)] w (RetLay g k (wrongS a f k v).1 (wrongS a f k v).2 G Ac cc w) := by
  have HB1 : Hid (Below w.heap.size w (w.alloc (.cells (oneV f k vA v.length vc aA al ac) 65))) := (Below.refl _ _).alloc (Nat.le_refl _) _
  have HX1 : Hid (Bk (w.alloc (.cells (oneV f k vA v.length vc aA al ac) 65)) w.heap.size 65 (oneV f k vA v.length vc aA al ac)) := Bk.new w _ _
  have HFl : Hid (∀ w', Calls Tryz.prog 29 #[.int .i64 (k : Int)] w' fun e w2 => e = .returned (.int .i64 (flg (k : Int))) ∧ w' = w2) := fun w' => flags_any k w'
  have HSame : Hid (∀ w', Below w.heap.size w w' → RetLay g k a 0 G Ac cc w (.returned (.int .i64 0)) w') := fun w' hb => ⟨rfl, Chg.of_below hb _, fun _ => ⟨Ap, cp, Ac, cc, hg.below hb hg.lt, (hm.bel hb).mono fun _ _ h => .inl h, fun _ => ⟨rfl, rfl⟩⟩⟩
  have HErr : Hid (∀ (a' : Atr) (s : Nat) w', s ≠ 0 → Below w.heap.size w w' → RetLay g k a' s G Ac cc w (.returned (.int .i64 (s : Int))) w') := fun a' s w' hs hb => ⟨rfl, Chg.of_below hb _, fun h => absurd h hs⟩
  have a128 := and128 f hf
  by_cases hk : 1 ≤ k ∧ k ≤ 8
  · have dfl : (flg (k : Int) != 0) = true := by
      have h : k = 1 ∨ k = 2 ∨ k = 3 ∨ k = 4 ∨ k = 5 ∨ k = 6 ∨ k = 7 ∨ k = 8 := by omega
      rcases h with rfl | rfl | rfl | rfl | rfl | rfl | rfl | rfl <;> decide
    have HFd : Hid (∀ w', Calls Tryz.prog 68 #[.agg (oneV f k vA v.length vc aA al ac)] w' fun e w2 => e = .returned (.bool (flaggedB f k)) ∧ Below w'.heap.size w' w2) := fun w' => flagged_any f k v.length vc al ac vA aA w' hf hk.1 hk.2
    have HLg : Hid (∀ w', Calls Tryz.prog 69 #[.agg (oneV f k vA v.length vc aA al ac)] w' fun e w2 => e = .returned (.bool (longB k v.length)) ∧ Below w'.heap.size w' w2) := fun w' => long_any f k v.length vc al ac vA aA w' hk.1 hk.2
    unfold wrongS
    rw [if_pos hk]
    have HLy : Hid (∀ w', longB k v.length = true → Below w.heap.size w w' → Calls Tryz.prog 70 #[.agg (oneV f k vA v.length vc aA al ac), .pointer (some ⟨g, 0, none⟩)] w' (RetLay g k (layS a k v).1 (layS a k v).2 G Ac cc w')) := fun w' h hb => lay_any f vc al ac g k vA aA a Ap Ac cp cc G w' v hk.1 hk.2 h hl hc (hg.below hb hg.lt) (hm.bel hb) (fun j hj => ⟨Nat.lt_of_lt_of_le (hG j hj).1 hb.size, (hG j hj).2⟩) ((hv.below hb (Nat.le_refl _)).more hb.size) hn
    have hgl := hg.lt
    have HGl := Lib.hid hG
    have hor := or_bit a.has k hh.1 hh.2 hk.2 hbit
    have HHs := Lib.hid (layS_has a k v)
    have HCl : Hid (∀ w', Below w.heap.size w w' → Below (w.heap.size + 1) (w.alloc (.cells (oneV f k vA v.length vc aA al ac) 65)) w' → Bk w' w.heap.size 65 (oneV f k vA v.length vc aA al ac)) := fun w' _ hb => HX1.out.below hb (Nat.lt_succ_self _)
    generalize layS a k v = ly at *
    generalize flg (k : Int) = fk at *
    clear hg hm hG hv hn hc hbit a128
    cases hfl : flaggedB f k
    · rw [hfl] at HFd
      rw [if_pos rfl]
      clear hfl
      unfold oneV at *
      go_enter Tryz.func47, Tryz.ntmps47
      go_wp2_with (first
        | (go_at_call 29; refine (HFl.out _).mono ?_; rintro e w2 ⟨rfl, rfl⟩)
        | (go_at_call 68; refine (HFd.out _).mono ?_; rintro e w3 ⟨rfl, h1⟩; have HB3 := Lib.hid (HB1.out.trans (h1.mono HB1.out.size)); clear h1))
      go_ret
      exact HErr.out a 4 _ (by decide) HB3.out
    · rw [hfl] at HFd
      rw [if_neg (by decide)]
      clear hfl
      cases hlg : longB k v.length
      · rw [hlg] at HLg
        rw [if_pos rfl]
        clear hlg
        unfold oneV at *
        go_enter Tryz.func47, Tryz.ntmps47
        go_wp2_with (first
          | (go_at_call 29; refine (HFl.out _).mono ?_; rintro e w2 ⟨rfl, rfl⟩)
          | (go_at_call 68; refine (HFd.out _).mono ?_; rintro e w3 ⟨rfl, h1⟩; have HB3 := Lib.hid (HB1.out.trans (h1.mono HB1.out.size)); have HX3 := Lib.hid (HX1.out.below h1 HX1.out.lt); have x0 := HX3.out.cell 0; have x1 := HX3.out.cell 1; have x2 := HX3.out.cell 2; have x3 := HX3.out.cell 3; simp at x0 x1 x2 x3; clear h1)
          | (go_at_call 69; refine (HLg.out _).mono ?_; rintro e w4 ⟨rfl, h1⟩; have HB4 := Lib.hid (HB3.out.trans (h1.mono HB3.out.size)); clear h1))
        go_ret
        exact HErr.out a 5 _ (by decide) HB4.out
      · have HLy := Lib.hid (fun w' hb => HLy.out w' hlg hb)
        rw [hlg] at HLg
        rw [if_neg (by decide)]
        clear hlg
        rcases Nat.eq_zero_or_pos ly.2 with hz | hp
        · rw [if_neg (by omega)]
          have dz : ((ly.2 : Int) != 0) = false := by rw [hz]; rfl
          have HZ := Lib.hid hz
          have HOr : Hid (bits .or .i64 a.has (IntKind.i64.wrap (2 ^ k)) = a.has + 2 ^ k) := by
            have : ∀ k : Fin 9, IntKind.i64.wrap (2 ^ k.val) = 2 ^ k.val := by decide +kernel
            rw [Hid, this ⟨k, by omega⟩]
            exact hor
          have HPw : Hid ((Lit.int .i64 (a.has + 2 ^ k)).wf = true) := by
            have : ∀ k : Fin 9, (0 : Int) ≤ 2 ^ k.val ∧ (2 : Int) ^ k.val ≤ 256 := by decide +kernel
            have := this ⟨k, by omega⟩
            have h0 := hh.1
            have h1 := hh.2
            exact wf_small (by simp only at this; omega) (by simp only at this; omega)
          clear hz hor
          unfold oneV at *
          go_enter Tryz.func47, Tryz.ntmps47
          go_upto_region 13 with (first
            | (go_at_call 29; refine (HFl.out _).mono ?_; rintro e w2 ⟨rfl, rfl⟩)
            | (go_at_call 68; refine (HFd.out _).mono ?_; rintro e w3 ⟨rfl, h1⟩; have HB3 := Lib.hid (HB1.out.trans (h1.mono HB1.out.size)); have HX3 := Lib.hid (HX1.out.below h1 HX1.out.lt); have x0 := HX3.out.cell 0; have x1 := HX3.out.cell 1; have x2 := HX3.out.cell 2; have x3 := HX3.out.cell 3; simp at x0 x1 x2 x3; clear h1)
            | (go_at_call 69; refine (HLg.out _).mono ?_; rintro e w4 ⟨rfl, h1⟩; have HB4 := Lib.hid (HB3.out.trans (h1.mono HB3.out.size)); have HX4 := Lib.hid (HX3.out.below h1 HX3.out.lt); have HLx := Lib.hid (HLy.out w4 HB4.out); have y0 := HX4.out.cell 0; have y1 := HX4.out.cell 1; have y2 := HX4.out.cell 2; have y3 := HX4.out.cell 3; simp at y0 y1 y2 y3; clear h1)
            | (go_at_call 70; refine HLx.out.mono ?_; rintro e w5 ⟨rfl, h1, h2⟩; have HC5 := Lib.hid h1; have HM5 := Lib.hid (h2 HZ.out); have HX5 := Lib.hid (HX4.out.chg h1 (by omega)); clear h1 h2))
          obtain ⟨A5, c5, B5, d5, hb5, hm5, hk5⟩ := HM5.out
          have q0 := hb5.cell 0
          simp only [atc, HHs.out] at q0
          simp at q0
          have z1 := HX5.out.cell 1
          simp at z1
          have qf := hb5.free 0
          have HB5 := Lib.hid hb5
          have HMm := Lib.hid hm5
          have HK5 := Lib.hid hk5
          clear hb5 hm5 hk5
          have HFin : Hid (RetLay g k { ly.1 with has := a.has + 2 ^ k } 0 G Ac cc w (.returned (.int .i64 0)) (w5.setCell ⟨g, 0, none⟩ (.int .i64 (a.has + 2 ^ k))).drew) := by
            have hch : Chg (fun k => k = g) w5 (w5.setCell ⟨g, 0, none⟩ (.int .i64 (a.has + 2 ^ k))).drew := ((Chg.refl (fun k => k = g) w5).put (p := ⟨g, 0, none⟩) (.inl rfl) _).drew
            have hm6 := HMm.out.chg hch fun j _ hj e => by
              have := HB4.out.size
              rcases hj with hj | hj
              · exact (HGl.out j hj).2 e
              · omega
            have hwf := hm6.wf
            refine ⟨rfl, ((Chg.of_below HB4.out _).trans HC5.out fun _ _ e => e).trans hch fun _ _ e => e, fun _ => ⟨A5, c5, B5, d5, (HB5.out.put 0 _).drew, ⟨⟨HPw.out, hwf.orig, hwf.hop, hwf.med, hwf.pref, hwf.aas, hwf.aid⟩, hm6.sp.mono fun j _ hj => ?_, Sn.mono hm6.sn fun j _ hj => ?_, hm6.w32⟩, HK5.out⟩⟩
            · exact hj.elim .inl fun h => .inr (Nat.le_trans HB4.out.size h)
            · exact hj.elim .inl fun h => .inr (Nat.le_trans HB4.out.size h)
          have HFi2 : Hid (RetLay g k { ly.1 with has := a.has + 2 ^ k } 0 G Ac cc w (.returned (.int .i64 0)) (w5.setCell ⟨g, 0, none⟩ (.int .i64 (bits .or .i64 a.has (IntKind.i64.wrap (2 ^ k))))).drew) := by
            rw [Hid, HOr.out]
            exact HFin.out
          go_region_with fail
          all_goals (go_wp2_with fail; go_ret; exact HFi2.out)
        · rw [if_pos (by omega)]
          have dz : ((ly.2 : Int) != 0) = true := by
            rw [bne_iff_ne]
            omega
          have HZ := Lib.hid hp
          clear hp hor
          unfold oneV at *
          go_enter Tryz.func47, Tryz.ntmps47
          go_wp2_with (first
            | (go_at_call 29; refine (HFl.out _).mono ?_; rintro e w2 ⟨rfl, rfl⟩)
            | (go_at_call 68; refine (HFd.out _).mono ?_; rintro e w3 ⟨rfl, h1⟩; have HB3 := Lib.hid (HB1.out.trans (h1.mono HB1.out.size)); have HX3 := Lib.hid (HX1.out.below h1 HX1.out.lt); have x0 := HX3.out.cell 0; have x1 := HX3.out.cell 1; have x2 := HX3.out.cell 2; have x3 := HX3.out.cell 3; simp at x0 x1 x2 x3; clear h1)
            | (go_at_call 69; refine (HLg.out _).mono ?_; rintro e w4 ⟨rfl, h1⟩; have HB4 := Lib.hid (HB3.out.trans (h1.mono HB3.out.size)); have HX4 := Lib.hid (HX3.out.below h1 HX3.out.lt); have HLx := Lib.hid (HLy.out w4 HB4.out); have y0 := HX4.out.cell 0; have y1 := HX4.out.cell 1; have y2 := HX4.out.cell 2; have y3 := HX4.out.cell 3; simp at y0 y1 y2 y3; clear h1)
            | (go_at_call 70; refine HLx.out.mono ?_; rintro e w5 ⟨rfl, h1, h2⟩; have HC5 := Lib.hid h1; clear h1 h2))
          go_ret
          exact ⟨rfl, (Chg.of_below HB4.out _).trans HC5.out fun _ _ e => e, fun h => absurd h (Nat.ne_of_gt HZ.out)⟩
  · have dfl : (flg (k : Int) != 0) = false := by
      have e : flg (k : Int) = 0 := by
        unfold flg
        rw [if_neg (by omega), if_neg (by omega), if_neg (by omega)]
      rw [e]
      rfl
    unfold wrongS
    rw [if_neg hk]
    generalize flg (k : Int) = fk at *
    clear hg hm hG hv hn hc hbit hh hk
    unfold oneV at *
    by_cases h128 : f < 128
    · rw [if_pos h128]
      have e128 : bits .and .i64 (f : Int) 128 = 0 := by rw [a128, if_neg (by omega)]
      clear a128
      go_enter Tryz.func47, Tryz.ntmps47
      go_wp2_with (go_at_call 29; refine (HFl.out _).mono ?_; rintro e w2 ⟨rfl, rfl⟩)
      go_ret
      exact HErr.out a 2 _ (by decide) HB1.out
    · rw [if_neg h128]
      have e128 : bits .and .i64 (f : Int) 128 = 128 := by rw [a128, if_pos (by omega)]
      clear a128
      go_enter Tryz.func47, Tryz.ntmps47
      go_wp2_with (go_at_call 29; refine (HFl.out _).mono ?_; rintro e w2 ⟨rfl, rfl⟩)
      go_ret
      exact HSame.out _ HB1.out
end Go.Proofs.YtgpmkbpahnbhlaaGreat.attr
