/- What confluenceref15.Both and Rest return. Conditions as each lemma states. -/
import Derived.Test.YtpabblkppbfbjaaRefOf
namespace Go.Proofs.Ytpabblkppbfbjaa.wlk
open Go.RowKit Go.Proofs.Ytpabblkppbfbjaa.kit Go.Proofs.Ytpabblkppbfbjaa.pfx Go.Proofs.Ytpabblkppbfbjaa.mem Go.Proofs.Ytpabblkppbfbjaa.foot Go.Proofs.Ytpabblkppbfbjaa.srt
set_option linter.unusedVariables false
set_option linter.unusedSimpArgs false

/-- what one has in common with each of a row -/
def meetRow (p : Prt) (b : List Prt) : List Prt := b.filterMap fun q => if max p.1 q.1 ≤ min p.2 q.2 then some (max p.1 q.1, min p.2 q.2) else none
theorem meets_snoc (a b : List Prt) (p : Prt) : meets (a ++ [p]) b = meets a b ++ meetRow p b := by simp [meets, meetRow]
theorem meetRow_snoc (p q : Prt) (b : List Prt) : meetRow p (b ++ [q]) = meetRow p b ++ (if max p.1 q.1 ≤ min p.2 q.2 then [(max p.1 q.1, min p.2 q.2)] else []) := by
  unfold meetRow
  rw [List.filterMap_append]
  congr 1
  by_cases h : max p.1 q.1 ≤ min p.2 q.2
  · simp [h]
  · simp [h]
theorem meetRow_len (p : Prt) (b : List Prt) : (meetRow p b).length ≤ b.length := List.length_filterMap_le _ _
theorem meets_len : ∀ (a b : List Prt), (meets a b).length ≤ a.length * b.length
  | [], b => by simp [meets]
  | p :: a, b => by
    have h1 := meets_len a b
    have h2 := meetRow_len p b
    have e : meets (p :: a) b = meetRow p b ++ meets a b := by simp [meets, meetRow]
    rw [e, List.length_append, List.length_cons, Nat.add_mul, Nat.one_mul]
    omega
theorem meetRow_ok {p : Prt} {b : List Prt} (hp : PartOk p) (hb : ∀ q ∈ b, PartOk q) : ∀ x ∈ meetRow p b, PartOk x := by
  intro x hx
  have := meets_ok (a := [p]) (b := b) (fun q hq => by rw [List.mem_singleton.1 hq]; exact hp) hb x
  have e : meets [p] b = meetRow p b := by simp [meets, meetRow]
  rw [e] at this
  exact this hx

/-- what is gathered, and the one at hand, in its box -/
structure BJ (w wr : World) (g : Nat) (A : Option Addr) (n c : Nat) (xs : List Value) (y : Prt) : Prop where
  acc : Acc w 54 2 wr A n c xs
  box : Bk wr g 54 #[.int .i64 (y.1 : Int), .int .i64 (y.2 : Int)]
  ap : ¬ sf A g
  ge : w.heap.size ≤ g
section
variable {w wr w0 w2 : World} {A A' : Option Addr} {n c m c' g : Nat} {xs news : List Value} {y : Prt}
theorem BJ.go (h : BJ w wr g A n c xs y) (hb : Below wr.heap.size wr w2) : BJ w w2 g A n c xs y := ⟨h.acc.go hb, h.box.below hb h.box.lt, h.ap, h.ge⟩
theorem BJ.start (h : Acc w 54 2 wr A n c xs) (y : Prt) : BJ w (wr.alloc (.cells #[.int .i64 (y.1 : Int), .int .i64 (y.2 : Int)] 54)) wr.heap.size A n c xs y :=
  ⟨h.go ((Below.refl _ _).alloc (Nat.le_refl _) _), Bk.new wr _ _, fun hs => by have := h.own.lt _ hs; omega, h.bel.size⟩
theorem BJ.put0 (h : BJ w wr g A n c xs y) (a : Nat) : BJ w (wr.setCell ⟨g, 0, none⟩ (.int .i64 (a : Int))) g A n c xs (a, y.2) :=
  ⟨⟨h.acc.own.chg ((Chg.refl (fun k => k = g) wr).put (p := ⟨g, 0, none⟩) (.inl rfl) _) (fun k _ hk e => h.ap (by have e : k = g := e; rw [← e]; exact hk)), h.acc.bel.setCell (p := ⟨g, 0, none⟩) h.ge _, h.acc.low⟩, by
    have := h.box.put 0 (.int .i64 (a : Int))
    simpa using this, h.ap, h.ge⟩
theorem BJ.put1 (h : BJ w wr g A n c xs y) (b : Nat) : BJ w (wr.setCell ⟨g, 1, none⟩ (.int .i64 (b : Int))) g A n c xs (y.1, b) :=
  ⟨⟨h.acc.own.chg ((Chg.refl (fun k => k = g) wr).put (p := ⟨g, 1, none⟩) (.inl rfl) _) (fun k _ hk e => h.ap (by have e : k = g := e; rw [← e]; exact hk)), h.acc.bel.setCell (p := ⟨g, 1, none⟩) h.ge _, h.acc.low⟩, by
    have := h.box.put 1 (.int .i64 (b : Int))
    simpa using this, h.ap, h.ge⟩
end

set_option maxRecDepth 100000 in
set_option maxHeartbeats 4000000 in
theorem refBoth_any {G H : Foot} (A B : Option Addr) (c d : Nat) (a b : List Prt) (w : World) (hna : a.length ≤ 200) (hnb : b.length ≤ 200) (ha : ∀ p ∈ a, PartOk p) (hb : ∀ p ∈ b, PartOk p) (h : Rg w G 2 A a.length (qv a)) (h' : Rg w H 2 B b.length (qv b)) :
    Calls Try.prog 27 #[.slice A a.length c, .slice B b.length d] w (RetQ (bothP a b) w) := by
  have HRa := Lib.hid h
  have HRb := Lib.hid h'
  have HLa := Lib.hid ha
  have HLb := Lib.hid hb
  have HJ0 : Hid (Acc w 54 2 (w.alloc (.cells #[] 54)) (some ⟨w.heap.size, 0, none⟩) 0 0 []) := Acc.start ((Below.refl _ _).alloc (Nat.le_refl _) _) (Bk.new w _ _) (Nat.le_refl _)
  clear h h' ha hb
  go_enter Try.func27, Try.ntmps27
  go_wp2_with fail
  go_loopw [5, 6, 7, 8] (fun v5 v6 _ _ wr => ∃ (i : Nat) (A' : Option Addr) (c' m : Nat) (o : List Prt), i ≤ a.length ∧ v6 = .int .i64 (i : Int) ∧ v5 = .slice A' m c' ∧ m = o.length ∧ o = addsP [] (meets (a.take i) b) ∧ Acc w 54 2 wr A' m c' (qv o)) (fun _ v6 _ _ _ => a.length - (intOf v6).toNat)
  case atStart => exact ⟨0, _, _, 0, [], Nat.zero_le _, rfl, rfl, rfl, rfl, HJ0.out⟩
  case round =>
    obtain ⟨i, A1, c1, m, o, hi, rfl, rfl, hm, ho, hacc⟩ := hrel
    have HAcc := Lib.hid hacc
    have HO := Lib.hid (And.intro hm ho)
    clear hacc hm ho HJ0
    by_cases hlt : i < a.length
    · obtain ⟨p, hp⟩ : ∃ p, a[i]? = some p := ⟨a[i], List.getElem?_eq_getElem hlt⟩
      obtain ⟨b1, off1, rfl⟩ : ∃ b off, A = some ⟨b, off, none⟩ := by
        obtain ⟨b, off, e, _⟩ := HRa.out.2 (by omega)
        exact ⟨b, off, e⟩
      have HP := Lib.hid hp
      have HPo := Lib.hid (HLa.out p (List.mem_of_getElem? hp))
      have hsn : meets (a.take (i + 1)) b = meets (a.take i) b ++ meetRow p b := by
        rw [List.take_add_one, hp]
        exact meets_snoc _ _ _
      have HSn := Lib.hid hsn
      have hli : (i : Int) < (a.length : Int) := by omega
      clear hp hsn
      go_wp2_with fail
      go_loopw [5, 7, 8] (fun v5 v7 _ wz => ∃ (k : Nat) (A' : Option Addr) (c' m' : Nat) (o' : List Prt), k ≤ b.length ∧ v7 = .int .i64 (k : Int) ∧ v5 = .slice A' m' c' ∧ m' = o'.length ∧ o' = addsP [] (meets (a.take i) b ++ meetRow p (b.take k)) ∧ Acc w 54 2 wz A' m' c' (qv o')) (fun _ v7 _ _ => b.length - (intOf v7).toNat)
      case atStart => exact ⟨0, A1, c1, m, o, Nat.zero_le _, rfl, rfl, HO.out.1, by rw [HO.out.2]; simp [meetRow], HAcc.out⟩
      case round =>
        obtain ⟨k, A2, c2, m2, o2, hk, rfl, rfl, hm2, ho2, hacc⟩ := hrel
        have HA2 := Lib.hid hacc
        have HO2 := Lib.hid (And.intro hm2 ho2)
        clear hacc hm2 ho2
        by_cases hkt : k < b.length
        · obtain ⟨q, hq⟩ : ∃ q, b[k]? = some q := ⟨b[k], List.getElem?_eq_getElem hkt⟩
          obtain ⟨b2, off2, rfl⟩ : ∃ b off, B = some ⟨b, off, none⟩ := by
            obtain ⟨b, off, e, _⟩ := HRb.out.2 (by omega)
            exact ⟨b, off, e⟩
          have HQ := Lib.hid hq
          have HQo := Lib.hid (HLb.out q (List.mem_of_getElem? hq))
          have hsn2 : meetRow p (b.take (k + 1)) = meetRow p (b.take k) ++ (if max p.1 q.1 ≤ min p.2 q.2 then [(max p.1 q.1, min p.2 q.2)] else []) := by
            rw [List.take_add_one, hq]
            exact meetRow_snoc _ _ _
          have HSn2 := Lib.hid hsn2
          have hkb : (k : Int) < (b.length : Int) := by omega
          have x0 := rg_two (HA2.out.rg HRa.out) HP.out (by omega)
          have p0 := x0.1
          have p1 := x0.2.1
          have pl := x0.2.2
          have HJ1 := Lib.hid (BJ.start HA2.out p)
          clear hq hsn2 x0
          go_upto_region 9 with fail
          generalize wr.alloc (.cells #[.int .i64 (p.1 : Int), .int .i64 (p.2 : Int)] 54) = w3 at *
          clear p0 p1 pl
          generalize wr.heap.size = g at *
          have y0 := rg_two (HJ1.out.acc.rg HRb.out) HQ.out (by omega)
          have q0 := y0.1
          have q1 := y0.2.1
          have ql := y0.2.2
          have k0 := HJ1.out.box.cell 0
          have k1 := HJ1.out.box.cell 1
          simp at k0 k1
          clear y0
          go_wp2_with fail
          go_quiet (fail)
          have HJr := Lib.hid (HJ1.out.go (below_drewN (Below.refl w3.heap.size w3) nq))
          generalize w3.drewN nq = w4 at *
          have y1 := rg_two (HJr.out.acc.rg HRb.out) HQ.out (by omega)
          clear k0 k1 q0 q1 ql HJ1
          have k0 := HJr.out.box.cell 0
          have k1 := HJr.out.box.cell 1
          simp at k0 k1
          have q0 := y1.1
          have q1 := y1.2.1
          have kf := fun i => HJr.out.box.free i
          have kl := HJr.out.box.lt
          clear y1
          go_upto_if 33 with fail
          go_cut [] (fun wx => BJ w wx g A2 m2 c2 (qv o2) (max p.1 q.1, p.2))
          case first =>
            by_cases hx : p.1 < q.1
            · have d1 : decide ((p.1 : Int) < (q.1 : Int)) = true := by simp; omega
              go_wp2_with fail
              go_meet
              rw [Nat.max_eq_right (by omega)]
              exact HJr.out.put0 q.1
            · have d1 : decide ((p.1 : Int) < (q.1 : Int)) = false := by simp; omega
              go_wp2_with fail
              go_meet
              rw [Nat.max_eq_left (by omega)]
              exact HJr.out
          case' rest =>
            have HJs := Lib.hid hcut
            clear k0 k1 q0 q1 kf kl HJr hcut
            obtain ⟨z, hz⟩ : ∃ z, z = max p.1 q.1 := ⟨_, rfl⟩
            rw [← hz] at HJs HSn2
            have HZ := Lib.hid hz
            clear hz
            have y1 := rg_two (HJs.out.acc.rg HRb.out) HQ.out (by omega)
            have k0 := HJs.out.box.cell 0
            have k1 := HJs.out.box.cell 1
            simp at k0 k1
            have q0 := y1.1
            have q1 := y1.2.1
            clear y1
            go_wp2_with fail
            go_quiet (fail)
            have HJt := Lib.hid (HJs.out.go (below_drewN (Below.refl wc.heap.size wc) nq))
            generalize wc.drewN nq = w5 at *
            have y1 := rg_two (HJt.out.acc.rg HRb.out) HQ.out (by omega)
            clear k0 k1 q0 q1 HJs
            have k0 := HJt.out.box.cell 0
            have k1 := HJt.out.box.cell 1
            simp at k0 k1
            have q0 := y1.1
            have q1 := y1.2.1
            have kf := fun i => HJt.out.box.free i
            have kl := HJt.out.box.lt
            clear y1
            go_upto_if 47 with fail
            go_cut [] (fun wx => BJ w wx g A2 m2 c2 (qv o2) (z, min p.2 q.2))
            case first =>
              by_cases hx : q.2 < p.2
              · have d1 : decide ((q.2 : Int) < (p.2 : Int)) = true := by simp; omega
                go_wp2_with fail
                go_meet
                rw [Nat.min_eq_right (by omega)]
                exact HJt.out.put1 q.2
              · have d1 : decide ((q.2 : Int) < (p.2 : Int)) = false := by simp; omega
                go_wp2_with fail
                go_meet
                rw [Nat.min_eq_left (by omega)]
                exact HJt.out
            case' rest =>
              have HJu := Lib.hid hcut
              clear k0 k1 q0 q1 kf kl HJt hcut
              obtain ⟨v, hv⟩ : ∃ v, v = min p.2 q.2 := ⟨_, rfl⟩
              rw [← hv] at HJu HSn2
              have HV := Lib.hid hv
              clear hv
              have k0 := HJu.out.box.cell 0
              have k1 := HJu.out.box.cell 1
              have kl := HJu.out.box.lt
              simp at k0 k1
              by_cases hzv : z ≤ v
              · have d1 : decide ((z : Int) ≤ (v : Int)) = true := by simp; omega
                have hok : PartOk (z, v) := by
                  have h1 := HQo.out
                  have h2 := HPo.out
                  have h3 := HV.out
                  unfold PartOk at h1 h2 ⊢
                  dsimp only
                  omega
                have hoks : ∀ x ∈ o2, PartOk x := by
                  rw [HO2.out.2]
                  refine (addsP_ok _ [] Parts.nil fun x hx => ?_).1.ok
                  rcases List.mem_append.1 hx with hx | hx
                  · exact meets_ok (fun p hp => HLa.out p (List.mem_of_mem_take hp)) HLb.out x hx
                  · exact meetRow_ok HPo.out (fun q hq => HLb.out q (List.mem_of_mem_take hq)) x hx
                have hlen : o2.length ≤ 100000 := by
                  rw [HO2.out.2]
                  have h1 := addsP_len (meets (a.take i) b ++ meetRow p (b.take k)) []
                  have h2 := meets_len (a.take i) b
                  have h3 := meetRow_len p (b.take k)
                  have h4 : (a.take i).length * b.length ≤ 200 * 200 := Nat.mul_le_mul (by rw [List.length_take]; omega) hnb
                  have h5 : (b.take k).length ≤ 200 := by rw [List.length_take]; omega
                  rw [List.length_append] at h1
                  simp only [List.length_nil] at h1
                  omega
                have HAd := Lib.hid (refAdd_any A2 c2 o2 (z, v) wc hlen hoks hok (by rw [← HO2.out.1]; exact HJu.out.acc.own.rg))
                rw [← HO2.out.1] at HAd
                have HSn3 : Hid (meetRow p (b.take (k + 1)) = meetRow p (b.take k) ++ [(z, v)]) := by rw [Hid, HSn2.out, if_pos hzv]
                have hzv2 : (z : Int) ≤ (v : Int) := by omega
                clear hok hoks hlen
                go_wp2_with fail
                refine HAd.out.mono ?_; rintro e w7 ⟨A7, c7, rfl, ho7, hlo7, hb7⟩
                have H7 : Hid (Acc w 54 2 w7 A7 (addP o2 (z, v)).length c7 (qv (addP o2 (z, v)))) := ⟨ho7, HJu.out.acc.bel.trans (hb7.mono HJu.out.acc.bel.size), fun x hx => Nat.le_trans HJu.out.acc.bel.size (hlo7 x hx)⟩
                clear ho7 hlo7 hb7 HAd
                go_wp2_with fail
                go_roundw
                case rel => exact ⟨k + 1, A7, c7, _, addP o2 (z, v), by omega, by go_num, rfl, rfl, by rw [HSn3.out, ← List.append_assoc, addsP_app, ← HO2.out.2]; rfl, H7.out⟩
                case measure => simp [intOf]; omega
              · have d1 : decide ((z : Int) ≤ (v : Int)) = false := by simp; omega
                have HSn3 : Hid (meetRow p (b.take (k + 1)) = meetRow p (b.take k)) := by rw [Hid, HSn2.out, if_neg hzv, List.append_nil]
                have hzv2 : ¬ (z : Int) ≤ (v : Int) := by omega
                go_wp2_with fail
                go_roundw
                case rel => exact ⟨k + 1, A2, c2, m2, o2, by omega, by go_num, rfl, HO2.out.1, by rw [HSn3.out]; exact HO2.out.2, HJu.out.acc⟩
                case measure => simp [intOf]; omega
        · obtain rfl : k = b.length := by omega
          have hO := HO2.out
          rw [List.take_length, ← HSn.out] at hO
          have HO3 := Lib.hid hO
          clear hO HO2
          go_wp2_with fail
          go_roundw
          case rel => exact ⟨i + 1, A2, c2, m2, o2, by omega, by go_num, rfl, HO3.out.1, HO3.out.2, HA2.out⟩
          case measure => simp [intOf]; omega
    · obtain rfl : i = a.length := by omega
      have hO := HO.out
      rw [List.take_length] at hO
      have HO2 := Lib.hid hO
      clear hO HO
      go_wp2_with fail
      go_ret
      obtain ⟨rfl, ho⟩ := HO2.out
      rw [show addsP [] (meets a b) = bothP a b from rfl] at ho
      subst ho
      exact ⟨A1, c1, rfl, HAcc.out.own, HAcc.out.low, HAcc.out.bel⟩

set_option maxRecDepth 100000 in
set_option maxHeartbeats 4000000 in
theorem refRest_any {G : Foot} (A : Option Addr) (c : Nat) (l : List Prt) (w : World) (hn : l.length ≤ 100000) (hl : Parts l) (h : Rg w G 2 A l.length (qv l)) :
    Calls Try.prog 28 #[.slice A l.length c] w (RetQ (restP l) w) := by
  obtain ⟨i0, hi0, hz0, hz1, hz2⟩ := info_parts info_prt
  have Hi := Lib.hid hi0
  have Hz0 := Lib.hid hz0
  have Hz1 := Lib.hid hz1
  have Hz2 := Lib.hid hz2
  have HR := Lib.hid h
  have HL := Lib.hid hl
  have HJ0 : Hid (Acc w 54 2 (w.alloc (.cells #[] 54)) (some ⟨w.heap.size, 0, none⟩) 0 0 []) := Acc.start ((Below.refl _ _).alloc (Nat.le_refl _) _) (Bk.new w _ _) (Nat.le_refl _)
  clear h hl hi0 hz0 hz1 hz2
  go_enter Try.func28, Try.ntmps28
  go_wp2_with fail
  go_loopw [3, 4, 5] (fun v3 v4 v5 wr => ∃ (i : Nat) (A' : Option Addr) (c' m t : Nat) (o : List Prt), i ≤ l.length ∧ v5 = .int .i64 (i : Int) ∧ v3 = .slice A' m c' ∧ v4 = .int .i64 (t : Int) ∧ m = o.length ∧ m ≤ i ∧ t ≤ 4294967296 ∧ (l.take i).foldl restStep ([], 0) = (o, t) ∧ Acc w 54 2 wr A' m c' (qv o)) (fun _ _ v5 _ => l.length - (intOf v5).toNat)
  case atStart => exact ⟨0, _, _, 0, 0, [], Nat.zero_le _, rfl, rfl, rfl, rfl, Nat.le_refl _, by omega, rfl, HJ0.out⟩
  case round =>
    obtain ⟨i, A1, c1, m, t, o, hi, rfl, rfl, rfl, hm, hmi, ht, hst, hacc⟩ := hrel
    have HAcc := Lib.hid hacc
    have HO := Lib.hid (And.intro hm hst)
    clear hacc hm hst HJ0
    by_cases hlt : i < l.length
    · obtain ⟨p, hp⟩ : ∃ p, l[i]? = some p := ⟨l[i], List.getElem?_eq_getElem hlt⟩
      obtain ⟨b, off, rfl⟩ : ∃ b off, A = some ⟨b, off, none⟩ := by
        obtain ⟨b, off, e, _⟩ := HR.out.2 (by omega)
        exact ⟨b, off, e⟩
      have hp2 : p.1 ≤ p.2 ∧ p.2 < 4294967296 := HL.out.ok p (List.mem_of_getElem? hp)
      have hsn : (l.take (i + 1)).foldl restStep ([], 0) = restStep (o, t) p := by
        rw [List.take_add_one, hp, List.foldl_append, HO.out.2]
        rfl
      have HSn := Lib.hid hsn
      have HP := Lib.hid hp
      have x0 := rg_two (HAcc.out.rg HR.out) hp (by omega)
      have p0 := x0.1
      have p1 := x0.2.1
      have hli : (i : Int) < (l.length : Int) := by omega
      clear hp hsn x0
      by_cases htp : t < p.1
      · have d1 : decide ((t : Int) < (p.1 : Int)) = true := by simp; omega
        have hsub : (p.1 : Int) - 1 = ((p.1 - 1 : Nat) : Int) := by omega
        have HF : Hid (restStep (o, t) p = (o ++ [(t, p.1 - 1)], p.2 + 1)) := by
          rw [Hid]
          unfold restStep
          rw [if_pos htp]
        have HJa := Lib.hid (HAcc.out.go ((Below.refl _ _).alloc (Nat.le_refl _) (.cells #[.int .i64 (t : Int), .int .i64 ((p.1 - 1 : Nat) : Int)] 54)))
        have HRa := Lib.hid (rg_box (Bk.new wr 54 #[.int .i64 (t : Int), .int .i64 ((p.1 - 1 : Nat) : Int)]))
        have HW1 : Hid (∀ w', Acc w 54 2 w' A1 m c1 (qv o) → w'.cell? ⟨b, off + i * 2 + 1, none⟩ = some (.int .i64 (p.2 : Int))) := fun w' ha => (rg_two (ha.rg HR.out) HP.out (by omega)).2.1
        have HW2 : Hid (∀ w' A' m' c' xs, Acc w 54 2 w' A' m' c' xs → w'.cell? ⟨b, off + i * 2 + 1, none⟩ = some (.int .i64 (p.2 : Int))) := fun w' A' m' c' xs ha => (rg_two (ha.rg HR.out) HP.out (by omega)).2.1
        go_wp2_with (at_builtin; refine wpList_app _ rfl (.tmp 20) (.tmp 29) _ rfl 54 i0 _ 2 16 Try.underlying25 Hi.out Hz0.out Hz1.out Hz2.out rfl (by omega) _ _ c1 (qv o) rfl HJa.out.own _ (some ⟨wr.heap.size, 0, none⟩) 1 1 (by intro h; cases h) [.int .i64 (t : Int), .int .i64 ((p.1 - 1 : Nat) : Int)] rfl HRa.out (by intro u hu; simp at hu; rcases hu with rfl | rfl <;> rfl) (by unfold maxLen; omega) (by omega) ?_; intro A4 c4 w6 ho6 hc6 hf6; have H6 := Lib.hid (HJa.out.app ho6 hc6 hf6); have r1 := HW2.out _ _ _ _ _ H6.out; clear ho6 hc6 hf6)
        go_roundw
        case rel => exact ⟨i + 1, A4, c4, m + 1, p.2 + 1, o ++ [(t, p.1 - 1)], by omega, by go_num, rfl, by go_num, by rw [HO.out.1]; simp, by omega, by omega, HSn.out.trans HF.out, by rw [qv_app]; exact H6.out⟩
        case measure => simp [intOf]; omega
      · have d1 : decide ((t : Int) < (p.1 : Int)) = false := by simp; omega
        have HF : Hid (restStep (o, t) p = (o, p.2 + 1)) := by
          rw [Hid]
          unfold restStep
          rw [if_neg htp]
        go_wp2_with fail
        go_roundw
        case rel => exact ⟨i + 1, A1, c1, m, p.2 + 1, o, by omega, by go_num, rfl, by go_num, HO.out.1, by omega, by omega, HSn.out.trans HF.out, HAcc.out⟩
        case measure => simp [intOf]; omega
    · obtain rfl : i = l.length := by omega
      have hO := HO.out
      rw [List.take_length] at hO
      have HE : Hid (restP l = restEnd (o, t)) := by
        rw [Hid]
        unfold restP
        rw [hO.2]
      have HM := Lib.hid hO.1
      clear hO HO
      by_cases htl : t < 4294967296
      · have d1 : decide ((t : Int) < 4294967296) = true := by simp; omega
        have HE2 : Hid (restP l = o ++ [(t, 4294967295)]) := by
          rw [Hid, HE.out]
          unfold restEnd
          rw [if_pos htl]
        have HJa := Lib.hid (HAcc.out.go ((Below.refl _ _).alloc (Nat.le_refl _) (.cells #[.int .i64 (t : Int), .int .i64 4294967295] 54)))
        have HRa := Lib.hid (rg_box (Bk.new wr 54 #[.int .i64 (t : Int), .int .i64 4294967295]))
        go_wp2_with (at_builtin; refine wpList_app _ rfl (.tmp 39) (.tmp 42) _ rfl 54 i0 _ 2 16 Try.underlying25 Hi.out Hz0.out Hz1.out Hz2.out rfl (by omega) _ _ c1 (qv o) rfl HJa.out.own _ (some ⟨wr.heap.size, 0, none⟩) 1 1 (by intro h; cases h) [.int .i64 (t : Int), .int .i64 4294967295] rfl HRa.out (by intro u hu; simp at hu; rcases hu with rfl | rfl <;> rfl) (by unfold maxLen; omega) (by omega) ?_; intro A4 c4 w6 ho6 hc6 hf6; have H6 := Lib.hid (HJa.out.app ho6 hc6 hf6); clear ho6 hc6 hf6)
        go_ret
        have h6 := H6.out
        rw [show [Value.int .i64 (t : Int), .int .i64 4294967295] = qv [(t, 4294967295)] from rfl, ← qv_app, ← HE2.out] at h6
        have hl : m + 1 = (restP l).length := by rw [HE2.out, HM.out]; simp
        rw [hl] at h6 ⊢
        exact ⟨A4, c4, rfl, h6.own, h6.low, h6.bel⟩
      · have d1 : decide ((t : Int) < 4294967296) = false := by simp; omega
        have HE2 : Hid (restP l = o) := by
          rw [Hid, HE.out]
          unfold restEnd
          rw [if_neg htl]
        go_wp2_with fail
        go_ret
        have h6 := HAcc.out
        rw [← HE2.out] at h6
        have hl : m = (restP l).length := by rw [HE2.out, HM.out]
        rw [hl] at h6 ⊢
        exact ⟨A1, c1, rfl, h6.own, h6.low, h6.bel⟩
end Go.Proofs.Ytpabblkppbfbjaa.wlk
