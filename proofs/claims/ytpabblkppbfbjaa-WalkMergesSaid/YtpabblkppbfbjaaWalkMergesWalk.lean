/- The walk of the law WalkMerges: the Go text returns true and writes nothing that was there. No condition. -/
import Derived.Test.YtpabblkppbfbjaaMergeLaw
namespace Go.Proofs.Ytpabblkppbfbjaa.walkMerges
open Go.RowKit Go.Joins Go.Proofs.Ytpabblkppbfbjaa.kit Go.Proofs.Ytpabblkppbfbjaa.pfx Go.Proofs.Ytpabblkppbfbjaa.mem Go.Proofs.Ytpabblkppbfbjaa.foot Go.Proofs.Ytpabblkppbfbjaa.tri Go.Proofs.Ytpabblkppbfbjaa.srt Go.Proofs.Ytpabblkppbfbjaa.wlk
set_option linter.unusedVariables false
set_option linter.unusedSimpArgs false

/-- a row that is there -/
def Row (w : World) (B : Nat) (A : Option Addr) (n c : Nat) (L : List Pf) : Prop := L.length = n ∧ (A = none → c = 0) ∧ n ≤ c ∧ Rg w (fun k => B ≤ k) 2 A n (fv L)
theorem Row.of {w w' : World} {A : Option Addr} {n c : Nat} {L : List Pf} {B : Nat} (hB : B ≤ w.heap.size) (h : Own w' 35 2 A n c (fv L)) (hl : ∀ x, sf A x → w.heap.size ≤ x) : Row w' B A n c L :=
  ⟨own_len h, h.nil, h.cap, h.rg.mono fun k _ hk => Nat.le_trans hB (hl k hk)⟩
theorem Row.go {w w' : World} {A : Option Addr} {n c : Nat} {L : List Pf} {B : Nat} (h : Row w B A n c L) (hb : Below w.heap.size w w') : Row w' B A n c L := ⟨h.1, h.2.1, h.2.2.1, h.2.2.2.bel hb⟩

set_option maxRecDepth 100000 in
set_option maxHeartbeats 4000000 in
theorem core (A : Option Addr) (c : Nat) (l : List Pf) (W : World) (hA : A = none → c = 0) (hc : l.length ≤ c) (hm : l.length ≤ maxLen) (hw : ∀ x ∈ l, x.1 < 4294967296) (h : Rg W (fun _ => True) 2 A l.length (fv l)) :
    Calls Try.prog 3 #[.slice A l.length c] W fun e w' => e = .returned (.bool true) ∧ Below W.heap.size W w' := by
  have hF := fewP_any A c l 30 W (by omega) hc hm hA h
  have HF := Lib.hid hF
  obtain ⟨L, hL⟩ : ∃ L, L = l.take 30 := ⟨_, rfl⟩
  have HLw : Hid (∀ x ∈ L, x.1 < 4294967296) := by rw [Hid, hL]; exact fun x hx => hw x (List.mem_of_mem_take hx)
  have hL30 : L.length ≤ 30 := by rw [hL, List.length_take]; omega
  rw [← hL] at HF
  clear h hA hw hm hc hL hF
  go_enter Try.func3, Try.ntmps3
  go_wp2_with fail
  refine HF.out.mono ?_; rintro e w1 ⟨A1, c1, rfl, ho1, hlo1, hb1⟩
  have H1 := Lib.hid (And.intro (Row.of (B := 0) (Nat.zero_le _) ho1 hlo1) hb1)
  clear ho1 hlo1 hb1 HF
  have HFew := Lib.hid (fun (w : World) (hr : Row w 0 A1 L.length c1 L) => fewP_any A1 c1 L 30 w (by omega) hr.2.2.1 (by unfold maxLen; omega) hr.2.1 hr.2.2.2)
  rw [show L.take 30 = L from List.take_of_length_le hL30] at HFew
  go_wp2_with fail
  refine (HFew.out _ H1.out.1).mono ?_; rintro e w2 ⟨A2, c2, rfl, ho2, hlo2, hb2⟩
  have H2 := Lib.hid (And.intro (H1.out.1.go hb2) (H1.out.2.trans (hb2.mono H1.out.2.size)))
  have HM := Lib.hid (Merge_any A2 L.length c2 L w2 (by omega) ho2.nil rfl HLw.out ho2.rg)
  clear ho2 hlo2 hb2 H1
  go_wp2_with fail
  refine HM.out.mono ?_; rintro e w3 ⟨ks, hs, h32, A3, c3, rfl, ho3, hlo3, hb3⟩
  have hms := merge_law hs h32
  have hkl := sort_len hs
  have hml : (mergeK (topsK ks)).length ≤ 30 := Nat.le_trans (mergeK_len _) (Nat.le_trans (topsK_len ks) (Nat.le_trans hkl hL30))
  have HS := Lib.hid (And.intro hs (And.intro h32 hms))
  obtain ⟨M, hM⟩ : ∃ M, M = blks (ofP L) := ⟨_, rfl⟩
  have hMl : (mergeK (topsK ks)).length = M.length := by rw [hM, ← hms, List.length_map]
  rw [hms, ← hM, hMl] at ho3
  rw [hMl] at hml ⊢
  have HMd := Lib.hid (And.intro hM hMl)
  have H3 := Lib.hid (And.intro (H2.out.1.go hb3) (And.intro (Row.of (B := 0) (Nat.zero_le _) ho3 hlo3) (H2.out.2.trans (hb3.mono H2.out.2.size))))
  clear ho3 hlo3 hb3 H2 HM hs h32 hms hM hMl hkl
  have HOf := Lib.hid (refOf_any A1 c1 L w3 (by omega) HLw.out H3.out.1.2.2.2)
  go_wp2_with fail
  refine HOf.out.mono ?_; rintro e w4 ⟨A4, c4, rfl, ho4, hlo4, hb4⟩
  have hpl := ofP_len L
  have H4 := Lib.hid (And.intro (H3.out.1.go hb4) (And.intro (H3.out.2.1.go hb4) (And.intro ho4.rg (H3.out.2.2.trans (hb4.mono H3.out.2.2.size)))))
  clear ho4 hlo4 hb4 H3 HOf
  have HPr := Lib.hid (refPrefixes_any A4 c4 (ofP L) w4 (by omega) (ofP_ok L).1.ok H4.out.2.2.1)
  rw [← HMd.out.1] at HPr
  have HSz := Lib.hid (fun w (hb : Below w4.heap.size w4 w) => refSizeP_any A4 c4 (ofP L) w (by omega) (ofP_ok L).1.ok (H4.out.2.2.1.bel hb))
  clear hpl
  go_wp2_with fail
  refine HPr.out.mono ?_; rintro e w5 ⟨A5, c5, rfl, ho5, hlo5, hb5⟩
  have H5 := Lib.hid (And.intro (H4.out.1.go hb5) (And.intro (H4.out.2.1.go hb5) (And.intro hb5 (H4.out.2.2.2.trans (hb5.mono H4.out.2.2.2.size)))))
  have HSa := Lib.hid (sameP_eq A3 A5 c3 c5 M w5 (by omega) H5.out.2.1.2.2.2 ho5.rg)
  clear ho5 hlo5 hb5 HPr
  go_wp2_with fail
  refine HSa.out.mono ?_; rintro e w6 ⟨rfl, hb6⟩
  have H6 := Lib.hid (And.intro (H5.out.1.go hb6) (And.intro (H5.out.2.1.go hb6) (And.intro (H5.out.2.2.1.trans (hb6.mono H5.out.2.2.1.size)) (H5.out.2.2.2.trans (hb6.mono H5.out.2.2.2.size)))))
  clear hb6 H5 HSa H4
  go_wp2_with fail
  refine (HFew.out _ H6.out.1).mono ?_; rintro e w7 ⟨A7, c7, rfl, ho7, hlo7, hb7⟩
  have H7 := Lib.hid (And.intro (H6.out.1.go hb7) (And.intro (H6.out.2.1.go hb7) (And.intro (H6.out.2.2.1.trans (hb7.mono H6.out.2.2.1.size)) (H6.out.2.2.2.trans (hb7.mono H6.out.2.2.2.size)))))
  have HSp := Lib.hid (Span_any A7 L.length c7 L w7 (by omega) ho7.nil rfl HLw.out ho7.rg)
  clear ho7 hlo7 hb7 H6
  go_wp2_with fail
  refine HSp.out.mono ?_; rintro e w8 ⟨ks2, hs2, h322, rfl, hb8⟩
  rw [span_law hs2 h322]
  have H8 := Lib.hid (And.intro (H7.out.1.go hb8) (And.intro (H7.out.2.1.go hb8) (And.intro (H7.out.2.2.1.trans (hb8.mono H7.out.2.2.1.size)) (H7.out.2.2.2.trans (hb8.mono H7.out.2.2.2.size)))))
  clear hs2 h322 hb8 H7 HSp
  obtain ⟨z, hz⟩ : ∃ z, z = sizeP2 (ofP L) := ⟨_, rfl⟩
  rw [← hz] at HSz ⊢
  clear hz
  go_wp2_with fail
  refine (HSz.out _ H8.out.2.2.1).mono ?_; rintro e w9 ⟨rfl, hb9⟩
  have H9 := Lib.hid (And.intro (H8.out.1.go hb9) (And.intro (H8.out.2.1.go hb9) (H8.out.2.2.2.trans (hb9.mono H8.out.2.2.2.size))))
  clear hb9 H8 HSz
  have HF2 := Lib.hid (fewP_any A3 c3 M 2000 w9 (by omega) H9.out.2.1.2.2.1 (by unfold maxLen; omega) H9.out.2.1.2.1 H9.out.2.1.2.2.2)
  rw [show M.take 2000 = M from List.take_of_length_le (by omega)] at HF2
  go_wp2_with fail
  refine HF2.out.mono ?_; rintro e wa ⟨Aa, ca, rfl, hoa, hloa, hba⟩
  have Ha := Lib.hid (And.intro (H9.out.1.go hba) (And.intro (H9.out.2.1.go hba) (H9.out.2.2.trans (hba.mono H9.out.2.2.size))))
  have HMg := Lib.hid (Merge_any Aa M.length ca M wa (by omega) hoa.nil rfl (by
    rw [HMd.out.1, ← HS.out.2.2]
    intro x hx
    obtain ⟨k, hk, rfl⟩ := List.mem_map.1 hx
    exact adr_lt ((mergeJ_of HS.out.1 HS.out.2.1).o32 k hk)) hoa.rg)
  clear hoa hloa hba H9 HF2
  go_wp2_with fail
  refine HMg.out.mono ?_; rintro e wb ⟨ks3, hs3, h323, Ab, cb, rfl, hob, hlob, hbb⟩
  have hJ := mergeJ_of HS.out.1 HS.out.2.1
  rw [HMd.out.1, ← HS.out.2.2] at hs3
  have hag := merge_again hJ.o32 hJ.canon hs3 h323
  rw [hag, HS.out.2.2, ← HMd.out.1, HMd.out.2] at hob
  rw [hag, HMd.out.2]
  have Hb := Lib.hid (And.intro (Ha.out.1.go hbb) (And.intro (Ha.out.2.1.go hbb) (Ha.out.2.2.trans (hbb.mono Ha.out.2.2.size))))
  have HSb := Lib.hid (sameP_eq Ab A3 cb c3 M wb (by omega) hob.rg Hb.out.2.1.2.2.2)
  clear hob hlob hbb Ha HMg hs3 h323 hag hJ
  go_wp2_with fail
  refine HSb.out.mono ?_; rintro e wc ⟨rfl, hbc⟩
  have Hc := Lib.hid (And.intro (Hb.out.1.go hbc) (Hb.out.2.2.trans (hbc.mono Hb.out.2.2.size)))
  clear hbc Hb HSb
  have HSo := Lib.hid (refSort_any A1 c1 L wc (by omega) HLw.out Hc.out.1.2.2.2)
  go_wp2_with fail
  refine HSo.out.mono ?_; rintro e wd ⟨s, hs, Ad, cd, rfl, hod, hlod, hbd⟩
  have hss : s = ks.map kp := hs.eq HS.out.1
  subst hss
  rw [List.length_map] at hod ⊢
  have hkl := sort_len HS.out.1
  have hk30 : ks.length ≤ 30 := by omega
  have HRs := Lib.hid hod.rg
  have Hd := Lib.hid (And.intro (Hc.out.1.go hbd) (Hc.out.2.trans (hbd.mono Hc.out.2.size)))
  have HA0 : Hid (Acc wd 35 2 (wd.alloc (.cells #[] 35)) (some ⟨wd.heap.size, 0, none⟩) 0 0 []) := Acc.start ((Below.refl _ _).alloc (Nat.le_refl _) _) (Bk.new wd _ _) (Nat.le_refl _)
  obtain ⟨i0, hi0, hz0, hz1, hz2⟩ := info_parts info_pf
  have Hi := Lib.hid hi0
  have Hz0 := Lib.hid hz0
  have Hz1 := Lib.hid hz1
  have Hz2 := Lib.hid hz2
  clear hod hlod hbd Hc HSo hkl hi0 hz0 hz1 hz2 hs
  go_wp2_with fail
  go_loopw [6, 7, 8, 9] (fun v6 v7 _ _ wr => ∃ (i : Nat) (A' : Option Addr) (c' m : Nat) (o : List Key), i ≤ ks.length ∧ v7 = .int .i64 (i : Int) ∧ v6 = .slice A' m c' ∧ m = o.length ∧ m ≤ i ∧ o = (ks.take i).filter (isT ks) ∧ Acc wd 35 2 wr A' m c' (fv (o.map kp))) (fun _ v7 _ _ _ => ks.length - (intOf v7).toNat)
  case atStart => exact ⟨0, _, _, 0, [], Nat.zero_le _, rfl, rfl, rfl, Nat.le_refl _, rfl, HA0.out⟩
  case round =>
    obtain ⟨i, Ao, co, m, o, hi, rfl, rfl, hm, hmi, ho, hacc⟩ := hrel
    have HAcc := Lib.hid hacc
    have HO := Lib.hid (And.intro hm ho)
    clear hacc hm ho HA0
    by_cases hlt : i < ks.length
    · obtain ⟨x, hx⟩ : ∃ x, ks[i]? = some x := ⟨ks[i], List.getElem?_eq_getElem hlt⟩
      obtain ⟨b, off, rfl⟩ : ∃ b off, Ad = some ⟨b, off, none⟩ := by
        obtain ⟨b, off, e, _⟩ := HRs.out.2 (by omega)
        exact ⟨b, off, e⟩
      have HX := Lib.hid hx
      have x32 := HS.out.2.1 x (List.mem_of_getElem? hx)
      have HX32 := Lib.hid x32
      have hli : (i : Int) < (ks.length : Int) := by omega
      clear hx x32
      go_wp2_with fail
      go_loopw [8, 9] (fun v8 v9 wz => ∃ k : Nat, k ≤ ks.length ∧ v9 = .int .i64 (k : Int) ∧ v8 = .bool (isT (ks.take k) x) ∧ Acc wd 35 2 wz Ao m co (fv (o.map kp))) (fun _ v9 _ => ks.length - (intOf v9).toNat)
      case atStart => exact ⟨0, Nat.zero_le _, rfl, rfl, HAcc.out⟩
      case round =>
        obtain ⟨k, hk, rfl, rfl, hacc⟩ := hrel
        have HA2 := Lib.hid hacc
        clear hacc
        by_cases hkt : k < ks.length
        · obtain ⟨q, hq⟩ : ∃ q, ks[k]? = some q := ⟨ks[k], List.getElem?_eq_getElem hkt⟩
          have hsn : isT (ks.take (k + 1)) x = (isT (ks.take k) x && decide (q <+: x → q = x)) := by
            rw [List.take_add_one, hq]
            exact isT_snoc _ _ _
          have HSn := Lib.hid hsn
          have hki : (k : Int) < (ks.length : Int) := by omega
          have HQ := Lib.hid hq
          clear hsn
          rcases hb : isT (ks.take k) x with _ | _
          · rw [hb] at HSn
            clear hb hq
            go_wp2_with fail
            go_quiet (fail)
            go_wp2_with fail
            go_roundw
            case rel => exact ⟨k + 1, by omega, by go_num, by rw [HSn.out]; rfl, HA2.out.go (below_drewN (Below.refl _ _) _)⟩
            case measure => simp [intOf]; omega
          · rw [hb] at HSn
            by_cases hki2 : k = i
            · have e1 : ((k : Int) == (i : Int)) = true := by rw [beq_iff_eq]; omega
              have hqx : q = x := by
                have := HX.out
                rw [← hki2, hq] at this
                cases this
                rfl
              have hr : isT (ks.take (k + 1)) x = true := by rw [HSn.out, decide_eq_true (fun _ => hqx)]; rfl
              have HRr := Lib.hid hr
              clear hb hq hr hqx hki2
              go_wp2_with fail
              go_quiet (fail)
              go_wp2_with fail
              go_roundw
              case rel => exact ⟨k + 1, by omega, by go_num, by rw [HRr.out], HA2.out.go (below_drewN (Below.refl _ _) _)⟩
              case measure => simp [intOf]; omega
            · have e1 : ((k : Int) == (i : Int)) = false := by rw [beq_eq_false_iff_ne]; omega
              have hne : q ≠ x := by
                intro e
                have hst := HS.out.1.strict
                rw [List.pairwise_map] at hst
                obtain ⟨h1, h2⟩ := List.getElem?_eq_some_iff.1 hq
                obtain ⟨h3, h4⟩ := List.getElem?_eq_some_iff.1 HX.out
                rcases Nat.lt_or_ge k i with h | h
                · have := List.pairwise_iff_getElem.1 hst k i h1 h3 h
                  rw [h2, h4, e] at this
                  exact plt_irrefl _ this
                · have := List.pairwise_iff_getElem.1 hst i k h3 h1 (by omega)
                  rw [h2, h4, e] at this
                  exact plt_irrefl _ this
              have hr : isT (ks.take (k + 1)) x = !decide (q <+: x) := by
                rw [HSn.out, Bool.true_and]
                by_cases hp : q <+: x
                · rw [decide_eq_true hp, decide_eq_false (fun h => hne (h hp))]; rfl
                · rw [decide_eq_false hp, decide_eq_true (fun h => absurd h hp)]; rfl
              have q32 := HS.out.2.1 q (List.mem_of_getElem? hq)
              have HCq := Lib.hid (fun w => ref_Covers (adr q) q.length (adr x) x.length (adr_lt q32) (adr_lt HX32.out) w)
              rw [covers_key q32 HX32.out] at HCq
              have y0 := fv_two (HA2.out.rg HRs.out) (show (ks.map kp)[k]? = some (kp q) by rw [List.getElem?_map, hq]; rfl) (by omega)
              have x0 := fv_two (HA2.out.rg HRs.out) (show (ks.map kp)[i]? = some (kp x) by rw [List.getElem?_map, HX.out]; rfl) (by omega)
              have p0 := y0.1
              have p1 := y0.2.1
              have k0 := x0.1
              have k1 := x0.2.1
              have hgl := x0.2.2
              simp only [kp] at p0 p1 k0 k1
              obtain ⟨z, hz⟩ : ∃ z, z = decide (q <+: x) := ⟨_, rfl⟩
              rw [← hz] at HCq hr
              have HRr := Lib.hid hr
              clear hb hq hr hne q32 y0 x0 hz hki2
              go_wp2_with fail
              go_region_held3 (fun w' => w'.cell? ⟨b, off + k * 2, none⟩ = some (.int .u32 (adr q : Int)) ∧ w'.cell? ⟨b, off + k * 2 + 1, none⟩ = some (.int .i64 (q.length : Int)) ∧ w'.cell? ⟨b, off + i * 2, none⟩ = some (.int .u32 (adr x : Int)) ∧ w'.cell? ⟨b, off + i * 2 + 1, none⟩ = some (.int .i64 (x.length : Int))) (first | exact HS5.out | exact ⟨by go_simp, by go_simp, by go_simp, by go_simp⟩) (first
                | (go_at_call 15; refine (HCq.out _).mono ?_; rintro e wq ⟨rfl, hb5⟩; go_must (have hbq : Below wr.heap.size wr wq := ((Below.refl _ _).drew).trans hb5); go_must (have HS5 : Hid (wq.cell? ⟨b, off + k * 2, none⟩ = some (.int .u32 (adr q : Int)) ∧ wq.cell? ⟨b, off + k * 2 + 1, none⟩ = some (.int .i64 (q.length : Int)) ∧ wq.cell? ⟨b, off + i * 2, none⟩ = some (.int .u32 (adr x : Int)) ∧ wq.cell? ⟨b, off + i * 2 + 1, none⟩ = some (.int .i64 (x.length : Int))) := ⟨(hbq.cell (p := ⟨b, off + k * 2, none⟩) hgl).trans p0, (hbq.cell (p := ⟨b, off + k * 2 + 1, none⟩) hgl).trans p1, (hbq.cell (p := ⟨b, off + i * 2, none⟩) hgl).trans k0, (hbq.cell (p := ⟨b, off + i * 2 + 1, none⟩) hgl).trans k1⟩)))
              clear p0 p1 k0 k1 hgl HS5 HCq
              go_wp2_with fail
              go_roundw
              case rel => exact ⟨k + 1, by omega, by go_num, by rw [HRr.out], HA2.out.go hbq⟩
              case measure => simp [intOf]; omega
        · obtain rfl : k = ks.length := by omega
          rw [List.take_length]
          have hsn : (ks.take (i + 1)).filter (isT ks) = o ++ (if isT ks x = true then [x] else []) := by
            rw [List.take_add_one, HX.out, List.filter_append, HO.out.2]
            congr 1
            by_cases h : isT ks x = true
            · rw [if_pos h]; simp [h]
            · rw [if_neg h]; simp [h]
          have HSn := Lib.hid hsn
          clear hsn
          rcases hb : isT ks x with _ | _
          · rw [hb, if_neg (by simp), List.append_nil] at HSn
            clear hb
            go_wp2_with fail
            go_roundw
            case rel => exact ⟨i + 1, _, co, m, o, by omega, by go_num, rfl, HO.out.1, by omega, HSn.out.symm, HA2.out⟩
            case measure => simp [intOf]; omega
          · rw [hb, if_pos rfl] at HSn
            clear hb
            have x0 := fv_two (HA2.out.rg HRs.out) (show (ks.map kp)[i]? = some (kp x) by rw [List.getElem?_map, HX.out]; rfl) (by omega)
            have k0 := x0.1
            have k1 := x0.2.1
            simp only [kp] at k0 k1
            have HA3 := Lib.hid (HA2.out.go ((Below.refl _ _).alloc (Nat.le_refl _) (.cells #[.int .u32 (adr x : Int), .int .i64 (x.length : Int)] 35)))
            have HG5 := Lib.hid (rg_boxS (Bk.new wr 35 #[.int .u32 (adr x : Int), .int .i64 (x.length : Int)]))
            clear x0
            go_wp2_with (at_builtin; refine wpList_app _ rfl (.tmp 72) (.tmp 77) _ rfl 35 i0 _ 2 16 Try.underlying22 Hi.out Hz0.out Hz1.out Hz2.out rfl (by omega) _ _ co (fv (o.map kp)) rfl HA3.out.own _ (some ⟨wr.heap.size, 0, none⟩) 1 1 (by intro h; cases h) [.int .u32 (adr x : Int), .int .i64 (x.length : Int)] rfl HG5.out (by intro u hu; simp at hu; rcases hu with rfl | rfl <;> rfl) (by unfold maxLen; omega) (by omega) ?_; intro A4 c4 w6 ho6 hc6 hf6; have H6 := Lib.hid (HA3.out.app ho6 hc6 hf6); clear ho6 hc6 hf6)
            go_roundw
            case rel => exact ⟨i + 1, A4, c4, m + 1, o ++ [x], by omega, by go_num, rfl, by rw [HO.out.1]; simp, by omega, HSn.out.symm, by rw [List.map_append, fv_app]; exact H6.out⟩
            case measure => simp [intOf]; omega
    · obtain rfl : i = ks.length := by omega
      have ho := HO.out.2
      rw [List.take_length, tops_filter HS.out.2.1 HS.out.1.strict] at ho
      have HT := Lib.hid (And.intro HO.out.1 ho)
      have Hr := Lib.hid (Hd.out.1.go (HAcc.out.bel.mono (Nat.le_refl _)))
      have HBr := Lib.hid (Hd.out.2.trans (HAcc.out.bel.mono Hd.out.2.size))
      have HRt : Hid (Rg wr (fun k => wd.heap.size ≤ k) 2 Ao m (fv (o.map kp))) := HAcc.out.own.rg.mono fun k _ hk => HAcc.out.low k hk
      have hm30 : m ≤ 30 := by omega
      clear ho HO hlt hi
      go_wp2_with fail
      refine (HFew.out _ Hr.out).mono ?_; rintro e we ⟨Ae, ce, rfl, hoe, hloe, hbe⟩
      have HTp := Lib.hid (Tops_any Ae L.length ce L we (by omega) hoe.nil rfl HLw.out hoe.rg)
      have HRt2 := Lib.hid (HRt.out.bel hbe)
      have HBe := Lib.hid (HBr.out.trans (hbe.mono HBr.out.size))
      clear hoe hloe hbe HBr HRt Hr
      go_wp2_with fail
      refine HTp.out.mono ?_; rintro e wf ⟨ks4, hs4, h324, Af, cf, rfl, hof, hlof, hbf⟩
      obtain rfl := sort_uniq hs4 HS.out.1
      rw [← HT.out.2] at hof
      rw [← HT.out.2]
      have HSl : Hid (Calls Try.prog 10 #[.slice Af o.length cf, .slice Ao m co] wf fun e w' => e = .returned (.bool true) ∧ Below wf.heap.size wf w') := by
        have h1 := HT.out.1
        have h2 := HRt2.out.bel hbf
        have h3 := hof.rg
        have h4 := sameP_eq Af Ao cf co (o.map kp) wf (by rw [List.length_map]; omega) (by rw [List.length_map]; exact h3) (by rw [List.length_map, ← h1]; exact h2)
        rw [List.length_map] at h4
        rw [← h1] at h4 ⊢
        exact h4
      have HBf := Lib.hid (HBe.out.trans (hbf.mono HBe.out.size))
      clear hof hlof hbf hs4 h324 HTp HRt2 HBe
      go_wp2_with fail
      refine HSl.out.mono ?_; rintro e wg ⟨rfl, hbg⟩
      have HBg := Lib.hid (HBf.out.trans (hbg.mono HBf.out.size))
      clear hbg HSl HBf
      go_wp2_with fail
      refine (lives_any _).mono ?_; rintro e wh ⟨rfl, hbh⟩
      have HBh := Lib.hid (HBg.out.trans (hbh.mono HBg.out.size))
      clear hbh HBg
      go_wp2_with fail
      go_ret
      exact ⟨rfl, HBh.out⟩

set_option maxRecDepth 100000 in
theorem walk {H : Type} {enc : TypeId × Value → H} {W : World} {base : Nat} {v0 : Value} {d0 : DataW H} {p0 : List MemPlace}
    (hv0 : Value.okWide Try.prog W .any base 22 v0) (h0 : DataW.Trod enc Try.prog W 0 (fun _ => true) true 22 v0 d0 p0) :
    Calls Try.prog 3 #[v0] W fun e w' => e = .returned (.bool true) ∧ Below W.heap.size W w' := by
  obtain ⟨A, c, l, rfl, hA, hc, hm, he⟩ := open_sl Try.underlying22 (opens_sl keeps_pfx Try.underlying22 (by kernel_rfl) (by omega) opens_pfx) hv0 h0
  obtain ⟨L, hL, hw, hr⟩ := els_fv he
  rw [← hL] at hc ⊢
  exact core A c L W hA hc (Nat.le_trans hc hm) hw hr
end Go.Proofs.Ytpabblkppbfbjaa.walkMerges
