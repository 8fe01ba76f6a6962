/- The walk of the law NlriPacks: the Go text returns true and writes nothing that was there. No condition. -/
import Derived.Test.YtajilbapjpfloaaPack
import Derived.Test.YtajilbapjpfloaaNlriRef
import Derived.Test.YtajilbapjpfloaaNlriLives
import Derived.Test.YtajilbapjpfloaaTrieArgs
import Derived.Test.YtajilbapjpfloaaRel
namespace Go.Proofs.Ytajilbapjpfloaa.nlriPacks
open Go.RowKit Go.Joins Go.Proofs.Ytajilbapjpfloaa.kit Go.Proofs.Ytajilbapjpfloaa.pfx Go.Proofs.Ytajilbapjpfloaa.mem Go.Proofs.Ytajilbapjpfloaa.foot Go.Proofs.Ytajilbapjpfloaa.octet Go.Proofs.Ytajilbapjpfloaa.srt Go.Proofs.Ytajilbapjpfloaa.nlri
set_option linter.unusedVariables false
set_option linter.unusedSimpArgs false

/-- a row of prefixes as its cells -/
theorem all_fv {w : World} {G : Foot} : ∀ {l : List (Int × Int)} {vs : List Value}, rAll RPfx w G vs l → ∃ L : List Pf, L.length = l.length ∧ (∀ x ∈ L, x.1 < 4294967296) ∧ vs = fv L
  | [], vs, h => ⟨[], rfl, (fun x hx => by cases hx), h⟩
  | p :: l, vs, h => by
    obtain ⟨cs, ds, rfl, hp, hl⟩ := h
    obtain ⟨a, ha, h1, rfl, _⟩ := pfx_eq hp
    obtain ⟨L, h2, h3, rfl⟩ := all_fv hl
    refine ⟨(a, p.2) :: L, by simp [h2], fun x hx => ?_, by rw [fv_cons]; rfl⟩
    rcases List.mem_cons.1 hx with rfl | hx
    · exact ha
    · exact h3 x hx
theorem els_fv {w : World} {G : Foot} {A : Option Addr} {l : List (Int × Int)} (h : Els 2 RPfx w G A l) : ∃ L : List Pf, L.length = l.length ∧ (∀ x ∈ L, x.1 < 4294967296) ∧ Rg w G 2 A L.length (fv L) := by
  obtain ⟨vs, h1, h2⟩ := h
  obtain ⟨L, h3, h4, rfl⟩ := all_fv h2
  exact ⟨L, h3, h4, by rw [h3]; exact h1⟩
theorem sumP_le : ∀ (l : List Pf), sumP l ≤ 5 * l.length
  | [] => by simp [sumP]
  | p :: l => by
    have h1 := sumP_le l
    have h2 := sizeP_le p
    rw [sumP_cons, List.length_cons]
    omega
theorem fit_neg (l : List Pf) {r : Int} (h : r < 0) : fitI r l = 0 := by
  cases l with
  | nil => rfl
  | cons p l => unfold fitI; rw [if_pos (by omega)]
theorem sort_len2 {L s : List Pf} (hs : IsSort gdP L s) : s.length ≤ L.length := by
  have h : ∀ (s l : List Pf), s.Pairwise plt → (∀ x ∈ s, x ∈ l) → s.length ≤ l.length := by
    intro s
    induction s with
    | nil => intro l _ _; exact Nat.zero_le _
    | cons x s ih =>
      intro l h hm
      obtain ⟨h1, h2⟩ := List.pairwise_cons.1 h
      have hx := hm x (by simp)
      have := ih (l.erase x) h2 fun y hy => (List.mem_erase_of_ne (fun e => plt_irrefl x (by have := h1 y hy; rwa [e] at this))).2 (hm y (by simp [hy]))
      rw [List.length_erase_of_mem hx] at this
      have := List.length_pos_of_mem hx
      simp only [List.length_cons]
      omega
  exact h s L hs.strict fun x hx => ((hs.mem x).1 hx).1
/-- what holds at the first loop's head -/
def L1 (L : List Pf) (room left most : Int) (i : Nat) : Prop :=
  (most = -1 ∧ left = room - (sumP (L.take i) : Int) ∧ i ≤ fitI (max room (-1)) L ∧ (i = 0 ∨ 0 ≤ left)) ∨ most = (fitI (max room (-1)) L : Int)
theorem L1.step {L : List Pf} {room left : Int} {i : Nat} {p : Pf} (h1 : left = room - (sumP (L.take i) : Int)) (h2 : i ≤ fitI (max room (-1)) L) (h3 : i = 0 ∨ 0 ≤ left) (hp : L[i]? = some p) :
    (left - (sizeP p : Int) < 0 → fitI (max room (-1)) L = i) ∧ (¬ left - (sizeP p : Int) < 0 → L1 L room (left - (sizeP p : Int)) (-1) (i + 1)) := by
  have hat := fitI_at L (max room (-1)) i h2
  have hsn : (sumP (L.take (i + 1)) : Int) = (sumP (L.take i) : Int) + (sizeP p : Int) := by
    rw [List.take_add_one, hp]
    show (sumP (L.take i ++ [p]) : Int) = _
    rw [sumP_snoc]; push_cast; rfl
  have h0 : i = 0 → sumP (L.take i) = 0 := by rintro rfl; rfl
  refine ⟨fun hneg => (hat.2 fun q hq => ?_).symm, fun hneg => .inl ⟨rfl, by omega, ?_, .inr (by omega)⟩⟩
  · rw [hp] at hq
    cases hq
    rcases h3 with h3 | h3
    · have := h0 h3; omega
    · omega
  · have hne : i ≠ fitI (max room (-1)) L := fun e => by
      have := (hat.1 e) p hp
      rcases h3 with h3 | h3
      · have := h0 h3; omega
      · omega
    omega

set_option maxRecDepth 100000 in
set_option maxHeartbeats 8000000 in
theorem core (A : Option Addr) (c : Nat) (l : List Pf) (room : Int) (W : World) (hr1 : -9223372036854775808 ≤ room) (hr2 : room ≤ 9223372036854775807) (hA : A = none → c = 0) (hc : l.length ≤ c) (hm : l.length ≤ maxLen) (hw : ∀ x ∈ l, x.1 < 4294967296) (h : Rg W (fun _ => True) 2 A l.length (fv l)) :
    Calls Try.prog 13 #[.slice A l.length c, .int .i64 room] W fun e w' => e = .returned (.bool true) ∧ Below W.heap.size W w' := by
  have hF := fewP_any A c l 40 W (by omega) hc hm hA h
  have HF := Lib.hid hF
  obtain ⟨L, hL⟩ : ∃ L, L = l.take 40 := ⟨_, rfl⟩
  have HLw : Hid (∀ x ∈ L, x.1 < 4294967296) := by rw [Hid, hL]; exact fun x hx => hw x (List.mem_of_mem_take hx)
  have hL40 : L.length ≤ 40 := by rw [hL, List.length_take]; omega
  rw [← hL] at HF
  have HRr := Lib.hid (And.intro hr1 hr2)
  obtain ⟨i0, hi0, hz0, hz1, hz2⟩ := info_parts info_pf
  have Hi := Lib.hid hi0
  have Hz0 := Lib.hid hz0
  have Hz1 := Lib.hid hz1
  have Hz2 := Lib.hid hz2
  clear h hA hw hm hc hL hF hi0 hz0 hz1 hz2
  go_enter Try.func13, Try.ntmps13
  go_wp2_with fail
  refine HF.out.mono ?_; rintro e w1 ⟨A1, c1, rfl, ho1, hlo1, hb1⟩
  have H1 := Lib.hid (And.intro ho1.rg (And.intro ho1.nil (And.intro ho1.cap hb1)))
  clear ho1 hlo1 hb1 HF
  have HFew := Lib.hid (fun (w : World) (hb : Below w1.heap.size w1 w) => fewP_any A1 c1 L 40 w (by omega) H1.out.2.2.1 (by unfold maxLen; omega) H1.out.2.1 (H1.out.1.bel hb))
  rw [show L.take 40 = L from List.take_of_length_le hL40] at HFew
  go_wp2_with fail
  go_loopw [6, 7, 8] (fun v6 v7 v8 wr => ∃ (i : Nat) (left most : Int), i ≤ L.length ∧ v8 = .int .i64 (i : Int) ∧ v6 = .int .i64 left ∧ v7 = .int .i64 most ∧ L1 L room left most i ∧ Below w1.heap.size w1 wr) (fun _ _ v8 _ => L.length - (intOf v8).toNat)
  case atStart => exact ⟨0, room, -1, Nat.zero_le _, rfl, rfl, rfl, .inl ⟨rfl, by simp [sumP], Nat.zero_le _, .inl rfl⟩, Below.refl _ _⟩
  case round =>
    obtain ⟨i, left, most, hi, rfl, rfl, rfl, h1, hb⟩ := hrel
    have HB := Lib.hid hb
    clear hb
    rcases (show (i < L.length ∧ ∃ p, L[i]? = some p ∧ most = -1 ∧ left = room - (sumP (L.take i) : Int) ∧ i ≤ fitI (max room (-1)) L ∧ (i = 0 ∨ 0 ≤ left)) ∨ (most = (fitI (max room (-1)) L : Int)) ∨ (i = L.length ∧ most = -1 ∧ fitI (max room (-1)) L = L.length) by
      rcases h1 with ⟨k1, k2, k3, k4⟩ | k1
      · by_cases hlt : i < L.length
        · exact .inl ⟨hlt, L[i], List.getElem?_eq_getElem hlt, k1, k2, k3, k4⟩
        · exact .inr (.inr ⟨by omega, k1, by have := fitI_le (max room (-1)) L; omega⟩)
      · exact .inr (.inl k1)) with ⟨hlt, p, hp, rfl, hle, hif, hi0⟩ | hmost | ⟨hin, rfl, hFn⟩
    · obtain ⟨b, off, rfl⟩ : ∃ b off, A1 = some ⟨b, off, none⟩ := by
        obtain ⟨b, off, e, _⟩ := H1.out.1.2 (by omega)
        exact ⟨b, off, e⟩
      have hst := L1.step hle hif hi0 hp
      have hpw := HLw.out p (List.mem_of_getElem? hp)
      have HSz := Lib.hid (fun w => refSize_any p.1 p.2 hpw w)
      have x0 := fv_two (H1.out.1.bel HB.out) hp (by omega)
      have p0 := x0.1
      have p1 := x0.2.1
      have hs5 := sizeP_le p
      have HPp := Lib.hid hp
      have hleft : left ≤ 9223372036854775807 := by have := HRr.out.2; omega
      have hleft0 : i = 0 ∨ 0 ≤ left := hi0
      have HLeft : Hid (left = room - (sumP (L.take i) : Int)) := hle
      obtain ⟨z, hz⟩ : ∃ z, z = sizeP p := ⟨_, rfl⟩
      rw [show sizeP (p.1, p.2) = sizeP p from rfl, ← hz] at HSz
      rw [← hz] at hst hs5
      have HSt := Lib.hid hst
      have hli : (i : Int) < (L.length : Int) := by omega
      clear hst hp x0 hz hpw h1 hle hif hi0 hleft0
      go_wp2_with fail
      refine (HSz.out _).mono ?_; rintro e w3 ⟨rfl, hb3⟩
      have HB3 := Lib.hid (HB.out.trans (hb3.mono HB.out.size))
      clear hb3 p0 p1 HB
      have x0 := fv_two (H1.out.1.bel HB3.out) HPp.out (by omega)
      have p0 := x0.1
      have p1 := x0.2.1
      clear x0
      by_cases hneg : left - (z : Int) < 0
      · have HFe := Lib.hid (HSt.out.1 hneg)
        rcases (show (left < (z : Int) ∧ ¬ left < 0) ∨ left < 0 by omega) with ⟨k1, k2⟩ | k1
        case' inl => have d1 : decide (left < (z : Int)) = true := by simp; omega
        case' inr => have d1 : decide (left < (z : Int)) = true := by simp; omega
        all_goals
          go_wp2_with fail
          refine (HSz.out _).mono ?_; rintro e w4 ⟨rfl, hb4⟩
          have HB4 := Lib.hid (HB3.out.trans (hb4.mono HB3.out.size))
          clear hb4
          go_wp2_with fail
          go_roundw
          case rel => exact ⟨i + 1, _, _, by omega, by go_num, rfl, rfl, .inr (by rw [HFe.out]), HB4.out⟩
          case measure => simp [intOf]; omega
      · have HNe : Hid (L1 L room (left - (z : Int)) (-1) (i + 1)) := HSt.out.2 (by omega)
        have d1 : decide (left < (z : Int)) = false := by simp; omega
        have d2 : decide (left < 0) = false := by simp; omega
        have k1 : (z : Int) ≤ left := by omega
        have k2 : 0 ≤ left := by omega
        clear hneg
        go_wp2_with fail
        refine (HSz.out _).mono ?_; rintro e w4 ⟨rfl, hb4⟩
        have HB4 := Lib.hid (HB3.out.trans (hb4.mono HB3.out.size))
        clear hb4
        go_wp2_with fail
        go_roundw
        case rel => exact ⟨i + 1, left - (z : Int), -1, by omega, by go_num, rfl, rfl, HNe.out, HB4.out⟩
        case measure => simp [intOf]; omega
    case' inr.inl =>
      have hnn : ¬ most < 0 := by omega
      have HFi := Lib.hid (fun (A : Option Addr) (c : Nat) (G : Foot) (w : World) (hr : Rg w G 2 A L.length (fv L)) => Fits_any A c L room w (by omega) HRr.out.2 HLw.out hr)
      rw [← hmost] at HFi
      by_cases hlt : i < L.length
      case' pos =>
        clear h1 hmost
        go_upto_region 11 with fail
      case' neg =>
        obtain rfl : i = L.length := by omega
        clear h1 hmost
        go_upto_region 11 with fail
    case' inr.inr =>
      have HFi := Lib.hid (fun (A : Option Addr) (c : Nat) (G : Foot) (w : World) (hr : Rg w G 2 A L.length (fv L)) => Fits_any A c L room w (by omega) HRr.out.2 HLw.out hr)
      rw [hFn] at HFi
      subst hin
      clear h1 hFn
      go_upto_region 11 with fail
    all_goals
      have Hb0 := Lib.hid HB.out
      clear HB
      go_wp2_with fail
      refine (HFew.out _ Hb0.out).mono ?_; rintro e w3 ⟨A3, c3, rfl, ho3, hlo3, hb3⟩
      have HFt := Lib.hid (HFi.out A3 c3 _ w3 ho3.rg)
      have Hb3 := Lib.hid (Hb0.out.trans (hb3.mono Hb0.out.size))
      clear ho3 hlo3 hb3 Hb0 HFi
      go_wp2_with fail
      refine HFt.out.mono ?_; rintro e w4 ⟨rfl, hb4⟩
      have Hb4 := Lib.hid (Hb3.out.trans (hb4.mono Hb3.out.size))
      clear hb4 Hb3 HFt
      go_wp2_with fail
      refine (HFew.out _ Hb4.out).mono ?_; rintro e w5 ⟨A5, c5, rfl, ho5, hlo5, hb5⟩
      have HSo := Lib.hid (Sort_any A5 L.length c5 L w5 (by omega) ho5.nil rfl HLw.out ho5.rg)
      have Hb5 := Lib.hid (Hb4.out.trans (hb5.mono Hb4.out.size))
      clear ho5 hlo5 hb5 Hb4
      go_wp2_with fail
      refine HSo.out.mono ?_; rintro e w6 ⟨A6, c6, s, rfl, hs, ho6, hlo6, hb6⟩
      have Hb6 := Lib.hid (Hb5.out.trans (hb6.mono Hb5.out.size))
      have HS := Lib.hid hs
      have HR6 := Lib.hid ho6.rg
      have HRs := Lib.hid (refSort_any A1 c1 L w6 (by omega) HLw.out (H1.out.1.bel Hb6.out))
      clear ho6 hlo6 hb6 Hb5 HSo hs
      go_wp2_with fail
      refine HRs.out.mono ?_; rintro e w7 ⟨s2, hs2, A7, c7, rfl, ho7, hlo7, hb7⟩
      have hse : s2 = s := hs2.eq HS.out
      subst hse
      have Hb7 := Lib.hid (Hb6.out.trans (hb7.mono Hb6.out.size))
      have HSm := Lib.hid (sameP_eq A6 A7 c6 c7 s2 w7 (by have := sort_len2 HS.out; omega) (HR6.out.bel hb7) ho7.rg)
      clear ho7 hlo7 hb7 Hb6 HRs hs2 HR6 HS
      go_wp2_with fail
      refine HSm.out.mono ?_; rintro e w8 ⟨rfl, hb8⟩
      have Hb8 := Lib.hid (Hb7.out.trans (hb8.mono Hb7.out.size))
      clear hb8 Hb7 HSm
      have HJ0 : Hid (Acc w8 69 2 (w8.alloc (.cells #[] 69)) (some ⟨w8.heap.size, 0, none⟩) 0 0 []) := Acc.start ((Below.refl _ _).alloc (Nat.le_refl _) _) (Bk.new w8 _ _) (Nat.le_refl _)
      go_wp2_with fail
      go_loopw [9, 10] (fun v9 v10 wr => ∃ (i : Nat) (A' : Option Addr) (c' m : Nat) (o : List Pf), i ≤ L.length ∧ v10 = .int .i64 (i : Int) ∧ v9 = .slice A' m c' ∧ m = o.length ∧ m ≤ i ∧ o = (L.take i).filter (okP room) ∧ Acc w8 69 2 wr A' m c' (fv o)) (fun _ v10 _ => L.length - (intOf v10).toNat)
      case atStart => exact ⟨0, _, _, 0, [], Nat.zero_le _, rfl, rfl, rfl, Nat.le_refl _, rfl, HJ0.out⟩
      case round =>
        obtain ⟨i, Ao, co, m, o, hi, rfl, rfl, hm, hmi, ho, hacc⟩ := hrel
        have HAcc := Lib.hid hacc
        have HO := Lib.hid (And.intro hm ho)
        clear hacc hm ho HJ0
        by_cases hlt : i < L.length
        · obtain ⟨p, hp⟩ : ∃ p, L[i]? = some p := ⟨L[i], List.getElem?_eq_getElem hlt⟩
          obtain ⟨b, off, rfl⟩ : ∃ b off, A1 = some ⟨b, off, none⟩ := by
            obtain ⟨b, off, e, _⟩ := H1.out.1.2 (by omega)
            exact ⟨b, off, e⟩
          have hpw := HLw.out p (List.mem_of_getElem? hp)
          have HSz := Lib.hid (fun w => refSize_any p.1 p.2 hpw w)
          have x0 := fv_two (H1.out.1.bel (Hb8.out.trans (HAcc.out.bel.mono Hb8.out.size))) hp (by omega)
          have p0 := x0.1
          have p1 := x0.2.1
          have HPp := Lib.hid hp
          have hsn : (L.take (i + 1)).filter (okP room) = o ++ (if okP room p = true then [p] else []) := by
            rw [List.take_add_one, hp, List.filter_append, HO.out.2]
            congr 1
            by_cases h : okP room p = true
            · rw [if_pos h]; simp [h]
            · rw [if_neg h]; simp [h]
          have HSn := Lib.hid hsn
          have HOk : Hid (okP room p = true ↔ 0 < sizeP p ∧ (sizeP p : Int) ≤ room) := okP_iff room p
          obtain ⟨z, hz⟩ : ∃ z, z = sizeP p := ⟨_, rfl⟩
          rw [show sizeP (p.1, p.2) = sizeP p from rfl, ← hz] at HSz
          rw [← hz] at HOk
          have hli : (i : Int) < (L.length : Int) := by omega
          clear hsn hp x0 hz hpw
          go_wp2_with fail
          refine (HSz.out _).mono ?_; rintro e wa ⟨rfl, hba⟩
          have HA2 := Lib.hid (HAcc.out.go hba)
          clear hba p0 p1 HAcc
          have x0 := fv_two (H1.out.1.bel (Hb8.out.trans (HA2.out.bel.mono Hb8.out.size))) HPp.out (by omega)
          have p0 := x0.1
          have p1 := x0.2.1
          clear x0
          by_cases hz0 : z = 0
          · have HNo : Hid (okP room p = false) := by
              rw [Hid, Bool.eq_false_iff]
              intro h
              have := (HOk.out.1 h).1
              omega
            have hsn := HSn.out
            rw [HNo.out, if_neg (by simp), List.append_nil] at hsn
            have HSn2 := Lib.hid hsn
            have d1 : decide ((0 : Int) < (z : Int)) = false := by simp; omega
            clear hsn
            go_wp2_with fail
            go_roundw
            case rel => exact ⟨i + 1, Ao, co, m, o, by omega, by go_num, rfl, HO.out.1, by omega, HSn2.out.symm, HA2.out⟩
            case measure => simp [intOf]; omega
          · have d1 : decide ((0 : Int) < (z : Int)) = true := by simp; omega
            have hz1 : (0 : Int) < (z : Int) := by omega
            by_cases hzr : (z : Int) ≤ room
            · have HYes : Hid (okP room p = true) := HOk.out.2 ⟨by omega, hzr⟩
              have hsn := HSn.out
              rw [if_pos HYes.out] at hsn
              have HSn2 := Lib.hid hsn
              have d2 : decide ((z : Int) ≤ room) = true := by simp; omega
              clear hsn
              go_wp2_with fail
              refine (HSz.out _).mono ?_; rintro e wb ⟨rfl, hbb⟩
              have HA3 := Lib.hid (HA2.out.go hbb)
              clear hbb p0 p1 HA2
              have x0 := fv_two (H1.out.1.bel (Hb8.out.trans (HA3.out.bel.mono Hb8.out.size))) HPp.out (by omega)
              have p0 := x0.1
              have p1 := x0.2.1
              clear x0
              have HA5 := Lib.hid (HA3.out.go ((Below.refl _ _).alloc (Nat.le_refl _) (.cells #[.int .u32 (p.1 : Int), .int .i64 p.2] 69)))
              have HG5 := Lib.hid (rg_boxS (Bk.new wb 69 #[.int .u32 (p.1 : Int), .int .i64 p.2]))
              go_wp2_with (at_builtin; refine wpList_app _ rfl (.tmp 89) (.tmp 94) _ rfl 69 i0 _ 2 16 Try.underlying62 Hi.out Hz0.out Hz1.out Hz2.out rfl (by omega) _ _ co (fv o) rfl HA5.out.own _ (some ⟨wb.heap.size, 0, none⟩) 1 1 (by intro h; cases h) [.int .u32 (p.1 : Int), .int .i64 p.2] rfl HG5.out (by intro u hu; simp at hu; rcases hu with rfl | rfl <;> rfl) (by unfold maxLen; omega) (by omega) ?_; intro A4 c4 w4' ho4 hc4 hf4; have H4 := Lib.hid (HA5.out.app ho4 hc4 hf4); clear ho4 hc4 hf4)
              go_roundw
              case rel => exact ⟨i + 1, A4, c4, m + 1, o ++ [p], by omega, by go_num, rfl, by rw [HO.out.1]; simp, by omega, HSn2.out.symm, by rw [fv_app]; exact H4.out⟩
              case measure => simp [intOf]; omega
            · have HNo : Hid (okP room p = false) := by
                rw [Hid, Bool.eq_false_iff]
                intro h
                have := (HOk.out.1 h).2
                omega
              have hsn := HSn.out
              rw [HNo.out, if_neg (by simp), List.append_nil] at hsn
              have HSn2 := Lib.hid hsn
              have d2 : decide ((z : Int) ≤ room) = false := by simp; omega
              clear hsn
              go_wp2_with fail
              refine (HSz.out _).mono ?_; rintro e wb ⟨rfl, hbb⟩
              have HA3 := Lib.hid (HA2.out.go hbb)
              clear hbb p0 p1 HA2
              go_wp2_with fail
              go_roundw
              case rel => exact ⟨i + 1, Ao, co, m, o, by omega, by go_num, rfl, HO.out.1, by omega, HSn2.out.symm, HA3.out⟩
              case measure => simp [intOf]; omega
        · obtain rfl : i = L.length := by omega
          have hO := HO.out
          rw [List.take_length] at hO
          obtain ⟨R, hR⟩ : ∃ R, R = L.filter (okP room) := ⟨_, rfl⟩
          rw [← hR] at hO
          have hoR : o = R := hO.2
          subst hoR
          have HRo : Hid (∀ p ∈ o, okP room p = true ∧ p.1 < 4294967296) := by rw [Hid, hR]; exact fun p hp => ⟨(List.mem_filter.1 hp).2, HLw.out p (List.mem_filter.1 hp).1⟩
          have HRq := Lib.hid hR
          have HM := Lib.hid hO.1
          have hm40 : m ≤ 40 := by omega
          have Hb9 := Lib.hid (Hb8.out.trans (HAcc.out.bel.mono Hb8.out.size))
          clear hO hR HO hlt hi
          go_wp2_with fail
          refine (HFew.out _ Hb9.out).mono ?_; rintro e wc ⟨Ac, cc, rfl, hoc, hloc, hbc⟩
          have HPk := Lib.hid (Pack_any Ac cc L room wc (by omega) HRr.out.1 HRr.out.2 hoc.nil HLw.out hoc.rg)
          rw [← HRq.out] at HPk
          have Hbc := Lib.hid (Hb9.out.trans (hbc.mono Hb9.out.size))
          have HAc := Lib.hid (HAcc.out.go hbc)
          clear hoc hloc hbc Hb9 HAcc
          go_wp2_with fail
          refine HPk.out.mono ?_; rintro e wd ⟨Ad, cd, vs, rfl, hgr⟩
          have Hbd := Lib.hid (Hbc.out.trans (hgr.acc.bel.mono Hbc.out.size))
          have HAd := Lib.hid (HAc.out.go hgr.acc.bel)
          have HGr := Lib.hid hgr
          have hpk := packK_at o.length room o (Nat.le_refl _) fun p hp => (HRo.out p hp).1
          obtain ⟨gs, hgs⟩ : ∃ gs, gs = packK room o := ⟨_, rfl⟩
          rw [← hgs] at hpk HGr ⊢
          have hgl : gs.length ≤ 40 := by have := hpk.2.1; have := HM.out; omega
          have HPt := Lib.hid hpk
          have HK0 : Hid (Acc wd 69 2 (wd.alloc (.cells #[] 69)) (some ⟨wd.heap.size, 0, none⟩) 0 0 []) := Acc.start ((Below.refl _ _).alloc (Nat.le_refl _) _) (Bk.new wd _ _) (Nat.le_refl _)
          clear hgr hpk hgs HPk Hbc HAc
          go_wp2_with fail
          go_loopw [5, 12, 13, 14, 15] (fun _ v12 v13 _ _ wr => ∃ (i : Nat) (A' : Option Addr) (c' m' : Nat) (bk : List Pf), i ≤ gs.length ∧ v13 = .int .i64 (i : Int) ∧ v12 = .slice A' m' c' ∧ m' = bk.length ∧ bk = (gs.take i).flatten ∧ Acc wd 69 2 wr A' m' c' (fv bk)) (fun _ _ v13 _ _ _ => gs.length - (intOf v13).toNat)
          case atStart => exact ⟨0, _, _, 0, [], Nat.zero_le _, rfl, rfl, rfl, rfl, HK0.out⟩
          case round =>
            obtain ⟨i, Ab, cb, mb, bk, hi, rfl, rfl, hmb, hbk, hacc⟩ := hrel
            have HK := Lib.hid hacc
            have HO := Lib.hid (And.intro hmb hbk)
            clear hacc hmb hbk HK0
            by_cases hlt : i < gs.length
            · obtain ⟨g, hg⟩ : ∃ g, gs[i]? = some g := ⟨gs[i], List.getElem?_eq_getElem hlt⟩
              obtain ⟨B, d, hv, hB, hd, hrr⟩ := HGr.out.row i g hg
              obtain ⟨ba, offa, rfl⟩ := HGr.out.acc.own.form (by omega)
              have hc0 := HGr.out.acc.own.at_ i hv
              have hpt := HPt.out.2.2 i g hg
              have hgf : (gs.take (i + 1)).flatten = bk ++ g := by
                rw [List.take_add_one, hg, HO.out.2]
                simp
              have hgl40 : (bk ++ g).length ≤ 40 := by
                have h1 : (gs.take (i + 1)).flatten.length ≤ gs.flatten.length := by
                  conv => rhs; rw [← List.take_append_drop (i + 1) gs]
                  rw [List.flatten_append, List.length_append]
                  omega
                rw [HPt.out.1, hgf] at h1
                have := HM.out
                omega
              rw [hgf] at hpt
              have hsg := sumP_le g
              rw [List.length_append] at hgl40
              have hmb40 : mb ≤ 40 := by have := HO.out.1; omega
              have hg40 : g.length ≤ 40 := by omega
              have hsg2 : sumP g ≤ 200 := by omega
              have hgp : ∀ p ∈ g, p.1 < 4294967296 := fun p hp => (HRo.out p (by
                rw [← HPt.out.1]
                exact List.mem_flatten.2 ⟨g, List.mem_of_getElem? hg, hp⟩)).2
              have HG := Lib.hid (And.intro hpt (And.intro hgf (And.intro hgp (And.intro hrr (And.intro hB hd)))))
              have HC0 : Hid (∀ w', Below wd.heap.size wd w' → w'.cell? ⟨ba, offa + i, none⟩ = some (.slice B g.length d) ∧ ba < w'.heap.size) := fun w' hb => ⟨(hb.cell (p := ⟨ba, offa + i, none⟩) hc0.2.2).trans hc0.1, Nat.lt_of_lt_of_le hc0.2.2 hb.size⟩
              have hig : (i : Int) < (gs.length : Int) := by omega
              have a0 := (HC0.out _ HK.out.bel).1
              clear hg hv hB hd hrr hc0 hpt hgf hgp hsg hgl40
              go_wp2_with fail
              go_loopw [14, 15] (fun v14 v15 wz => ∃ k : Nat, k ≤ g.length ∧ v15 = .int .i64 (k : Int) ∧ v14 = .int .i64 (sumP (g.take k) : Int) ∧ Acc wd 69 2 wz Ab mb cb (fv bk)) (fun _ v15 _ => g.length - (intOf v15).toNat)
              case atStart => exact ⟨0, Nat.zero_le _, rfl, rfl, HK.out⟩
              case round =>
                obtain ⟨k, hk, rfl, rfl, hacc⟩ := hrel
                have HK2 := Lib.hid hacc
                clear hacc a0
                have a0 := (HC0.out _ HK2.out.bel).1
                by_cases hkt : k < g.length
                · obtain ⟨q, hq⟩ : ∃ q, g[k]? = some q := ⟨g[k], List.getElem?_eq_getElem hkt⟩
                  obtain ⟨b3, off3, rfl⟩ : ∃ b off, B = some ⟨b, off, none⟩ := by
                    obtain ⟨b, off, e, _⟩ := HG.out.2.2.2.1.2 (by omega)
                    exact ⟨b, off, e⟩
                  have x0 := fv_two (HG.out.2.2.2.1.bel HK2.out.bel) hq (by omega)
                  have p0 := x0.1
                  have p1 := x0.2.1
                  have HSz := Lib.hid (fun w => refSize_any q.1 q.2 (HG.out.2.2.1 q (List.mem_of_getElem? hq)) w)
                  have hsn : sumP (g.take (k + 1)) = sumP (g.take k) + sizeP q := by
                    rw [List.take_add_one, hq]
                    exact sumP_snoc _ _
                  have hs1 := sumP_le (g.take k)
                  have hs5 := sizeP_le q
                  rw [List.length_take] at hs1
                  obtain ⟨z, hz⟩ : ∃ z, z = sizeP q := ⟨_, rfl⟩
                  rw [show sizeP (q.1, q.2) = sizeP q from rfl, ← hz] at HSz
                  rw [← hz] at hsn hs5
                  have HSn := Lib.hid hsn
                  have hkg : (k : Int) < (g.length : Int) := by omega
                  have hs2 : sumP (g.take k) ≤ 200 := by omega
                  generalize sumP (g.take k) = sk at *
                  clear hsn hs1 hq x0 hz
                  go_wp2_with fail
                  refine (HSz.out _).mono ?_; rintro e we ⟨rfl, hbe⟩
                  have HK3 := Lib.hid (HK2.out.go hbe)
                  clear hbe p0 p1 a0
                  go_wp2_with fail
                  go_roundw
                  case rel => exact ⟨k + 1, by omega, by go_num, by rw [HSn.out]; push_cast; rfl, HK3.out⟩
                  case measure => simp [intOf]; omega
                · obtain rfl : k = g.length := by omega
                  rw [List.take_length]
                  have hgr2 := HG.out.2.2.2.1.bel HK2.out.bel
                  have HRg := Lib.hid hgr2
                  have HBn := Lib.hid HG.out.2.2.2.2.1
                  have hg0 : ((g.length : Int) == 0) = false := by rw [beq_eq_false_iff_ne]; have := HG.out.1.1; omega
                  have hsr : decide (room < (sumP g : Int)) = false := by have := HG.out.1.2.1; simp; omega
                  have hsr2 : (sumP g : Int) ≤ room := HG.out.1.2.1
                  have HW2 : Hid (∀ w' A' m' c' xs, Acc wd 69 2 w' A' m' c' xs → w'.cell? ⟨ba, offa + i, none⟩ = some (.slice B g.length d)) := fun w' A' m' c' xs ha => (HC0.out _ ha.bel).1
                  have HN : Hid ((bk ++ g).length = mb + g.length) := by rw [Hid, List.length_append, HO.out.1]
                  generalize hsg0 : sumP g = sg at *
                  clear hgr2
                  by_cases hnm : mb + g.length < m
                  · obtain ⟨q, hq⟩ : ∃ q, o[mb + g.length]? = some q := ⟨o[mb + g.length]'(by rw [← HM.out]; exact hnm), List.getElem?_eq_getElem _⟩
                    have hnx := HG.out.1.2.2 q (by rw [HN.out]; exact hq)
                    obtain ⟨bo, offo, rfl⟩ : ∃ b off, Ao = some ⟨b, off, none⟩ := by
                      obtain ⟨b, off, e, _⟩ := HAd.out.own.rg.2 (by omega)
                      exact ⟨b, off, e⟩
                    have HRd : Hid (∀ w', Below wd.heap.size wd w' → w'.cell? ⟨bo, offo + (mb + g.length) * 2, none⟩ = some (.int .u32 (q.1 : Int)) ∧ w'.cell? ⟨bo, offo + (mb + g.length) * 2 + 1, none⟩ = some (.int .i64 q.2)) := fun w' hb => by
                      have h := fv_two (HAd.out.own.rg.bel hb) hq (by omega)
                      exact ⟨h.1, h.2.1⟩
                    have HSz := Lib.hid (fun w => refSize_any q.1 q.2 (HRo.out q (List.mem_of_getElem? hq)).2 w)
                    have hs5 := sizeP_le q
                    obtain ⟨z, hz⟩ : ∃ z, z = sizeP q := ⟨_, rfl⟩
                    rw [show sizeP (q.1, q.2) = sizeP q from rfl, ← hz] at HSz
                    rw [← hz] at hnx hs5
                    have hnx2 : decide ((sg : Int) + (z : Int) ≤ room) = false := by simp; omega
                    have hnx3 : ¬ (sg : Int) + (z : Int) ≤ room := by omega
                    have hnm2 : (mb : Int) + (g.length : Int) < (m : Int) := by omega
                    have hnm3 : decide ((((mb + g.length : Nat)) : Int) < (m : Int)) = true := by simp; omega
                    clear hq hz hnx
                    go_wp2_with (at_builtin; refine wpList_app _ rfl (.tmp 126) (.tmp 130) _ rfl 69 i0 _ 2 16 Try.underlying62 Hi.out Hz0.out Hz1.out Hz2.out rfl (by omega) _ _ cb (fv bk) rfl HK2.out.own _ B g.length d HBn.out (fv g) rfl HRg.out (fv_one _) (by unfold maxLen; omega) (by omega) ?_; intro A4 c4 w4' ho4 hc4 hf4; have H4 := Lib.hid (HK2.out.app ho4 hc4 hf4); have a1 := HW2.out _ _ _ _ _ H4.out; have a2 := (HRd.out _ H4.out.bel).1; have a3 := (HRd.out _ H4.out.bel).2; clear ho4 hc4 hf4)
                    refine (HSz.out _).mono ?_; rintro e we ⟨rfl, hbe⟩
                    have HK3 := Lib.hid (H4.out.go hbe)
                    clear hbe
                    go_wp2_with fail
                    go_roundw
                    case rel => exact ⟨i + 1, A4, c4, mb + g.length, bk ++ g, by omega, by go_num, rfl, HN.out.symm, HG.out.2.1.symm, by rw [fv_app]; exact HK3.out⟩
                    case measure => simp [intOf]; omega
                  · have hnm2 : ¬ (mb : Int) + (g.length : Int) < (m : Int) := by omega
                    have hnm3 : decide ((((mb + g.length : Nat)) : Int) < (m : Int)) = false := by simp; omega
                    go_wp2_with (at_builtin; refine wpList_app _ rfl (.tmp 126) (.tmp 130) _ rfl 69 i0 _ 2 16 Try.underlying62 Hi.out Hz0.out Hz1.out Hz2.out rfl (by omega) _ _ cb (fv bk) rfl HK2.out.own _ B g.length d HBn.out (fv g) rfl HRg.out (fv_one _) (by unfold maxLen; omega) (by omega) ?_; intro A4 c4 w4' ho4 hc4 hf4; have H4 := Lib.hid (HK2.out.app ho4 hc4 hf4); have a1 := HW2.out _ _ _ _ _ H4.out; clear ho4 hc4 hf4)
                    go_roundw
                    case rel => exact ⟨i + 1, A4, c4, mb + g.length, bk ++ g, by omega, by go_num, rfl, HN.out.symm, HG.out.2.1.symm, by rw [fv_app]; exact H4.out⟩
                    case measure => simp [intOf]; omega
            · obtain rfl : i = gs.length := by omega
              have hO := HO.out
              rw [List.take_length, HPt.out.1] at hO
              have hbo : bk = o := hO.2
              subst hbo
              have hml : mb = m := by rw [hO.1, HM.out]
              subst hml
              have HSm : Hid (Calls Try.prog 48 #[.slice Ab mb cb, .slice Ao mb co] wr fun e w' => e = .returned (.bool true) ∧ Below wr.heap.size wr w') := by
                have h1 := HK.out.own.rg
                have h2 := HAd.out.own.rg.bel HK.out.bel
                have hM := HM.out
                rw [hM] at h1 h2 ⊢
                exact sameP_eq Ab Ao cb co bk wr (by rw [← hM]; omega) h1 h2
              have Hbe := Lib.hid (Hbd.out.trans (HK.out.bel.mono Hbd.out.size))
              clear hO HO
              go_wp2_with fail
              refine HSm.out.mono ?_; rintro e wf ⟨rfl, hbf⟩
              have Hbf := Lib.hid (Hbe.out.trans (hbf.mono Hbe.out.size))
              clear hbf HSm Hbe
              go_wp2_with fail
              refine (nlri.lives_any _).mono ?_; rintro e wg ⟨rfl, hbg⟩
              have Hbg := Lib.hid (H1.out.2.2.2.trans ((Hbf.out.trans (hbg.mono Hbf.out.size)).mono H1.out.2.2.2.size))
              clear hbg
              go_wp2_with fail
              go_ret
              exact ⟨rfl, Hbg.out⟩

set_option maxRecDepth 100000 in
theorem walk {H : Type} {enc : TypeId × Value → H} {W : World} {base : Nat} {v0 : Value} {d0 : DataW H} {p0 : List MemPlace}
    (hv0 : Value.okWide Try.prog W .any base 62 v0) (h0 : DataW.Trod enc Try.prog W 0 (fun _ => true) true 62 v0 d0 p0) (a1 : Int) (w1 : (Lit.int .i64 a1).wf = true) :
    Calls Try.prog 13 #[v0, .int .i64 a1] W fun e w' => e = .returned (.bool true) ∧ Below W.heap.size W w' := by
  obtain ⟨A, c, l, rfl, hA, hc, hm, he⟩ := open_sl Try.underlying62 (opens_sl keeps_pfx Try.underlying62 (by kernel_rfl) (by omega) opens_pfx) hv0 h0
  obtain ⟨L, hL, hw, hr⟩ := els_fv he
  rw [← hL] at hc ⊢
  have b1 := wf_i64 w1
  exact core A c L a1 W b1.1 b1.2 hA hc (Nat.le_trans hc hm) hw hr
end Go.Proofs.Ytajilbapjpfloaa.nlriPacks
