/- What walk.Minus and Both return, said by the addresses. Conditions as each lemma states. -/
import Derived.Test.YtpabblkppbfbjaaWalkMinus
import Derived.Test.YtpabblkppbfbjaaWalkStepsTop
namespace Go.Proofs.Ytpabblkppbfbjaa.wlk
open Go.RowKit Go.Proofs.Ytpabblkppbfbjaa.kit Go.Proofs.Ytpabblkppbfbjaa.pfx Go.Proofs.Ytpabblkppbfbjaa.mem Go.Proofs.Ytpabblkppbfbjaa.foot Go.Proofs.Ytpabblkppbfbjaa.tri Go.Proofs.Ytpabblkppbfbjaa.srt
set_option linter.unusedVariables false
set_option linter.unusedSimpArgs false

theorem sort_ex (l : List Pf) : ∃ ks : List Key, IsSort gdP l (ks.map kp) ∧ ∀ k ∈ ks, k.length ≤ 32 := by
  have h : ∀ (r d s : List Pf), IsSort gdP d s → IsSort gdP (d ++ r) (r.foldl insS s) := by
    intro r
    induction r with
    | nil => intro d s h; simpa using h
    | cons x r ih =>
      intro d s h
      have := ih (d ++ [x]) (insS s x) (insS_ok h x)
      simpa using this
  have h2 := h l [] [] ⟨List.Pairwise.nil, fun x => by simp⟩
  rw [List.nil_append] at h2
  obtain ⟨ks, e, h32⟩ := keys_of (l.foldl insS []) fun x hx => ((h2.mem x).1 hx).2
  exact ⟨ks, e ▸ h2, h32⟩
theorem tops_at {G : Foot} (A : Option Addr) (n c : Nat) (l : List Pf) (ks : List Key) (hs : IsSort gdP l (ks.map kp)) (w : World) (hn : n ≤ 100000000) (hA : A = none → c = 0) (hl : l.length = n) (hw : ∀ x ∈ l, x.1 < 4294967296) (h : Rg w G 2 A n (fv l)) :
    Calls Try.prog 33 #[.slice A n c] w (RetK (topsK ks) w) := by
  refine (tops_any A n c l w hn hA hl hw h).mono ?_
  rintro e w' ⟨ks2, h1, _, h3⟩
  rw [sort_uniq h1 hs] at h3
  exact h3

/-- a list of keys handed back, that is the fewest for these addresses -/
def RetC (S : Nat → Prop) (w : World) (e : Ending) (w' : World) : Prop := ∃ rs : List Key, (∀ k ∈ rs, k.length ≤ 32) ∧ Canon (rs.map kb) ∧ (∀ n, Cov (rs.map kb) n ↔ S n) ∧ RetK rs w e w'

set_option maxRecDepth 100000 in
set_option maxHeartbeats 2000000 in
theorem Minus_good {G : Foot} (k : Key) (A : Option Addr) (c : Nat) (l : List Pf) (ks : List Key) (w : World) (hk : k.length ≤ 32) (hn : l.length ≤ 10000) (hA : A = none → c = 0) (hw : ∀ x ∈ l, x.1 < 4294967296) (hs : IsSort gdP l (ks.map kp)) (h32 : ∀ k ∈ ks, k.length ≤ 32) (h : Rg w G 2 A l.length (fv l)) :
    Calls Try.prog 26 #[.agg #[.int .u32 (adr k : Int), .int .i64 (k.length : Int)], .slice A l.length c] w (RetK (minusK (32 - k.length) k (topsK ks)) w) := by
  have HG := good_any (adr k) k.length (adr_lt hk)
  rw [good_adr hk] at HG
  have HGd := Lib.hid HG
  have HB : Hid (Below w.heap.size w (w.alloc (.cells #[.int .u32 (adr k : Int), .int .i64 (k.length : Int)] 35))) := (Below.refl _ _).alloc (Nat.le_refl _) _
  have HK : Hid (Bk (w.alloc (.cells #[.int .u32 (adr k : Int), .int .i64 (k.length : Int)] 35)) w.heap.size 35 #[.int .u32 (adr k : Int), .int .i64 (k.length : Int)]) := Bk.new w _ _
  have HT := Lib.hid (fun (w' : World) (hb : Below w.heap.size w w') => tops_at A l.length c l ks hs w' (by omega) hA rfl hw (h.bel hb))
  have htl : (topsK ks).length ≤ 10000 := Nat.le_trans (topsK_len ks) (Nat.le_trans (sort_len hs) hn)
  have ht32 := tops_32 h32
  obtain ⟨ts, hts⟩ : ∃ ts, ts = topsK ks := ⟨_, rfl⟩
  rw [← hts] at HT htl ht32 ⊢
  have HM := Lib.hid (fun (A' : Option Addr) (c' : Nat) (G' : Foot) (w' : World) (hr : Rg w' G' 2 A' ts.length (fv (ts.map kp))) => minus_ok (32 - k.length) k ts A' c' G' w' (by omega) ht32 (by omega) hr)
  clear HG hk h hA hw hs h32 hts ht32 hn
  go_enter Try.func26, Try.ntmps26
  go_wp2_with fail
  refine (HGd.out _).mono ?_; rintro e w1 ⟨rfl, hb⟩
  have HB1 := Lib.hid (HB.out.trans (hb.mono (by simp)))
  have HK1 := Lib.hid (HK.out.below hb HK.out.lt)
  clear hb HB HK HGd
  have q0 := HK1.out.cell 0
  have q1 := HK1.out.cell 1
  simp at q0 q1
  have HS5 : Hid (w1.cell? ⟨w.heap.size, 0, none⟩ = some (.int .u32 (adr k : Int)) ∧ w1.cell? ⟨w.heap.size, 1, none⟩ = some (.int .i64 (k.length : Int))) := ⟨q0, q1⟩
  go_wp2_with fail
  go_region_held3 (fun w' => w'.cell? ⟨w.heap.size, 0, none⟩ = some (.int .u32 (adr k : Int)) ∧ w'.cell? ⟨w.heap.size, 1, none⟩ = some (.int .i64 (k.length : Int))) (first | exact HS5.out | exact ⟨by go_simp, by go_simp⟩) (first
    | (go_at_call 33; refine (HT.out _ HB1.out.drew).mono ?_; rintro e w3 ⟨A3, c3, rfl, ho3, hlo3, hb3⟩; go_must (have HK3 := Lib.hid (HK1.out.drew.below hb3 HK1.out.lt)); go_must (have HB3 := Lib.hid (HB1.out.drew.trans (hb3.mono HB1.out.size))); go_must (have HS5 : Hid (w3.cell? ⟨w.heap.size, 0, none⟩ = some (.int .u32 (adr k : Int)) ∧ w3.cell? ⟨w.heap.size, 1, none⟩ = some (.int .i64 (k.length : Int))) := ⟨HK3.out.cell 0, HK3.out.cell 1⟩); go_must (have HR3 := Lib.hid ho3.rg); clear ho3 hlo3 hb3 q0 q1)
    | (go_at_call 48; (with_reducible refine (HM.out _ _ _ _ HR3.out).mono ?_); rintro e w5 ⟨A5, c5, rfl, ho5, hlo5, hb5⟩; go_must (have H5 := Lib.hid (And.intro ho5 (And.intro (fun x hx => Nat.le_trans HB3.out.size (hlo5 x hx)) (HB3.out.trans (hb5.mono HB3.out.size))))); go_must (have HS5 : Hid (w5.cell? ⟨w.heap.size, 0, none⟩ = some (.int .u32 (adr k : Int)) ∧ w5.cell? ⟨w.heap.size, 1, none⟩ = some (.int .i64 (k.length : Int))) := ⟨(HK3.out.below hb5 HK3.out.lt).cell 0, (HK3.out.below hb5 HK3.out.lt).cell 1⟩); clear ho5 hlo5 hb5))
  all_goals
    go_wp2_with fail
    go_ret
    exact ⟨A5, c5, rfl, H5.out.1, H5.out.2.1, H5.out.2.2⟩
theorem Minus_bad (a : Nat) (n : Int) (A : Option Addr) (m c : Nat) (ha : a < 4294967296) (hg : goodB a n = false) (w : World) : Calls Try.prog 26 #[.agg #[.int .u32 (a : Int), .int .i64 n], .slice A m c] w fun e w' => e = .returned (.slice none 0 0) ∧ Below w.heap.size w w' := by
  have HG := good_any a n ha
  rw [hg] at HG
  have HGd := Lib.hid HG
  have HB : Hid (Below w.heap.size w (w.alloc (.cells #[.int .u32 (a : Int), .int .i64 n] 35))) := (Below.refl _ _).alloc (Nat.le_refl _) _
  clear HG hg ha
  go_enter Try.func26, Try.ntmps26
  go_wp2_with fail
  refine (HGd.out _).mono ?_; rintro e w1 ⟨rfl, hb⟩
  have HB1 := Lib.hid (HB.out.trans (hb.mono (by simp)))
  clear hb
  go_wp2_with fail
  go_ret
  exact ⟨rfl, HB1.out⟩

theorem of_one_good {p : Pf} (h : gdP p = true) (n : Nat) : InP (ofP [p]) n ↔ (endsP p).1 ≤ n ∧ n ≤ (endsP p).2 := by
  rw [(ofP_ok [p]).2 n]
  have e : ofL [p] = [endsP p] := by unfold ofL; rw [List.filter_cons_of_pos h]; rfl
  rw [e]
  simp [InP]
theorem of_one_bad {p : Pf} (h : gdP p = false) : ofP [p] = [] := by
  have e : ofL [p] = [] := by unfold ofL; rw [List.filter_cons_of_neg (by rw [h]; simp)]; rfl
  unfold ofP
  rw [e]
  rfl
theorem ends_kb {k : Key} (n : Nat) : ((endsP (kp k)).1 ≤ n ∧ n ≤ (endsP (kp k)).2) ↔ InB (kb k) n := by
  have h0 := Nat.pow_pos (n := 32 - k.length) (show 0 < 2 by decide)
  unfold InB kb
  simp only [endsP, kp, Int.toNat_natCast]
  omega
theorem Minus_any {G : Foot} (p : Pf) (A : Option Addr) (c : Nat) (l : List Pf) (w : World) (hp : p.1 < 4294967296) (hn : l.length ≤ 10000) (hA : A = none → c = 0) (hw : ∀ x ∈ l, x.1 < 4294967296) (h : Rg w G 2 A l.length (fv l)) :
    Calls Try.prog 26 #[.agg #[.int .u32 (p.1 : Int), .int .i64 p.2], .slice A l.length c] w (RetC (fun n => InP (ofP [p]) n ∧ ¬ InP (ofP l) n) w) := by
  obtain ⟨ks, hs, h32⟩ := sort_ex l
  by_cases hg : gdP p = true
  · obtain ⟨k, hk, hkp⟩ : ∃ k : Key, k.length ≤ 32 ∧ p = kp k := by
      have hx := (gdP_iff p).1 hg
      obtain ⟨e1, e2, e3⟩ := good_bits hx.1 hx.2
      exact ⟨_, e3, by unfold kp; rw [e1, e2]⟩
    subst hkp
    refine (Minus_good k A c l ks w hk hn hA hw hs h32 h).mono ?_
    rintro e w' hr
    have hm := minusK_ok (32 - k.length) k (topsK ks) (by omega) (tops_32 h32)
    refine ⟨_, hm.r32, hm.canon, fun n => ?_, hr⟩
    show _ ↔ (InP (ofP [kp k]) n ∧ ¬ InP (ofP l) n)
    rw [hm.cov n, of_one_good hg, ends_kb, tops_cov hs h32 n]
  · have hg' : gdP p = false := by simpa using hg
    have hgb : goodB p.1 p.2 = false := by simpa [gdP, hp] using hg'
    refine (Minus_bad p.1 p.2 A l.length c hp hgb w).mono ?_
    rintro e w' ⟨rfl, hb⟩
    refine ⟨[], (fun k hk => by cases hk), canon_nil, fun n => ?_, none, 0, rfl, Own.none_ _ _ _, fun x hx => absurd hx (sf_none x), hb⟩
    rw [of_one_bad hg']
    exact ⟨fun h => absurd h (Cov.nil n), fun h => absurd h.1 (InP.nil n)⟩

/-- within Both's inner loop -/
structure IJ (w2 wz : World) (gp : Nat) (p : Key) (A3 : Option Addr) (us : List Key) (A : Option Addr) (m c : Nat) (o : List Key) : Prop where
  acc : Acc w2 35 2 wz A m c (fv (o.map kp))
  box : Bk wz gp 35 #[.int .u32 (adr p : Int), .int .i64 (p.length : Int)]
  row : Rg wz (sf A3) 2 A3 us.length (fv (us.map kp))
  lt : ∀ x, sf A3 x → x < wz.heap.size
  ap : ∀ x, sf A x → x ≠ gp ∧ ¬ sf A3 x
theorem IJ.go {w2 wz w' : World} {gp : Nat} {p : Key} {A3 A : Option Addr} {us o : List Key} {m c : Nat} (h : IJ w2 wz gp p A3 us A m c o) (hb : Below wz.heap.size wz w') : IJ w2 w' gp p A3 us A m c o :=
  ⟨h.acc.go hb, h.box.below hb h.box.lt, h.row.bel hb, fun x hx => Nat.lt_of_lt_of_le (h.lt x hx) hb.size, h.ap⟩
theorem IJ.app {w2 wz w' : World} {gp : Nat} {p : Key} {A3 A A' : Option Addr} {us o o' : List Key} {m c m' c' : Nat} (h : IJ w2 wz gp p A3 us A m c o) (ho : Own w' 35 2 A' m' c' (fv (o'.map kp))) (hc : Chg (sf A) wz w') (hf : Fresh wz (sf A) (sf A')) : IJ w2 w' gp p A3 us A' m' c' o' :=
  ⟨h.acc.app ho hc hf, h.box.chg hc fun hs => (h.ap _ hs).1 rfl, h.row.chg hc fun x _ hx hs => (h.ap x hs).2 hx, fun x hx => Nat.lt_of_lt_of_le (h.lt x hx) hc.size, fun x hx => by
    rcases hf x hx with k | k
    · exact h.ap x k
    · refine ⟨fun e => ?_, fun hs => ?_⟩
      · have := h.box.lt; omega
      · have := h.lt x hs; omega⟩

set_option maxRecDepth 100000 in
set_option maxHeartbeats 4000000 in
theorem Both_any {G H : Foot} (A B : Option Addr) (c d : Nat) (a b : List Pf) (w : World) (hna : a.length ≤ 1000) (hnb : b.length ≤ 1000) (hA : A = none → c = 0) (hB : B = none → d = 0) (hwa : ∀ x ∈ a, x.1 < 4294967296) (hwb : ∀ x ∈ b, x.1 < 4294967296) (h : Rg w G 2 A a.length (fv a)) (h' : Rg w H 2 B b.length (fv b)) :
    Calls Try.prog 29 #[.slice A a.length c, .slice B b.length d] w (RetC (fun n => InP (ofP a) n ∧ InP (ofP b) n) w) := by
  obtain ⟨ka, hsa, ha32⟩ := sort_ex a
  obtain ⟨kb', hsb, hb32⟩ := sort_ex b
  obtain ⟨i0, hi0, hz0, hz1, hz2⟩ := info_parts info_pf
  have Hi := Lib.hid hi0
  have Hz0 := Lib.hid hz0
  have Hz1 := Lib.hid hz1
  have Hz2 := Lib.hid hz2
  have HTa := Lib.hid (tops_at A a.length c a ka hsa w (by omega) hA rfl hwa h)
  have HTb := Lib.hid (fun (w' : World) (hb : Below w.heap.size w w') => tops_at B b.length d b kb' hsb w' (by omega) hB rfl hwb (h'.bel hb))
  have hla : (topsK ka).length ≤ 1000 := Nat.le_trans (topsK_len ka) (Nat.le_trans (sort_len hsa) hna)
  have hlb : (topsK kb').length ≤ 1000 := Nat.le_trans (topsK_len kb') (Nat.le_trans (sort_len hsb) hnb)
  have HSs : Hid ((∀ n, Cov ((topsK ka).map kb) n ↔ InP (ofP a) n) ∧ (∀ n, Cov ((topsK kb').map kb) n ↔ InP (ofP b) n) ∧ (∀ k ∈ topsK ka, k.length ≤ 32) ∧ (∀ k ∈ topsK kb', k.length ≤ 32)) := ⟨tops_cov hsa ha32, tops_cov hsb hb32, tops_32 ha32, tops_32 hb32⟩
  generalize topsK ka = ts at *
  generalize topsK kb' = us at *
  clear h h' hA hB hwa hwb hsa hsb ha32 hb32 hi0 hz0 hz1 hz2
  go_enter Try.func29, Try.ntmps29
  go_wp2_with fail
  refine HTa.out.mono ?_; rintro e w2 ⟨A2, c2, rfl, ho2, hlo2, hb2⟩
  have HR2 := Lib.hid ho2.rg
  have HB2 := Lib.hid hb2
  clear ho2 hlo2 hb2 HTa
  go_wp2_with fail
  go_loopw [5, 7, 9, 13] (fun v5 _ _ v13 wr => ∃ (i : Nat) (A' : Option Addr) (c' m : Nat) (o : List Key), i ≤ ts.length ∧ v13 = .int .i64 (i : Int) ∧ v5 = .slice A' m c' ∧ m = o.length ∧ o = bothK (ts.take i) us ∧ Acc w2 35 2 wr A' m c' (fv (o.map kp))) (fun _ _ _ v13 _ => ts.length - (intOf v13).toNat)
  case atStart => exact ⟨0, none, 0, 0, [], Nat.zero_le _, rfl, rfl, rfl, rfl, Own.none_ _ _ _, Below.refl _ _, fun x hx => absurd hx (sf_none x)⟩
  case round =>
    obtain ⟨i, A1, c1, m, o, hi, rfl, rfl, hm, ho, hacc⟩ := hrel
    have HAcc := Lib.hid hacc
    have HO := Lib.hid (And.intro hm ho)
    clear hacc hm ho
    by_cases hlt : i < ts.length
    · obtain ⟨p, hp⟩ : ∃ p, ts[i]? = some p := ⟨ts[i], List.getElem?_eq_getElem hlt⟩
      obtain ⟨b2, off2, rfl⟩ : ∃ b off, A2 = some ⟨b, off, none⟩ := by
        obtain ⟨b, off, e, _⟩ := HR2.out.2 (by omega)
        exact ⟨b, off, e⟩
      have p32 := HSs.out.2.2.1 p (List.mem_of_getElem? hp)
      have HP := Lib.hid (And.intro hp p32)
      have x0 := fv_two (HAcc.out.rg HR2.out) (show (ts.map kp)[i]? = some (kp p) by rw [List.getElem?_map, hp]; rfl) (by omega)
      have p0 := x0.1
      have p1 := x0.2.1
      simp only [kp] at p0 p1
      have HA2 : Hid (Acc w2 35 2 (wr.alloc (.cells #[.int .u32 (adr p : Int), .int .i64 (p.length : Int)] 35)) A1 m c1 (fv (o.map kp))) := HAcc.out.go ((Below.refl _ _).alloc (Nat.le_refl _) _)
      have HXp : Hid (Bk (wr.alloc (.cells #[.int .u32 (adr p : Int), .int .i64 (p.length : Int)] 35)) wr.heap.size 35 #[.int .u32 (adr p : Int), .int .i64 (p.length : Int)]) := Bk.new wr _ _
      have HGp : Hid (w2.heap.size ≤ wr.heap.size ∧ ∀ x, sf A1 x → x ≠ wr.heap.size) := ⟨HAcc.out.bel.size, fun x hx e => by have := HAcc.out.own.lt x hx; omega⟩
      have hsn : bothK (ts.take (i + 1)) us = o ++ us.flatMap (fun q => bothF p q) := by
        rw [List.take_add_one, hp, HO.out.2]
        simp [bothK]
      have HSn := Lib.hid hsn
      have hol : o.length ≤ 1000 * 1000 := by
        rw [HO.out.2]
        have h1 := bothK_len (ts.take i) us
        have h2 : (ts.take i).length * us.length ≤ 1000 * 1000 := Nat.mul_le_mul (by rw [List.length_take]; omega) hlb
        omega
      have hm6 : m ≤ 1000000 := by rw [HO.out.1]; exact hol
      clear hp p32 x0 hsn hol
      go_wp2_with fail
      refine (HTb.out _ (HB2.out.trans (HA2.out.bel.mono HB2.out.size))).mono ?_; rintro e w3 ⟨A3, c3, rfl, ho3, hlo3, hb3⟩
      have HJ3 : Hid (IJ w2 w3 wr.heap.size p A3 us A1 m c1 o) := ⟨HA2.out.go hb3, HXp.out.below hb3 HXp.out.lt, ho3.rg, ho3.lt, fun x hx => ⟨HGp.out.2 x hx, fun hs => by have h1 := hlo3 x hs; have h2 := HAcc.out.own.lt x hx; simp at h1; omega⟩⟩
      clear ho3 hlo3 hb3 HA2 HXp p0 p1 HGp HAcc
      generalize wr.heap.size = gp at *
      go_wp2_with fail
      go_loopw [5, 9, 20] (fun v5 _ v20 wz => ∃ (j : Nat) (A' : Option Addr) (c' m' : Nat) (o' : List Key), j ≤ us.length ∧ v20 = .int .i64 (j : Int) ∧ v5 = .slice A' m' c' ∧ m' = o'.length ∧ m' ≤ m + j ∧ o' = o ++ (us.take j).flatMap (fun q => bothF p q) ∧ IJ w2 wz gp p A3 us A' m' c' o') (fun _ _ v20 _ => us.length - (intOf v20).toNat)
      case atStart => exact ⟨0, A1, c1, m, o, Nat.zero_le _, rfl, rfl, HO.out.1, by omega, by simp, HJ3.out⟩
      case round =>
        obtain ⟨j, A2', c2', m2, o2, hj, rfl, rfl, hm2, hmj, ho2, hJ⟩ := hrel
        have HO2 := Lib.hid (And.intro hm2 ho2)
        have HJ0 := Lib.hid hJ
        clear hJ hm2 ho2
        by_cases hjt : j < us.length
        · obtain ⟨q, hq⟩ : ∃ q, us[j]? = some q := ⟨us[j], List.getElem?_eq_getElem hjt⟩
          obtain ⟨b3, off3, rfl⟩ : ∃ b off, A3 = some ⟨b, off, none⟩ := by
            obtain ⟨b, off, e, _⟩ := HJ0.out.row.2 (by omega)
            exact ⟨b, off, e⟩
          have q32 := HSs.out.2.2.2 q (List.mem_of_getElem? hq)
          have y0 := fv_two HJ0.out.row (show (us.map kp)[j]? = some (kp q) by rw [List.getElem?_map, hq]; rfl) (by omega)
          have q0 := y0.1
          have q1 := y0.2.1
          simp only [kp] at q0 q1
          have hsn2 : o ++ (us.take (j + 1)).flatMap (fun q => bothF p q) = o2 ++ bothF p q := by
            rw [List.take_add_one, hq, HO2.out.2]
            simp
          have HSn2 : Hid (o ++ (us.take (j + 1)).flatMap (fun q => bothF p q) = o2 ++ bothF p q) := hsn2
          have HC1 := covers_any (adr p) p.length (adr q) q.length (adr_lt HP.out.2) (adr_lt q32)
          rw [cover_key HP.out.2 q32] at HC1
          have HC1 := Lib.hid HC1
          have HC2 := covers_any (adr q) q.length (adr p) p.length (adr_lt q32) (adr_lt HP.out.2)
          rw [cover_key q32 HP.out.2] at HC2
          have HC2 := Lib.hid HC2
          have HJ1 := Lib.hid (HJ0.out.go ((Below.refl _ _).alloc (Nat.le_refl _) (.cells #[.int .u32 (adr q : Int), .int .i64 (q.length : Int)] 35)))
          have HXq := Lib.hid (Bk.new wr 35 #[.int .u32 (adr q : Int), .int .i64 (q.length : Int)])
          clear hsn2 hq y0 q32
          go_upto_region 8 with fail
          obtain ⟨wx, hwx⟩ : ∃ wx, wx = wr.alloc (.cells #[.int .u32 (adr q : Int), .int .i64 (q.length : Int)] 35) := ⟨_, rfl⟩
          rw [← hwx] at HJ1 HXq ⊢
          clear hwx q0 q1
          generalize wr.heap.size = gq at *
          have r0 := HJ1.out.box.cell 0
          have r1 := HJ1.out.box.cell 1
          have rl := HJ1.out.box.lt
          have s0 := HXq.out.cell 0
          have s1 := HXq.out.cell 1
          have sl := HXq.out.lt
          simp at r0 r1 s0 s1
          by_cases hpq : p <+: q
          · rw [decide_eq_true hpq] at HC1
            have HF : Hid (bothF p q = [q]) := by rw [Hid]; unfold bothF; rw [if_pos hpq]
            clear hpq
            go_wp2_with fail
            refine (HC1.out _).mono ?_; rintro e wy ⟨rfl, hby⟩
            have HJ := Lib.hid (HJ1.out.go hby)
            have HXy := Lib.hid (HXq.out.below hby HXq.out.lt)
            clear hby r0 r1 rl s0 s1 sl HJ1 HXq HC1 HC2
            have s0 := HXy.out.cell 0
            have s1 := HXy.out.cell 1
            have sl := HXy.out.lt
            simp at s0 s1
            have HA5 := Lib.hid (HJ.out.go ((Below.refl _ _).alloc (Nat.le_refl _) (.cells #[.int .u32 (adr q : Int), .int .i64 (q.length : Int)] 35)))
            have HG5 := Lib.hid (rg_boxS (Bk.new wy 35 #[.int .u32 (adr q : Int), .int .i64 (q.length : Int)]))
            go_wp2_with (at_builtin; refine wpList_app _ rfl (.tmp 28) (.tmp 30) _ rfl 35 i0 _ 2 16 Try.underlying22 Hi.out Hz0.out Hz1.out Hz2.out rfl (by omega) _ _ c2' (fv (o2.map kp)) rfl HA5.out.acc.own _ (some ⟨wy.heap.size, 0, none⟩) 1 1 (by intro h; cases h) [.int .u32 (adr q : Int), .int .i64 (q.length : Int)] rfl HG5.out (by intro u hu; simp at hu; rcases hu with rfl | rfl <;> rfl) (by unfold maxLen; omega) (by omega) ?_; intro A6 c6 w6 ho6 hc6 hf6; have H6 : Hid (IJ w2 w6 gp p (some ⟨b3, off3, none⟩) us A6 (m2 + 1) c6 (o2 ++ [q])) := HA5.out.app (by rw [List.map_append, fv_app]; exact ho6) hc6 hf6; clear ho6 hc6 hf6)
            go_roundw
            case rel => exact ⟨j + 1, A6, c6, m2 + 1, o2 ++ [q], by omega, by go_num, rfl, by rw [HO2.out.1]; simp, by omega, by rw [HSn2.out, HF.out], H6.out⟩
            case measure => simp [intOf]; omega
          · rw [decide_eq_false hpq] at HC1
            go_wp2_with fail
            refine (HC1.out _).mono ?_; rintro e wv ⟨rfl, hby⟩
            have HJv := Lib.hid (HJ1.out.go hby)
            have HXv := Lib.hid (HXq.out.below hby HXq.out.lt)
            clear hby r0 r1 rl s0 s1 sl HJ1 HXq HC1
            have r0 := HJv.out.box.cell 0
            have r1 := HJv.out.box.cell 1
            have rl := HJv.out.box.lt
            have s0 := HXv.out.cell 0
            have s1 := HXv.out.cell 1
            have sl := HXv.out.lt
            simp at r0 r1 s0 s1
            by_cases hqp : q <+: p
            · rw [decide_eq_true hqp] at HC2
              have HF : Hid (bothF p q = [p]) := by rw [Hid]; unfold bothF; rw [if_neg hpq, if_pos hqp]
              clear hpq hqp
              go_wp2_with fail
              refine (HC2.out _).mono ?_; rintro e wy ⟨rfl, hby⟩
              have HJ := Lib.hid (HJv.out.go hby)
              clear hby r0 r1 rl s0 s1 sl HJv HXv HC2
              have s0 := HJ.out.box.cell 0
              have s1 := HJ.out.box.cell 1
              have sl := HJ.out.box.lt
              simp at s0 s1
              have HA5 := Lib.hid (HJ.out.go ((Below.refl _ _).alloc (Nat.le_refl _) (.cells #[.int .u32 (adr p : Int), .int .i64 (p.length : Int)] 35)))
              have HG5 := Lib.hid (rg_boxS (Bk.new wy 35 #[.int .u32 (adr p : Int), .int .i64 (p.length : Int)]))
              go_wp2_with (at_builtin; refine wpList_app _ rfl (.tmp 36) (.tmp 38) _ rfl 35 i0 _ 2 16 Try.underlying22 Hi.out Hz0.out Hz1.out Hz2.out rfl (by omega) _ _ c2' (fv (o2.map kp)) rfl HA5.out.acc.own _ (some ⟨wy.heap.size, 0, none⟩) 1 1 (by intro h; cases h) [.int .u32 (adr p : Int), .int .i64 (p.length : Int)] rfl HG5.out (by intro u hu; simp at hu; rcases hu with rfl | rfl <;> rfl) (by unfold maxLen; omega) (by omega) ?_; intro A6 c6 w6 ho6 hc6 hf6; have H6 : Hid (IJ w2 w6 gp p (some ⟨b3, off3, none⟩) us A6 (m2 + 1) c6 (o2 ++ [p])) := HA5.out.app (by rw [List.map_append, fv_app]; exact ho6) hc6 hf6; clear ho6 hc6 hf6)
              go_roundw
              case rel => exact ⟨j + 1, A6, c6, m2 + 1, o2 ++ [p], by omega, by go_num, rfl, by rw [HO2.out.1]; simp, by omega, by rw [HSn2.out, HF.out], H6.out⟩
              case measure => simp [intOf]; omega
            · rw [decide_eq_false hqp] at HC2
              have HF : Hid (bothF p q = []) := by rw [Hid]; unfold bothF; rw [if_neg hpq, if_neg hqp]
              clear hpq hqp
              go_wp2_with fail
              refine (HC2.out _).mono ?_; rintro e wy ⟨rfl, hby⟩
              have HJ := Lib.hid (HJv.out.go hby)
              clear hby r0 r1 rl s0 s1 sl HJv HXv HC2
              go_wp2_with fail
              go_roundw
              case rel => exact ⟨j + 1, A2', c2', m2, o2, by omega, by go_num, rfl, HO2.out.1, by omega, by rw [HSn2.out, HF.out, List.append_nil], HJ.out⟩
              case measure => simp [intOf]; omega
        · obtain rfl : j = us.length := by omega
          have hO := HO2.out
          rw [List.take_length, ← HSn.out] at hO
          have HO3 := Lib.hid hO
          clear hO HO2
          go_wp2_with fail
          go_roundw
          case rel => exact ⟨i + 1, A2', c2', m2, o2, by omega, by go_num, rfl, HO3.out.1, HO3.out.2, HJ0.out.acc⟩
          case measure => simp [intOf]; omega
    · obtain rfl : i = ts.length := by omega
      have hO := HO.out
      rw [List.take_length] at hO
      have HO2 := Lib.hid hO
      have hol : o.length ≤ 1000 * 1000 := by
        rw [hO.2]
        have h1 := bothK_len ts us
        have h2 : ts.length * us.length ≤ 1000 * 1000 := Nat.mul_le_mul hla hlb
        omega
      have h32 : ∀ k ∈ o, k.length ≤ 32 := by rw [hO.2]; exact bothK_32 HSs.out.2.2.1 HSs.out.2.2.2
      have HO32 := Lib.hid h32
      have HMg := Lib.hid (merge_any A1 m c1 (o.map kp) wr (by have := hO.1; omega) HAcc.out.own.nil (by rw [List.length_map]; exact hO.1.symm) (fun x hx => by
        obtain ⟨k, hk, rfl⟩ := List.mem_map.1 hx
        exact adr_lt (h32 k hk)) HAcc.out.own.rg)
      clear hO hol h32
      go_wp2_with fail
      refine HMg.out.mono ?_; rintro e w5 ⟨ks, hs, h32, A5, c5, rfl, ho5, hlo5, hb5⟩
      have H5 := Lib.hid (And.intro hs (And.intro h32 (And.intro ho5 (And.intro hlo5 hb5))))
      clear hs h32 ho5 hlo5 hb5 HMg
      go_wp2_with fail
      go_ret
      obtain ⟨hs, h32, ho5, hlo5, hb5⟩ := H5.out
      have hJ := mergeJ_of hs h32
      have hBr : Below w.heap.size w wr := HB2.out.trans (HAcc.out.bel.mono HB2.out.size)
      refine ⟨mergeK (topsK ks), hJ.o32, hJ.canon, fun n => ?_, A5, c5, rfl, ho5, fun x hx => Nat.le_trans hBr.size (hlo5 x hx), hBr.trans (hb5.mono hBr.size)⟩
      rw [hJ.cov n, (tops_ok h32 hs.strict).covs h32 n, cov_same HO32.out hs n, HO2.out.2, bothK_in HSs.out.2.2.1 HSs.out.2.2.2 n, HSs.out.1 n, HSs.out.2.1 n]
end Go.Proofs.Ytpabblkppbfbjaa.wlk
