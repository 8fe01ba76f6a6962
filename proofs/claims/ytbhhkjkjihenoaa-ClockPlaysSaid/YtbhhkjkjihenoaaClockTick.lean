/- What clock's tick and Tick return and leave. Conditions: at most 10000 keys, a time of at most a million. -/
import Derived.Test.YtbhhkjkjihenoaaClock
import Derived.Test.YtbhhkjkjihenoaaMapRange
import Derived.Test.YtbhhkjkjihenoaaSortOwn
namespace Go.Proofs.Ytbhhkjkjihenoaa.clk
open Go.RowKit Go.Proofs.Ytbhhkjkjihenoaa.kit Go.Proofs.Ytbhhkjkjihenoaa.mem Go.Proofs.Ytbhhkjkjihenoaa.foot Go.Proofs.Ytbhhkjkjihenoaa.maps
set_option linter.unusedVariables false
set_option linter.unusedSimpArgs false

/-- keys that run out at a time; the others -/
def outK (T : Int) (es : KV) : List Int := (es.filter fun p => p.2 == T).map (·.1)
def stay (T : Int) (es : KV) : KV := es.filter fun p => p.2 != T
theorem outK_yes {T : Int} {es : KV} {p : Int × Int} (h : p.2 = T) : outK T (es ++ [p]) = outK T es ++ [p.1] := by simp [outK, h]
theorem outK_no {T : Int} {es : KV} {p : Int × Int} (h : p.2 ≠ T) : outK T (es ++ [p]) = outK T es := by
  have : (p.2 == T) = false := by simpa using h
  simp [outK, this]
theorem outK_len (T : Int) (es : KV) : (outK T es).length ≤ es.length := by
  unfold outK
  rw [List.length_map]
  exact List.length_filter_le _ _
theorem outK_perm {T : Int} {a b : KV} (h : a.Perm b) : (outK T a).Perm (outK T b) := (h.filter _).map _
/-- entries whose keys are not among some -/
def less (es : KV) (ks : List Int) : KV := es.filter fun p => !ks.contains p.1
theorem less_nil (es : KV) : less es [] = es := by simp [less]
theorem less_snoc (es : KV) (ks : List Int) (k : Int) : cut (less es ks) k = less es (ks ++ [k]) := by
  unfold cut less
  rw [List.filter_filter]
  congr 1
  funext p
  rw [Bool.eq_iff_iff]
  simp
  exact And.comm
theorem nd_eq : ∀ {es : KV}, (es.Pairwise fun p r => p.1 ≠ r.1) → ∀ {p r : Int × Int}, p ∈ es → r ∈ es → p.1 = r.1 → p = r
  | [], _, _, _, h, _, _ => by simp at h
  | x :: es, hn, p, r, hp, hr, e => by
    obtain ⟨h1, h2⟩ := List.pairwise_cons.1 hn
    rcases List.mem_cons.1 hp with rfl | hp'
    · rcases List.mem_cons.1 hr with rfl | hr'
      · rfl
      · exact absurd e (h1 r hr')
    · rcases List.mem_cons.1 hr with rfl | hr'
      · exact absurd e.symm (h1 p hp')
      · exact nd_eq h2 hp' hr' e
theorem less_all {T : Int} {es dn : KV} (hp : es.Perm dn) (hn : es.Pairwise fun p r => p.1 ≠ r.1) : less es (outK T dn) = stay T es := by
  unfold less stay
  refine List.filter_congr fun p hm => ?_
  rw [Bool.eq_iff_iff]
  simp only [Bool.not_eq_true', bne_iff_ne, ne_eq]
  rw [← Bool.not_eq_true, List.contains_iff_mem]
  refine not_congr ?_
  unfold outK
  simp only [List.mem_map, List.mem_filter, beq_iff_eq]
  constructor
  · rintro ⟨r, ⟨hr, rfl⟩, e⟩
    have hr' : r ∈ es := hp.mem_iff.2 hr
    rw [nd_eq hn hm hr' e.symm]
  · intro e
    exact ⟨p, ⟨hp.mem_iff.1 hm, e⟩, rfl⟩

theorem Own.cell1 {w : World} {A : Option Addr} {n c i : Nat} {zs : List Int} (h : Own w 3 1 A n c (iv zs)) (hl : zs.length = n) (hi : i < n) : ∃ g off, A = some ⟨g, off, none⟩ ∧ w.cell? ⟨g, off + i, none⟩ = some (.int .i64 (zs[i]'(by omega))) := by
  obtain ⟨g, off, e, _, _, hc⟩ := h.rg.2 (by omega)
  exact ⟨g, off, e, hc i _ (by simp [iv])⟩

/-- the first loop -/
structure TJ (w : World) (F : Foot) (t b : Nat) (T : Int) (es dn rm : KV) (ks : List Int) (A : Option Addr) (c : Nat) (wr : World) : Prop where
  bk : Bk wr t 152 #[.int .i64 T, .map (some b)]
  rng : MpR iE Try.prog 3 .i64 wr b w.heap.size es.length es dn rm
  own : Own wr 3 1 A ks.length c (iv ks)
  low : ∀ k, sf A k → w.heap.size < k
  chg : Chg F w wr
section
variable {w wr w2 w3 : World} {F : Foot} {t b : Nat} {T : Int} {es dn rm dn' rm' : KV} {ks : List Int} {A A' : Option Addr} {c c' : Nat}
theorem TJ.next (h : TJ w F t b T es dn rm ks A c wr) (ht : t < w.heap.size) (hm : MpR iE Try.prog 3 .i64 w2 b w.heap.size es.length es dn' rm') (hc : Chg (fun j => j = w.heap.size) wr w2) : TJ w F t b T es dn' rm' ks A c w2 :=
  ⟨h.bk.chg hc (by omega), hm, h.own.chg hc fun k _ hk => by have := h.low k hk; omega, h.low, h.chg.trans hc fun i hi e => by omega⟩
theorem TJ.app (h : TJ w F t b T es dn rm ks A c wr) (ht : t < w.heap.size) (hb : b < w.heap.size) (hbl : Below wr.heap.size wr w2) {k : Int} (ho : Own w3 3 1 A' (ks.length + 1) c' (iv ks ++ [.int .i64 k])) (hc : Chg (sf A) w2 w3) (hf : Fresh w2 (sf A) (sf A')) : TJ w F t b T es dn rm (ks ++ [k]) A' c' w3 := by
  have hlow := h.low
  have hch := Chg.of_below hbl (fun _ => False)
  refine ⟨(h.bk.chg hch id).chg hc fun e => by have := hlow _ e; omega, (h.rng.chg hch id id).chg hc (fun e => by have := hlow _ e; omega) (fun e => by have := hlow _ e; omega), by rw [List.length_append]; simpa [iv] using ho, fun k hk => ?_, (h.chg.bel hbl).trans hc fun i hi e => by have := hlow _ e; omega⟩
  rcases hf k hk with h1 | h1
  · exact hlow k h1
  · have h2 := h.rng.lt
    have h3 := hbl.size
    omega
end
/-- the second loop -/
structure TD (w : World) (F : Foot) (t b : Nat) (T : Int) (es : KV) (ks : List Int) (i : Nat) (A : Option Addr) (c : Nat) (wr : World) : Prop where
  bk : Bk wr t 152 #[.int .i64 T, .map (some b)]
  mp : Mp iE Try.prog 3 .i64 wr b es.length (less es (ks.take i))
  own : Own wr 3 1 A ks.length c (iv ks)
  low : ∀ k, sf A k → w.heap.size < k
  chg : Chg F w wr
section
variable {w wr w2 : World} {F : Foot} {t b : Nat} {T : Int} {es dn : KV} {ks : List Int} {A : Option Addr} {c : Nat}
theorem TJ.done (h : TJ w F t b T es dn [] ks A c wr) : TD w F t b T es ks 0 A c wr :=
  ⟨h.bk, by rw [List.take_zero, less_nil]; exact h.rng.mp, h.own, h.low, h.chg⟩
theorem TD.next {i : Nat} (hi : i < ks.length) (h : TD w F t b T es ks i A c wr) (hF : F b) (hbw : b < w.heap.size) (htb : t ≠ b) (hm : Mp iE Try.prog 3 .i64 w2 b es.length (cut (less es (ks.take i)) ks[i])) (hc : Chg (fun j => j = b) wr w2) : TD w F t b T es ks (i + 1) A c w2 :=
  ⟨h.bk.chg hc htb, by rw [less_snoc] at hm; rw [List.take_succ_eq_append_getElem hi]; exact hm, h.own.chg hc fun k _ hk => by have := h.low k hk; omega, h.low, h.chg.trans hc fun i _ e => by rw [e]; exact hF⟩
end

theorem info_i64 : (Try.prog.info? 3).map (fun i => (i.zero, i.size, i.bytes)) = some (some (.int .i64 0), 1, 8) := by kernel_rfl
/-- a new slice of integers -/
def RetI (L : List Int) (B : Nat) (e : Ending) (w' : World) : Prop := ∃ A c, e = .returned (.slice A L.length c) ∧ Own w' 3 1 A L.length c (iv L) ∧ ∀ k, sf A k → B ≤ k

set_option maxRecDepth 100000 in
set_option maxHeartbeats 1000000 in
theorem tick_any {F : Foot} {t : Nat} {now : Int} {es : KV} (w : World) (hw : 0 ≤ now ∧ now ≤ 1000000) (hl : es.length ≤ 10000) (h : Ck w F t now es) :
    Calls Try.prog 93 #[.pointer (some ⟨t, 0, none⟩)] w fun e w' => RetI (sorted (outK (now + 1) es)) w.heap.size e w' ∧ Ck w' F t (now + 1) (stay (now + 1) es) ∧ Chg F w w' := by
  obtain ⟨⟨b, hb, hmp, hFb, htb⟩, hFt, hlt⟩ := h
  have hwf : ∀ p ∈ es, (Lit.int .i64 p.1).wf = true := by
    obtain ⟨D, _, h3⟩ := hmp
    exact h3.wf
  have hnd := hmp.nd
  have b0 := hb.cell 0
  have b1 := hb.cell 1
  have bf := fun i => hb.free i
  simp at b0 b1
  have hbt := hb.lt
  have hbb := hmp.lt
  obtain ⟨n0, n1⟩ := hw
  obtain ⟨T, hT⟩ : ∃ T, T = now + 1 := ⟨_, rfl⟩
  have HT := Lib.hid hT
  have HTy := Lib.hid (show t ≠ b ∧ F b ∧ F t ∧ (∀ k, F k → k < w.heap.size) from ⟨htb, hFb, hFt, hlt⟩)
  have HNd := Lib.hid hnd
  have HWf := Lib.hid hwf
  obtain ⟨w1, hw1⟩ : ∃ w1, w1 = w.setCell ⟨t, 0, none⟩ (.int .i64 T) := ⟨_, rfl⟩
  have hsz : w1.heap.size = w.heap.size := by rw [hw1]; simp
  have HBk1 : Hid (Bk w1 t 152 #[.int .i64 T, .map (some b)]) := by
    rw [hw1]; exact hb.put 0 _
  have HC1 : Hid (Chg F w w1) := by rw [hw1]; exact (Chg.refl _ _).put (.inl hFt) _
  have HMp1 : Hid (Mp iE Try.prog 3 .i64 w1 b es.length es) := by
    rw [hw1]
    exact hmp.chg (F := fun k => k = t) ((Chg.refl (fun k => k = t) w).put (p := ⟨t, 0, none⟩) (.inl rfl) _) (fun e => htb e.symm)
  have hb1 : w1.cell? ⟨t, 1, none⟩ = some (.map (some b)) := by have := HBk1.out.cell 1; simpa using this
  obtain ⟨i0, hi, hz0, hz1, hz2⟩ := info_parts info_i64
  have Hi := Lib.hid hi
  have Hz0 := Lib.hid hz0
  have Hz1 := Lib.hid hz1
  have Hz2 := Lib.hid hz2
  have HSz := Lib.hid hsz
  clear hi hz0 hz1 hz2 hb hmp hnd hwf htb hFb hFt hlt hsz
  go_enter Try.func93, Try.ntmps93
  go_upto_region 3 with fail
  rw [← hT, ← hw1]
  have HR1 : Hid (∀ w2, MpR iE Try.prog 3 .i64 w2 b w1.heap.size es.length es [] es → Below w1.heap.size w1 w2 → TJ w F t b T es [] es [] none 0 w2) := fun w2 hr hbl =>
    ⟨HBk1.out.below hbl HBk1.out.lt, by rw [← HSz.out]; exact hr, Own.none_ _ _ _, fun k hk => absurd hk (sf_none k), HC1.out.bel hbl⟩
  clear hw1 hT
  go_wp2_with (at_range; refine wpList_range_mp (E := iE) rfl (.tmp 18) _ (by rfl) 3 Try.underlying3 Try.underlying150 (by rfl) HMp1.out ?_; intro w2 hr1 hbl1; have HJ := Lib.hid (HR1.out w2 hr1 hbl1); clear hr1 hbl1)
  rw [HSz.out]
  go_frame
  go_loopw [3, 4, 5] (fun v3 _ _ wr => ∃ (A : Option Addr) (c : Nat) (dn rm : KV), v3 = .slice A (outK T dn).length c ∧ es.Perm (dn ++ rm) ∧ TJ w F t b T es dn rm (outK T dn) A c wr) (fun _ _ _ wr => wr.rangeLeft b w.heap.size)
  case atStart => exact ⟨none, 0, [], es, rfl, by simp, HJ.out⟩
  case round =>
    obtain ⟨A, c, dn, rm, rfl, hp, hJ⟩ := hrel
    have HP := Lib.hid hp
    have HJ2 := Lib.hid hJ
    have HTx : Hid (t < w.heap.size ∧ b < w.heap.size) := ⟨hbt, hbb⟩
    clear hp hJ HJ HR1 HMp1
    go_wp2_with (at_next; refine wpList_next_mp (E := iE) rfl (.tmp 19) (by rfl) Try.underlying3 (by rfl) HJ2.out.rng ?_ ?_)
    · intro h0
      subst h0
      have hp := HP.out
      rw [List.append_nil] at hp
      have HD := Lib.hid HJ2.out.done
      have HL : Hid (less es (outK T dn) = stay T es) := less_all hp HNd.out
      have HS : Hid (sorted (outK T dn) = sorted (outK T es)) := sorted_perm (outK_perm hp.symm)
      have HKw : Hid (∀ k ∈ outK T dn, (Lit.int .i64 k).wf = true) := by
        intro k hk
        simp only [outK, List.mem_map, List.mem_filter] at hk
        obtain ⟨p, ⟨h1, _⟩, rfl⟩ := hk
        exact HWf.out p (hp.mem_iff.2 h1)
      have hkl : (outK T dn).length ≤ 10000 := Nat.le_trans (outK_len T dn) (by rw [← hp.length_eq]; exact hl)
      clear hp HP HJ2
      generalize outK T dn = ks at *
      go_wp2_with fail
      go_loopw [7, 37] (fun _ v37 wr => ∃ i : Nat, i ≤ ks.length ∧ v37 = .int .i64 i ∧ TD w F t b T es ks i A c wr) (fun _ v37 _ => ks.length - (intOf v37).toNat)
      case atStart => exact ⟨0, by omega, rfl, HD.out⟩
      case round =>
        obtain ⟨i, hi, rfl, hD⟩ := hrel
        have HDi := Lib.hid hD
        clear hD HD
        by_cases hlt : i < ks.length
        · obtain ⟨g, off, rfl, hcell⟩ := clk.Own.cell1 HDi.out.own rfl hlt
          have hbw := HDi.out.bk.cell 1
          simp at hbw
          have HW := Lib.hid (HKw.out ks[i] (by simp))
          have HN : Hid (∀ w2, Mp iE Try.prog 3 .i64 w2 b es.length (cut (less es (ks.take i)) ks[i]) → Chg (fun j => j = b) wr w2 → TD w F t b T es ks (i + 1) (some ⟨g, off, none⟩) c w2) := fun w2 g1 g2 => HDi.out.next hlt HTy.out.2.1 HTx.out.2 HTy.out.1 g1 g2
          have HMp := Lib.hid HDi.out.mp
          generalize ks[i] = k at *
          go_wp2_with (at_delete; (refine wpList_drop (E := iE) rfl (.tmp 44) (.tmp 45) _ rfl 3 Try.underlying3 Try.underlying150 b es.length _ rfl HMp.out k HW.out (by rfl) ?_); intro w4 g1 g2; have HE := Lib.hid (HN.out w4 g1 g2); clear g1 g2)
          go_roundw
          case rel => exact ⟨i + 1, by omega, by go_num, HE.out⟩
          case measure => simp [intOf]; omega
        · obtain rfl : i = ks.length := by omega
          have HSo := Lib.hid (Sort_own A ks.length c ks wr rfl (by omega) HDi.out.own)
          go_wp2_with fail
          refine HSo.out.mono ?_; rintro e w4 ⟨rfl, ho4, hc4⟩
          have hlow := HDi.out.low
          have hF3 := HDi.out.chg
          have hmp4 : Mp iE Try.prog 3 .i64 w4 b es.length (stay T es) := by
            have := HDi.out.mp
            rw [List.take_length, HL.out] at this
            exact this.chg hc4 fun e => by have := hlow _ e; have := HTx.out.2; omega
          have hbk4 := HDi.out.bk.chg hc4 fun e => by have := hlow _ e; have := HTx.out.1; omega
          have HR : Hid (∃ L, L = sorted (outK T es) ∧ L.length = ks.length ∧ Own w4 3 1 A ks.length c (iv L) ∧ Ck w4 F t T (stay T es) ∧ Chg F w w4 ∧ ∀ k, sf A k → w.heap.size ≤ k) :=
            ⟨_, rfl, by rw [← HS.out, sorted_len], by rw [← HS.out]; exact ho4, ⟨⟨b, hbk4, hmp4.tight, HTy.out.2.1, HTy.out.1⟩, HTy.out.2.2.1, fun k hk => Nat.lt_of_lt_of_le (HTy.out.2.2.2 k hk) (Nat.le_trans hF3.size hc4.size)⟩, hF3.trans hc4 fun i hi e => by have := hlow _ e; omega, fun k hk => by have := hlow _ hk; omega⟩
          clear ho4 hc4 hlow hF3 hmp4 hbk4 HSo HDi
          go_wp2_with fail
          go_ret
          obtain ⟨L, hL, hll, ho, hck, hch, hlow⟩ := HR.out
          rw [← HT.out]
          refine ⟨⟨A, c, ?_, ?_, hlow⟩, hck, hch⟩
          · rw [← hL, hll]; rfl
          · rw [← hL, hll]; exact ho
    · intro k0 v0 r1 r2 w3 hr hm2 hlf hc hen
      have HP2 : Hid (es.Perm ((dn ++ [(k0, v0)]) ++ (r1 ++ r2))) := by
        rw [hr] at HP
        refine HP.out.trans ?_
        rw [List.append_assoc]
        refine List.Perm.append_left _ ?_
        rw [List.singleton_append]
        exact List.perm_middle
      have HJ3 := Lib.hid (HJ2.out.next HTx.out.1 hm2 hc)
      have HLf := Lib.hid hlf
      replace hen : (Instr.entry (.pointer (some ⟨w.heap.size, 0, none⟩))).run Try.prog w3 = .ok (.tuple #[.int .i64 k0, .int .i64 v0]) w3 := hen
      have hnl : (outK T dn).length ≤ 10000 := Nat.le_trans (outK_len T dn) (by have := HP2.out.length_eq; rw [List.length_append, List.length_append] at this; omega)
      have hbw := HJ3.out.bk.cell 0
      simp at hbw
      rw [show iE.mkv v0 = .int .i64 v0 from rfl]
      clear hr hm2 hlf hc HP HJ2
      by_cases he : v0 = T
      · subst he
        have HE : Hid (outK v0 (dn ++ [(k0, v0)]) = outK v0 dn ++ [k0]) := outK_yes rfl
        have hbl : Below w3.heap.size w3 (w3.alloc (.cells #[.int .i64 k0] 3)) := (Below.refl _ _).alloc (Nat.le_refl _) _
        have HO := Lib.hid (HJ3.out.own.bel hbl)
        have HRg : Hid (Rg (w3.alloc (.cells #[.int .i64 k0] 3)) (fun k => k = w3.heap.size) 1 (some ⟨w3.heap.size, 0, none⟩) 1 [.int .i64 k0]) := Rg.new w3 3 1 1 #[.int .i64 k0] rfl
        have HA : Hid (∀ A' c' w5, Own w5 3 1 A' ((outK v0 dn).length + 1) c' (iv (outK v0 dn) ++ [.int .i64 k0]) → Chg (sf A) (w3.alloc (.cells #[.int .i64 k0] 3)) w5 → Fresh (w3.alloc (.cells #[.int .i64 k0] 3)) (sf A) (sf A') → TJ w F t b v0 es (dn ++ [(k0, v0)]) (r1 ++ r2) (outK v0 dn ++ [k0]) A' c' w5 ∧ w5.rangeLeft b w.heap.size < wr.rangeLeft b w.heap.size) := fun A' c' w5 g1 g2 g3 => by
          have hlow := HJ3.out.low
          refine ⟨HJ3.out.app HTx.out.1 HTx.out.2 hbl g1 g2 g3, ?_⟩
          have e1 := HJ3.out.rng.left_same (Chg.of_below hbl (fun _ => False)) id id
          have e2 := (HJ3.out.rng.chg (Chg.of_below hbl (fun _ => False)) id id).left_same g2 (fun e => by have := hlow _ e; have := HTx.out.2; omega) (fun e => by have := hlow _ e; omega)
          rw [e2, e1]
          exact HLf.out
        clear hbl HJ3 HLf
        go_wp2_with (at_builtin; refine wpList_app _ rfl (.tmp 31) (.tmp 33) _ rfl 3 i0 _ 1 8 Try.underlying100 Hi.out Hz0.out Hz1.out Hz2.out rfl (by omega) A (outK v0 dn).length c (iv (outK v0 dn)) rfl HO.out _ (some ⟨w3.heap.size, 0, none⟩) 1 1 (by intro h; cases h) [.int .i64 k0] rfl HRg.out (by intro u hu; simp at hu; subst hu; rfl) (by unfold maxLen; omega) (by omega) ?_; intro A4 c4 w5 ho5 hc5 hf5; have HJ5 := Lib.hid (HA.out A4 c4 w5 ho5 hc5 hf5); clear ho5 hc5 hf5)
        go_roundw
        case measure => exact HJ5.out.2
        case rel => exact ⟨A4, c4, dn ++ [(k0, v0)], r1 ++ r2, by rw [HE.out, List.length_append]; rfl, HP2.out, by rw [HE.out]; exact HJ5.out.1⟩
      · have e1 : (v0 == T) = false := by rw [beq_eq_false_iff_ne]; exact he
        have HE : Hid (outK T (dn ++ [(k0, v0)]) = outK T dn) := outK_no he
        clear he
        go_wp2_with fail
        go_roundw
        case measure => exact HLf.out
        case rel => exact ⟨A, c, dn ++ [(k0, v0)], r1 ++ r2, by rw [HE.out], HP2.out, by rw [HE.out]; exact HJ3.out⟩
end Go.Proofs.Ytbhhkjkjihenoaa.clk
