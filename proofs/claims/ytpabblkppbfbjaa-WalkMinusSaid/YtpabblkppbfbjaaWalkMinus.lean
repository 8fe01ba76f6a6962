/- What walk.minus, Minus and Both return. Conditions as each lemma states. -/
import Derived.Test.YtpabblkppbfbjaaMinusMath
import Derived.Test.YtpabblkppbfbjaaWalkSteps
namespace Go.Proofs.Ytpabblkppbfbjaa.wlk
open Go.RowKit Go.Proofs.Ytpabblkppbfbjaa.kit Go.Proofs.Ytpabblkppbfbjaa.pfx Go.Proofs.Ytpabblkppbfbjaa.mem Go.Proofs.Ytpabblkppbfbjaa.foot Go.Proofs.Ytpabblkppbfbjaa.tri Go.Proofs.Ytpabblkppbfbjaa.srt
set_option linter.unusedVariables false
set_option linter.unusedSimpArgs false

theorem covd_snoc (l : List Key) (q k : Key) : covd (l ++ [q]) k = (covd l k || decide (q <+: k)) := by simp [covd]
theorem ins_snoc (l : List Key) (q k : Key) : ins (l ++ [q]) k = ins l k ++ (if k <+: q then [q] else []) := by
  unfold ins
  rw [List.filter_append]
  congr 1
  by_cases h : k <+: q
  · rw [if_pos h]; simp [h]
  · rw [if_neg h]; simp [h]
theorem ins_32 {l : List Key} {k : Key} (hk : k.length = 32) (hl : ∀ q ∈ l, q.length ≤ 32) (h : covd l k = false) : ins l k = [] := by
  rcases hh : ins l k with _ | ⟨q, t⟩
  · rfl
  · exfalso
    obtain ⟨hq, hkq⟩ := (ins_iff l k q).1 (by rw [hh]; simp)
    have e := hkq.eq_of_length (Nat.le_antisymm hkq.length_le (by have := hl q hq; omega))
    have := (covd_iff l k).2 ⟨q, hq, by rw [e]; exact List.prefix_rfl⟩
    rw [h] at this
    cases this
theorem ins_len (l : List Key) (k : Key) : (ins l k).length ≤ l.length := List.length_filter_le _ _
theorem covd_at {l : List Key} {k q : Key} {i : Nat} (h : l[i]? = some q) (hq : q <+: k) : covd l k = true := (covd_iff l k).2 ⟨q, List.mem_of_getElem? h, hq⟩

/-- what minus is asked of -/
def MinusOk (f : Nat) : Prop := ∀ (k : Key) (ls : List Key) (A : Option Addr) (c : Nat) (G : Foot) (w : World), f + k.length = 32 → (∀ q ∈ ls, q.length ≤ 32) → ls.length ≤ 100000 → Rg w G 2 A ls.length (fv (ls.map kp)) →
  Calls Try.prog 48 #[.agg #[.int .u32 (adr k : Int), .int .i64 (k.length : Int)], .slice A ls.length c] w (RetK (minusK f k ls) w)

set_option maxRecDepth 100000 in
set_option maxHeartbeats 4000000 in
theorem minus_step (f : Nat) (IH : ∀ g, f = g + 1 → MinusOk g) : MinusOk f := by
  intro k ls A c G w hf h32 hn h
  obtain ⟨i0, hi0, hz0, hz1, hz2⟩ := info_parts info_pf
  have Hi := Lib.hid hi0
  have Hz0 := Lib.hid hz0
  have Hz1 := Lib.hid hz1
  have Hz2 := Lib.hid hz2
  have HIH := Lib.hid IH
  have HF := Lib.hid hf
  have H32 := Lib.hid h32
  have hk : k.length ≤ 32 := by omega
  have HK := Lib.hid hk
  obtain ⟨w1, hw1⟩ : ∃ w1, w1 = w.alloc (.cells #[.int .u32 (adr k : Int), .int .i64 (k.length : Int)] 35) := ⟨_, rfl⟩
  have HB1 : Hid (Below w.heap.size w w1) := by rw [hw1]; exact (Below.refl _ _).alloc (Nat.le_refl _) _
  have HX1 : Hid (Bk w1 w.heap.size 35 #[.int .u32 (adr k : Int), .int .i64 (k.length : Int)]) := by rw [hw1]; exact Bk.new w _ _
  have HR := Lib.hid (h.bel HB1.out)
  have HCv := Lib.hid (fun (q : Key) (hq : q.length ≤ 32) (w : World) => by
    have h := covers_any (adr q) q.length (adr k) k.length (adr_lt hq) (adr_lt hk) w
    rw [cover_key hq hk] at h
    exact h)
  have HCw := Lib.hid (fun (q : Key) (hq : q.length ≤ 32) (w : World) => by
    have h := covers_any (adr k) k.length (adr q) q.length (adr_lt hk) (adr_lt hq) w
    rw [cover_key hk hq] at h
    exact h)
  clear h h32 hi0 hz0 hz1 hz2 IH hk hf
  go_enter Try.func48, Try.ntmps48
  go_upto_region 1 with fail
  rw [← hw1]
  clear hw1
  go_wp2_with fail
  go_loopw [4, 5, 7, 13] (fun v4 v5 _ v13 wr => ∃ (i : Nat) (A' : Option Addr) (c' m : Nat) (o : List Key), i ≤ ls.length ∧ v13 = .int .i64 (i : Int) ∧ v5 = .slice A' m c' ∧ v4 = .slice none 0 0 ∧ m = o.length ∧ m ≤ i ∧ o = ins (ls.take i) k ∧ covd (ls.take i) k = false ∧ Acc w1 35 2 wr A' m c' (fv (o.map kp))) (fun _ _ _ v13 _ => ls.length - (intOf v13).toNat)
  case atStart => exact ⟨0, none, 0, 0, [], Nat.zero_le _, rfl, rfl, rfl, rfl, Nat.le_refl _, rfl, rfl, Own.none_ _ _ _, Below.refl _ _, fun x hx => absurd hx (sf_none x)⟩
  case round =>
    obtain ⟨i, A1, c1, m, o, hi, rfl, rfl, rfl, hm, hmi, ho, hc, hacc⟩ := hrel
    have HAcc := Lib.hid hacc
    have HO := Lib.hid (And.intro hm (And.intro ho hc))
    clear hacc hm ho hc
    by_cases hlt : i < ls.length
    · obtain ⟨q, hq⟩ : ∃ q, ls[i]? = some q := ⟨ls[i], List.getElem?_eq_getElem hlt⟩
      obtain ⟨b, off, rfl⟩ : ∃ b off, A = some ⟨b, off, none⟩ := by
        obtain ⟨b, off, e, _⟩ := HR.out.2 (by omega)
        exact ⟨b, off, e⟩
      have q32 := H32.out q (List.mem_of_getElem? hq)
      have HQ := Lib.hid (And.intro hq q32)
      have x0 := fv_two (HAcc.out.rg HR.out) (show (ls.map kp)[i]? = some (kp q) by rw [List.getElem?_map, hq]; rfl) (by omega)
      have p0 := x0.1
      have p1 := x0.2.1
      simp only [kp] at p0 p1
      have HC1 := Lib.hid (HCv.out q q32)
      have HC2 := Lib.hid (HCw.out q q32)
      have hxb := HX1.out.below HAcc.out.bel HX1.out.lt
      have r0 := hxb.cell 0
      have r1 := hxb.cell 1
      have rl := hxb.lt
      simp at r0 r1
      have HA2 : Hid (Acc w1 35 2 (wr.alloc (.cells #[.int .u32 (adr q : Int), .int .i64 (q.length : Int)] 35)) A1 m c1 (fv (o.map kp))) := HAcc.out.go ((Below.refl _ _).alloc (Nat.le_refl _) _)
      have HXq : Hid (Bk (wr.alloc (.cells #[.int .u32 (adr q : Int), .int .i64 (q.length : Int)] 35)) wr.heap.size 35 #[.int .u32 (adr q : Int), .int .i64 (q.length : Int)]) := Bk.new wr _ _
      clear hq q32 x0 hxb
      by_cases hqk : q <+: k
      · rw [decide_eq_true hqk] at HC1
        have HCd : Hid (covd ls k = true) := covd_at HQ.out.1 hqk
        clear hqk
        go_wp2_with fail
        refine (HC1.out _).mono ?_; rintro e w3 ⟨rfl, hb3⟩
        have HBe := Lib.hid (HB1.out.trans ((HA2.out.bel.trans (hb3.mono HA2.out.bel.size)).mono HB1.out.size))
        clear hb3
        go_wp2_with fail
        go_ret
        have e : minusK f k ls = [] := by
          cases f <;> (unfold minusK; rw [if_pos HCd.out])
        rw [e]
        exact ⟨none, 0, rfl, Own.none_ _ _ _, fun x hx => absurd hx (sf_none x), HBe.out⟩
      · rw [decide_eq_false hqk] at HC1
        have hcd : covd (ls.take (i + 1)) k = false := by
          rw [List.take_add_one, HQ.out.1]
          show covd (ls.take i ++ [q]) k = false
          rw [covd_snoc, HO.out.2.2, decide_eq_false hqk]; rfl
        have hin : ins (ls.take (i + 1)) k = o ++ (if k <+: q then [q] else []) := by
          rw [List.take_add_one, HQ.out.1]
          show ins (ls.take i ++ [q]) k = _
          rw [ins_snoc, ← HO.out.2.1]
        have HSn := Lib.hid (And.intro hcd hin)
        clear hqk hcd hin
        go_wp2_with fail
        refine (HC1.out _).mono ?_; rintro e w3 ⟨rfl, hb3⟩
        have HA3 := Lib.hid (HA2.out.go hb3)
        have HXq3 := Lib.hid (HXq.out.below hb3 HXq.out.lt)
        have hxb := HX1.out.below HA3.out.bel HX1.out.lt
        clear hb3 r0 r1 rl HA2 HXq HC1
        have r0 := hxb.cell 0
        have r1 := hxb.cell 1
        have rl := hxb.lt
        have s0 := HXq3.out.cell 0
        have s1 := HXq3.out.cell 1
        have sl := HXq3.out.lt
        simp at r0 r1 s0 s1
        clear hxb
        go_wp2_with fail
        refine (HC2.out _).mono ?_; rintro e w4 ⟨rfl, hb4⟩
        have HA4 := Lib.hid (HA3.out.go hb4)
        have HXq4 := Lib.hid (HXq3.out.below hb4 HXq3.out.lt)
        clear hb4 r0 r1 rl s0 s1 sl HA3 HXq3 HC2
        have s0 := HXq4.out.cell 0
        have s1 := HXq4.out.cell 1
        have sl := HXq4.out.lt
        simp at s0 s1
        by_cases hkq : k <+: q
        · rw [decide_eq_true hkq]
          have hin := HSn.out.2
          rw [if_pos hkq] at hin
          have HIn := Lib.hid hin
          clear hin hkq
          have HA5 := Lib.hid (HA4.out.go ((Below.refl _ _).alloc (Nat.le_refl _) (.cells #[.int .u32 (adr q : Int), .int .i64 (q.length : Int)] 35)))
          have HG5 := Lib.hid (rg_boxS (Bk.new w4 35 #[.int .u32 (adr q : Int), .int .i64 (q.length : Int)]))
          go_wp2_with (at_builtin; refine wpList_app _ rfl (.tmp 23) (.tmp 25) _ rfl 35 i0 _ 2 16 Try.underlying22 Hi.out Hz0.out Hz1.out Hz2.out rfl (by omega) _ _ c1 (fv (o.map kp)) rfl HA5.out.own _ (some ⟨w4.heap.size, 0, none⟩) 1 1 (by intro h; cases h) [.int .u32 (adr q : Int), .int .i64 (q.length : Int)] rfl HG5.out (by intro u hu; simp at hu; rcases hu with rfl | rfl <;> rfl) (by unfold maxLen; omega) (by omega) ?_; intro A6 c6 w6 ho6 hc6 hf6; have H6 := Lib.hid (HA5.out.app ho6 hc6 hf6); clear ho6 hc6 hf6)
          go_roundw
          case rel => exact ⟨i + 1, A6, c6, m + 1, o ++ [q], by omega, by go_num, rfl, rfl, by rw [HO.out.1]; simp, by omega, HIn.out.symm, HSn.out.1, by rw [List.map_append, fv_app]; exact H6.out⟩
          case measure => simp [intOf]; omega
        · rw [decide_eq_false hkq]
          have hin := HSn.out.2
          rw [if_neg hkq, List.append_nil] at hin
          have HIn := Lib.hid hin
          clear hin hkq
          go_wp2_with fail
          go_roundw
          case rel => exact ⟨i + 1, A1, c1, m, o, by omega, by go_num, rfl, rfl, HO.out.1, by omega, HIn.out.symm, HSn.out.1, HA4.out⟩
          case measure => simp [intOf]; omega
    · obtain rfl : i = ls.length := by omega
      have hO := HO.out
      rw [List.take_length] at hO
      have HO2 := Lib.hid hO
      clear hO HO hlt hi
      have hxb := HX1.out.below HAcc.out.bel HX1.out.lt
      have r0 := hxb.cell 0
      have r1 := hxb.cell 1
      have rl := hxb.lt
      simp at r0 r1
      clear hxb
      rcases f with _ | f
      · have hk32 : k.length = 32 := by have := HF.out; omega
        have HH := Lib.hid (fun w => Halves_32 k hk32 w)
        have HE : Hid (minusK 0 k ls = [k]) := by
          rw [Hid]
          unfold minusK
          rw [if_neg (by rw [HO2.out.2.2]; simp)]
        have hon : o = [] := by rw [HO2.out.2.1]; exact ins_32 hk32 H32.out HO2.out.2.2
        obtain rfl : m = 0 := by rw [HO2.out.1, hon]; rfl
        clear hk32 hon
        go_wp2_with fail
        refine (HH.out _).mono ?_; rintro e w4 ⟨rfl, hb4⟩
        have hxc := HX1.out.below (HAcc.out.bel.trans (hb4.mono HAcc.out.bel.size)) HX1.out.lt
        clear r0 r1 rl
        have r0 := hxc.cell 0
        have r1 := hxc.cell 1
        have rl := hxc.lt
        simp at r0 r1
        clear hxc
        have HEnd : Hid (∀ W g, g = W.heap.size → Below w4.heap.size w4 W → RetK [k] w (.returned (.slice (some ⟨g, 0, none⟩) 1 1)) (W.alloc (.cells #[.int .u32 (adr k : Int), .int .i64 (k.length : Int)] 35))) := fun W g hg hb => by
          subst hg
          have hB4 : Below w.heap.size w w4 := HB1.out.trans ((HAcc.out.bel.trans (hb4.mono HAcc.out.bel.size)).mono HB1.out.size)
          have hB : Below w.heap.size w W := hB4.trans (hb.mono hB4.size)
          exact ⟨_, 1, rfl, Own.made W 35 2 1 1 #[.int .u32 (adr k : Int), .int .i64 (k.length : Int)] (fv ([k].map kp)) (Nat.le_refl _) (by unfold maxLen; omega) rfl rfl rfl, fun x hx => by rw [sf_some] at hx; have hx : W.heap.size = x := hx; have := hB.size; omega, hB.alloc hB.size _⟩
        have hb44 := Lib.hid hb4
        clear hb4
        go_wp2_with fail
        go_ret
        rw [HE.out]
        exact HEnd.out _ _ (by simp) (((Below.refl _ _).alloc (Nat.le_refl _) _).alloc (by simp) _)
      · have hk32 : k.length < 32 := by have := HF.out; omega
        have HH := Lib.hid (fun w => Halves_key k hk32 w)
        by_cases hon : o = []
        · have HE : Hid (minusK (f + 1) k ls = [k]) := by
            rw [Hid]
            unfold minusK
            rw [if_neg (by rw [HO2.out.2.2]; simp), if_pos (by rw [← HO2.out.2.1]; exact hon)]
          obtain rfl : m = 0 := by rw [HO2.out.1, hon]; rfl
          clear hk32 hon
          go_wp2_with fail
          refine (HH.out _).mono ?_; rintro e w4 ⟨rfl, hb4⟩
          have hxc := HX1.out.below (HAcc.out.bel.trans (hb4.mono HAcc.out.bel.size)) HX1.out.lt
          clear r0 r1 rl
          have r0 := hxc.cell 0
          have r1 := hxc.cell 1
          have rl := hxc.lt
          simp at r0 r1
          clear hxc
          have HEnd : Hid (∀ W g, g = W.heap.size → Below w4.heap.size w4 W → RetK [k] w (.returned (.slice (some ⟨g, 0, none⟩) 1 1)) (W.alloc (.cells #[.int .u32 (adr k : Int), .int .i64 (k.length : Int)] 35))) := fun W g hg hb => by
            subst hg
            have hB4 : Below w.heap.size w w4 := HB1.out.trans ((HAcc.out.bel.trans (hb4.mono HAcc.out.bel.size)).mono HB1.out.size)
            have hB : Below w.heap.size w W := hB4.trans (hb.mono hB4.size)
            exact ⟨_, 1, rfl, Own.made W 35 2 1 1 #[.int .u32 (adr k : Int), .int .i64 (k.length : Int)] (fv ([k].map kp)) (Nat.le_refl _) (by unfold maxLen; omega) rfl rfl rfl, fun x hx => by rw [sf_some] at hx; have hx : W.heap.size = x := hx; have := hB.size; omega, hB.alloc hB.size _⟩
          have hb44 := Lib.hid hb4
          clear hb4
          go_wp2_with fail
          go_ret
          rw [HE.out]
          exact HEnd.out _ _ (by simp) (((Below.refl _ _).alloc (Nat.le_refl _) _).alloc (by simp) _)
        · have HE : Hid (minusK (f + 1) k ls = minusK f (k ++ [false]) o ++ minusK f (k ++ [true]) o) := by
            rw [Hid]
            conv => lhs; unfold minusK
            rw [if_neg (by rw [HO2.out.2.2]; simp), if_neg (by rw [← HO2.out.2.1]; exact hon), ← HO2.out.2.1]
          have hm0 : ((m : Int) == 0) = false := by
            rw [beq_eq_false_iff_ne]
            have h1 := HO2.out.1
            have h2 : o.length ≠ 0 := fun h => hon (List.length_eq_zero_iff.1 h)
            omega
          have o32 : ∀ q ∈ o, q.length ≤ 32 := fun q hq => H32.out q (by rw [HO2.out.2.1] at hq; exact ((ins_iff _ _ _).1 hq).1)
          have hrec : ∀ (x : Bool) (w' : World), Below wr.heap.size wr w' → Calls Try.prog 48 #[.agg #[.int .u32 (adr (k ++ [x]) : Int), .int .i64 ((k.length : Int) + 1)], .slice A1 m c1] w' (RetK (minusK f (k ++ [x]) o) w') := fun x w' hb => by
            have hr := (HAcc.out.go hb).own.rg
            have h := HIH.out f rfl (k ++ [x]) o A1 c1 (sf A1) w' (by rw [List.length_append, List.length_singleton]; have := HF.out; omega) o32 (by have := HO2.out.1; omega) (by rw [← HO2.out.1]; exact hr)
            rw [← HO2.out.1, show (((k ++ [x]).length : Nat) : Int) = (k.length : Int) + 1 by simp] at h
            exact h
          have HI1 := Lib.hid (hrec false)
          have HI2 := Lib.hid (hrec true)
          have hl1 := minusK_len f (k ++ [false]) o
          have hl2 := minusK_len f (k ++ [true]) o
          have hpw : 2 ^ f ≤ 4294967296 := Nat.le_trans (Nat.pow_le_pow_right (by omega) (show f ≤ 32 by have := HF.out; omega)) (by decide)
          obtain ⟨l1, hl1e⟩ : ∃ l, l = minusK f (k ++ [false]) o := ⟨_, rfl⟩
          obtain ⟨l2, hl2e⟩ : ∃ l, l = minusK f (k ++ [true]) o := ⟨_, rfl⟩
          rw [← hl1e] at hl1 HI1 HE
          rw [← hl2e] at hl2 HI2 HE
          have hb1 : l1.length ≤ 4294967296 := by omega
          have hb2 : l2.length ≤ 4294967296 := by omega
          clear hl1 hl2 hpw hl1e hl2e hrec o32 hon hk32
          generalize adr (k ++ [false]) = aF at *
          generalize adr (k ++ [true]) = aT at *
          go_wp2_with fail
          refine (HH.out _).mono ?_; rintro e w4 ⟨rfl, hb4⟩
          have HB4 : Hid (Below w.heap.size w w4 ∧ Below wr.heap.size wr w4) := ⟨HB1.out.trans ((HAcc.out.bel.trans (hb4.mono HAcc.out.bel.size)).mono HB1.out.size), hb4⟩
          clear hb4 r0 r1 rl HH
          go_wp2_with fail
          have HBx : Hid (Bk ((w4.alloc (.cells #[.int .u32 (aF : Int), .int .i64 ((k.length : Int) + 1)] 35)).alloc (.cells #[.int .u32 (aT : Int), .int .i64 ((k.length : Int) + 1)] 35)) w4.heap.size 35 #[.int .u32 (aF : Int), .int .i64 ((k.length : Int) + 1)] ∧ Bk ((w4.alloc (.cells #[.int .u32 (aF : Int), .int .i64 ((k.length : Int) + 1)] 35)).alloc (.cells #[.int .u32 (aT : Int), .int .i64 ((k.length : Int) + 1)] 35)) (w4.heap.size + 1) 35 #[.int .u32 (aT : Int), .int .i64 ((k.length : Int) + 1)]) := by
            refine ⟨(Bk.new w4 _ _).below ((Below.refl _ _).alloc (Nat.le_refl _) _) (by simp), ?_⟩
            have h := Bk.new (w4.alloc (.cells #[.int .u32 (aF : Int), .int .i64 ((k.length : Int) + 1)] 35)) 35 #[.int .u32 (aT : Int), .int .i64 ((k.length : Int) + 1)]
            rw [World.size_alloc] at h
            exact h
          have hbb : Below w4.heap.size w4 ((w4.alloc (.cells #[.int .u32 (aF : Int), .int .i64 ((k.length : Int) + 1)] 35)).alloc (.cells #[.int .u32 (aT : Int), .int .i64 ((k.length : Int) + 1)] 35)) := ((Below.refl _ _).alloc (Nat.le_refl _) _).alloc (by simp) _
          obtain ⟨w5, hw5⟩ : ∃ w5, w5 = ((w4.alloc (.cells #[.int .u32 (aF : Int), .int .i64 ((k.length : Int) + 1)] 35)).alloc (.cells #[.int .u32 (aT : Int), .int .i64 ((k.length : Int) + 1)] 35)) := ⟨_, rfl⟩
          rw [← hw5] at HBx hbb ⊢
          have HB5 : Hid (Below w.heap.size w w5 ∧ Below wr.heap.size wr w5) := ⟨HB4.out.1.trans (hbb.mono HB4.out.1.size), HB4.out.2.trans (hbb.mono HB4.out.2.size)⟩
          have HGe : Hid (w4.heap.size + 1 < w5.heap.size) := by rw [Hid, hw5]; simp
          clear hw5 hbb
          go_region_held3 (fun w' => w'.cell? ⟨w4.heap.size, 0, none⟩ = some (.int .u32 (aF : Int)) ∧ w'.cell? ⟨w4.heap.size, 1, none⟩ = some (.int .i64 ((k.length : Int) + 1)) ∧ w'.cell? ⟨w4.heap.size + 1, 0, none⟩ = some (.int .u32 (aT : Int)) ∧ w'.cell? ⟨w4.heap.size + 1, 1, none⟩ = some (.int .i64 ((k.length : Int) + 1))) (exact ⟨HBx.out.1.cell 0, HBx.out.1.cell 1, HBx.out.2.cell 0, HBx.out.2.cell 1⟩) (first
            | (go_at_call 48; (with_reducible refine (HI1.out _ HB5.out.2.drew).mono ?_); rintro e w6 ⟨A2, c2, rfl, ho2, hlo2, hb6⟩; go_must (have hB' := And.intro (HBx.out.1.drew.below hb6 HBx.out.1.lt) (HBx.out.2.drew.below hb6 HBx.out.2.lt)); go_must (have hA' : Acc w 35 2 w6 A2 l1.length c2 (fv (l1.map kp)) := ⟨ho2, HB5.out.1.drew.trans (hb6.mono HB5.out.1.size), fun x hx => Nat.le_trans HB5.out.1.size (hlo2 x hx)⟩); go_must (have hL' := HB5.out.2.drew.trans (hb6.mono HB5.out.2.size)); go_must (have hlo' : ∀ x, sf A2 x → w5.heap.size ≤ x := hlo2); clear HBx; have HBx := Lib.hid hB'; have HA := Lib.hid hA'; have HLo := Lib.hid hlo'; have HL6 := Lib.hid hL'; clear hA' hB' hL' hlo' ho2 hlo2 hb6)
            | (go_at_call 48; (with_reducible refine (HI2.out _ HL6.out).mono ?_); rintro e w7 ⟨A3, c3, rfl, ho3, hlo3, hb7⟩; go_must (have hA' := HA.out.go hb7); go_must (have hB' := And.intro (HBx.out.1.below hb7 HBx.out.1.lt) (HBx.out.2.below hb7 HBx.out.2.lt)); clear HA HBx; have HA := Lib.hid hA'; have HBx := Lib.hid hB'; have HO3 := Lib.hid ho3; clear hA' hB' ho3 hlo3 hb7)
            | (refine step_app _ (by rfl) (.tmp 45) (.tmp 48) _ (by rfl) 35 i0 _ 2 16 Try.underlying22 Hi.out Hz0.out Hz1.out Hz2.out rfl (by omega) A2 l1.length c2 (fv (l1.map kp)) (by rfl) HA.out.own _ A3 l2.length c3 HO3.out.nil (fv (l2.map kp)) (by rfl) HO3.out.rg (fv_one _) (by unfold maxLen; omega) (by omega) ?_; intro A6 c6 w8 ho6 hc6 hf6; go_must (have hA' := HA.out.app ho6 hc6 hf6); go_must (have hB' := And.intro (HBx.out.1.chg hc6 (fun e => by have := HLo.out _ e; have := HGe.out; omega)) (HBx.out.2.chg hc6 (fun e => by have := HLo.out _ e; have := HGe.out; omega))); clear HA HBx; have HA := Lib.hid hA'; have HBx := Lib.hid hB'; clear hA' hB' ho6 hc6 hf6 HO3))
          all_goals
            go_wp2_with fail
            go_ret
            have hx : fv (l1.map kp) ++ fv (l2.map kp) = fv ((l1 ++ l2).map kp) := by rw [List.map_append, fv_app]
            have hn : l1.length + l2.length = (l1 ++ l2).length := by simp
            have ho := HA.out
            rw [hx, hn] at ho
            rw [HE.out]
            exact ⟨A6, c6, by rw [← hn]; rfl, ho.own, ho.low, ho.bel⟩

theorem minus_ok : ∀ (f : Nat), MinusOk f
  | 0 => minus_step 0 fun g h => by omega
  | f + 1 => minus_step (f + 1) fun g h => by
    obtain rfl : g = f := by omega
    exact minus_ok g
end Go.Proofs.Ytpabblkppbfbjaa.wlk
