/- What walk.tops returns: what no other one covers. Condition: at most 10^9 prefixes. -/
import Derived.Test.YtpabblkppbfbjaaDoorWalkFns
import Derived.Test.YtpabblkppbfbjaaDoorNlriSort
import Derived.Test.YtpabblkppbfbjaaDoorSplice
import Derived.Deep.RegionLaw
import Derived.OwnWalk
namespace Go.Proofs.YtpabblkppbfbjaaDoor.wlk
open Go.RowKit Go.Proofs.YtpabblkppbfbjaaDoor.kit Go.Proofs.YtpabblkppbfbjaaDoor.pfx Go.Proofs.YtpabblkppbfbjaaDoor.mem Go.Proofs.YtpabblkppbfbjaaDoor.foot Go.Proofs.YtpabblkppbfbjaaDoor.tri Go.Proofs.YtpabblkppbfbjaaDoor.srt
set_option linter.unusedVariables false
set_option linter.unusedSimpArgs false

theorem cover_key {q k : Key} (hq : q.length ≤ 32) (hk : k.length ≤ 32) : coverB (adr q) q.length (adr k) k.length = decide (q <+: k) := by
  have h := pre_iff (k := q) (b := adr k) (m := k.length) (adr_lt hk) hq
  rw [bits_adr hk] at h
  rw [Bool.eq_iff_iff]
  unfold coverB hasB
  rw [good_adr hq, good_adr hk]
  simp only [Bool.true_and, Bool.and_eq_true, decide_eq_true_eq, beq_iff_eq, Int.toNat_natCast]
  rw [← h]
  constructor
  · rintro ⟨h1, h2⟩; exact ⟨by omega, h2⟩
  · rintro ⟨h1, h2⟩; exact ⟨by omega, h2⟩

/-- good prefixes are keys -/
theorem keys_of : ∀ (l : List Pf), (∀ x ∈ l, gdP x = true) → ∃ ks : List Key, l = ks.map kp ∧ ∀ k ∈ ks, k.length ≤ 32
  | [], _ => ⟨[], rfl, fun k hk => by cases hk⟩
  | x :: l, h => by
    obtain ⟨ks, rfl, hks⟩ := keys_of l fun y hy => h y (by simp [hy])
    have hx := (gdP_iff x).1 (h x (by simp))
    obtain ⟨e1, e2, e3⟩ := good_bits hx.1 hx.2
    refine ⟨bitsOf x.1 x.2.toNat :: ks, ?_, fun k hk => ?_⟩
    · obtain ⟨a, n⟩ := x
      simp only [List.map_cons, kp]
      rw [e1, e2]
    · rcases List.mem_cons.1 hk with rfl | hk
      · exact e3
      · exact hks k hk

theorem strict_len : ∀ (s l : List Pf), s.Pairwise plt → (∀ x ∈ s, x ∈ l) → s.length ≤ l.length
  | [], l, _, _ => Nat.zero_le _
  | x :: s, l, h, hm => by
    obtain ⟨h1, h2⟩ := List.pairwise_cons.1 h
    have hx := hm x (by simp)
    have := strict_len s (l.erase x) h2 fun y hy => (List.mem_erase_of_ne (fun e => plt_irrefl x (by have := h1 y hy; rwa [e] at this))).2 (hm y (by simp [hy]))
    rw [List.length_erase_of_mem hx] at this
    have := List.length_pos_of_mem hx
    simp only [List.length_cons]
    omega
/-- one more: unless the last covers it -/
def topF (out : List Key) (k : Key) : List Key := match out.getLast? with | none => [k] | some q => if q <+: k then out else out ++ [k]
def topsK (ks : List Key) : List Key := ks.foldl topF []
theorem topsK_snoc (ks : List Key) (k : Key) : topsK (ks ++ [k]) = topF (topsK ks) k := by simp [topsK]
theorem topF_sub (out : List Key) (k x : Key) (h : x ∈ topF out k) : x ∈ out ∨ x = k := by
  unfold topF at h
  split at h
  · simp at h; exact .inr h
  · split at h
    · exact .inl h
    · simpa using h
theorem tops_from : ∀ (ks out : List Key) (x : Key), x ∈ ks.foldl topF out → x ∈ out ∨ x ∈ ks
  | [], out, x, h => .inl h
  | k :: ks, out, x, h => by
    rcases tops_from ks _ x h with h | h
    · rcases topF_sub _ _ _ h with h | h
      · exact .inl h
      · exact .inr (by simp [h])
    · exact .inr (by simp [h])
theorem topsK_sub (ks : List Key) (x : Key) (h : x ∈ topsK ks) : x ∈ ks := by
  rcases tops_from ks [] x h with h | h
  · cases h
  · exact h
theorem topsF_len : ∀ (ks out : List Key), (ks.foldl topF out).length ≤ out.length + ks.length
  | [], out => by simp
  | k :: ks, out => by
    have h1 := topsF_len ks (topF out k)
    have h2 : (topF out k).length ≤ out.length + 1 := by
      unfold topF
      split
      · simp
      · split <;> simp
    simp only [List.foldl_cons, List.length_cons]
    omega
theorem topF_len (out : List Key) (k : Key) : (topF out k).length ≤ out.length + 1 := by
  unfold topF
  split
  · simp
  · split <;> simp

/-- keys handed back in a row of its own -/
def RetK (ks : List Key) (w : World) (e : Ending) (w' : World) : Prop := ∃ A c, e = .returned (.slice A ks.length c) ∧ Own w' 24 2 A ks.length c (fv (ks.map kp)) ∧ (∀ x, sf A x → w.heap.size ≤ x) ∧ Below w.heap.size w w'

set_option maxRecDepth 100000 in
set_option maxHeartbeats 2000000 in
theorem tops_any {G : Foot} (A : Option Addr) (n c : Nat) (l : List Pf) (w : World) (hn : n ≤ 100000000) (hA : A = none → c = 0) (hl : l.length = n) (hw : ∀ x ∈ l, x.1 < 4294967296) (h : Rg w G 2 A n (fv l)) :
    Calls Tryd.prog 23 #[.slice A n c] w fun e w' => ∃ ks : List Key, IsSort gdP l (ks.map kp) ∧ (∀ k ∈ ks, k.length ≤ 32) ∧ RetK (topsK ks) w e w' := by
  have HSo := Lib.hid (Sort_any A n c l w (by omega) hA hl hw h)
  have HLn : Hid (l.length ≤ 100000000) := by rw [Hid]; omega
  obtain ⟨i0, hi0, hz0, hz1, hz2⟩ := info_parts info_pf
  have Hi := Lib.hid hi0
  have Hz0 := Lib.hid hz0
  have Hz1 := Lib.hid hz1
  have Hz2 := Lib.hid hz2
  clear h hA hl hw hi0 hz0 hz1 hz2
  go_enter Tryd.func23, Tryd.ntmps23
  go_wp2_with fail
  refine HSo.out.mono ?_; rintro e w2 ⟨A2, c2, s, rfl, hs, ho2, hlo2, hb2⟩
  obtain ⟨ks, hks, hk32⟩ := keys_of s fun x hx => ((hs.mem x).1 hx).2
  subst hks
  have hsl : ks.length ≤ 100000000 := by
    have h1 := strict_len _ l hs.strict fun x hx => ((hs.mem x).1 hx).1
    have h2 := HLn.out
    rw [List.length_map] at h1
    omega
  have hml : (ks.map kp).length = ks.length := by simp
  rw [hml] at ho2 ⊢
  have H2 := Lib.hid (And.intro hs (And.intro hlo2 hb2))
  have HO2 := Lib.hid ho2
  have HK32 := Lib.hid hk32
  clear hs ho2 hlo2 hb2 hk32 HSo hml HLn
  go_wp2_with fail
  go_loopw [3, 5, 6, 10] (fun v3 _ _ v10 wr => ∃ (i : Nat) (A' : Option Addr) (c' : Nat) (out : List Key), i ≤ ks.length ∧ v10 = .int .i64 i ∧ v3 = .slice A' out.length c' ∧ out = topsK (ks.take i) ∧ Acc w2 24 2 wr A' out.length c' (fv (out.map kp))) (fun _ _ _ v10 _ => ks.length - (intOf v10).toNat)
  case atStart => exact ⟨0, none, 0, [], Nat.zero_le _, rfl, rfl, rfl, Own.none_ _ _ _, Below.refl _ _, fun x hx => absurd hx (sf_none x)⟩
  case round =>
    obtain ⟨i, A3, c3, out, hi, rfl, rfl, hout, hacc⟩ := hrel
    have HAcc := Lib.hid hacc
    have HOut := Lib.hid hout
    clear hacc hout
    by_cases hlt : i < ks.length
    · obtain ⟨x, hx⟩ : ∃ x, ks[i]? = some x := ⟨ks[i], List.getElem?_eq_getElem hlt⟩
      obtain ⟨b, off, rfl⟩ : ∃ b off, A2 = some ⟨b, off, none⟩ := by
        obtain ⟨b, off, e, _⟩ := HO2.out.rg.2 (by omega)
        exact ⟨b, off, e⟩
      have hcell := own_cells (HO2.out.bel HAcc.out.bel) i (kp x) (by simp [hx])
      have k0 := hcell.1
      have k1 := hcell.2
      have hx32 := HK32.out x (List.mem_of_getElem? hx)
      have HX := Lib.hid (And.intro hx hx32)
      have hol : out.length ≤ i := by
        have h1 := topsF_len (ks.take i) []
        have h2 := HOut.out
        rw [h2]
        unfold topsK
        simp only [List.length_take, List.length_nil] at h1
        omega
      simp only [kp] at k0 k1
      clear hcell hx hx32
      have htk : topsK (ks.take (i + 1)) = topF out x := by
        rw [List.take_add_one, HX.out.1]
        simp only [Option.toList_some]
        rw [topsK_snoc, ← HOut.out]
      have HTk := Lib.hid htk
      have HBa : Hid (Below wr.heap.size wr (wr.alloc (.cells #[.int .u32 (adr x : Int), .int .i64 (x.length : Int)] 24))) := (Below.refl _ _).alloc (Nat.le_refl _) _
      have HKa : Hid (Bk (wr.alloc (.cells #[.int .u32 (adr x : Int), .int .i64 (x.length : Int)] 24)) wr.heap.size 24 #[.int .u32 (adr x : Int), .int .i64 (x.length : Int)]) := Bk.new wr _ _
      clear htk
      obtain ⟨m, hm⟩ : ∃ m, m = out.length := ⟨_, rfl⟩
      have hac := HAcc.out
      rw [← hm] at hac ⊢
      rw [← hm] at hol
      have HM := Lib.hid hm
      clear HAcc
      have HAcc := Lib.hid hac
      clear hac hm
      rcases hol2 : out.getLast? with _ | q
      case' none =>
        have HT2 : Hid (topF out x = out ++ [x]) := by rw [Hid]; unfold topF; rw [hol2]; rw [List.getLast?_eq_none_iff.1 hol2]; rfl
        have hm0 : m = 0 := by have := HM.out; rw [List.getLast?_eq_none_iff.1 hol2] at this; exact this
        subst hm0
        clear hol2
        go_wp2_with fail
        go_quiet (fail)
        obtain ⟨wq, hwq⟩ : ∃ wq, wq = (wr.alloc (.cells #[.int .u32 (adr x : Int), .int .i64 (x.length : Int)] 24)).drewN nq := ⟨_, rfl⟩
        rw [← hwq]
        have hbq : Below wr.heap.size wr wq := by rw [hwq]; exact below_drewN HBa.out _
        have hkq : Bk wq wr.heap.size 24 #[.int .u32 (adr x : Int), .int .i64 (x.length : Int)] := by rw [hwq]; exact HKa.out
        clear hwq
        have ka := fun i => hkq.cell i
        have kl := hkq.lt
        have ha5 := (HAcc.out.go hbq).go ((Below.refl _ _).alloc (Nat.le_refl _) (.cells #[.int .u32 (adr x : Int), .int .i64 (x.length : Int)] 24))
        have HA5 := Lib.hid ha5
        have HG5 : Hid (Rg (wq.alloc (.cells #[.int .u32 (adr x : Int), .int .i64 (x.length : Int)] 24)) (fun k => k = wq.heap.size) 2 (some ⟨wq.heap.size, 0, none⟩) 1 (fv [kp x])) := Rg.new wq 24 2 1 #[.int .u32 (adr x : Int), .int .i64 (x.length : Int)] rfl
        clear ha5 hbq hkq
        go_wp2_with (at_builtin; refine wpList_app _ rfl (.tmp 28) (.tmp 30) _ rfl 24 i0 _ 2 16 Tryd.underlying31 Hi.out Hz0.out Hz1.out Hz2.out rfl (by omega) _ _ c3 (fv (out.map kp)) rfl HA5.out.own _ (some ⟨wq.heap.size, 0, none⟩) 1 1 (by intro h; cases h) (fv [kp x]) rfl HG5.out (fv_one _) (by unfold maxLen; omega) (by omega) ?_; intro A4 c4 w6 ho6 hc6 hf6; have H6 := Lib.hid (HA5.out.app ho6 hc6 hf6); clear ho6 hc6 hf6)
        go_roundw
        case rel =>
          have h6 := H6.out
          have hm2 := HM.out
          rw [← fv_app, show out.map kp ++ [kp x] = (topF out x).map kp from by rw [HT2.out]; simp] at h6
          have hlen : (topF out x).length = out.length + 1 := by rw [HT2.out]; simp
          rw [← hm2] at hlen
          exact ⟨i + 1, A4, c4, topF out x, by omega, by go_num, by rw [hlen], HTk.out.symm, by rw [hlen]; exact h6⟩
        case measure => simp [intOf]; omega
      case' some =>
        obtain ⟨t, ht⟩ : ∃ t, m = t + 1 := by
          rcases m with _ | t
          · have := HM.out
            have h0 : out = [] := List.length_eq_zero_iff.1 this.symm
            rw [h0] at hol2; cases hol2
          · exact ⟨t, rfl⟩
        have hmt : (m : Int) - 1 = (t : Int) := by omega
        have hm1 : decide ((m : Int) - 1 < 0) = false := by simp; omega
        have hq : out[t]? = some q := by
          rw [List.getLast?_eq_getElem?] at hol2
          have := HM.out
          rwa [show out.length - 1 = t from by omega] at hol2
        obtain ⟨b3, off3, rfl⟩ : ∃ b off, A3 = some ⟨b, off, none⟩ := by
          obtain ⟨b, off, e, _⟩ := HAcc.out.own.rg.2 (by omega)
          exact ⟨b, off, e⟩
        have hq32 : q.length ≤ 32 := HK32.out q (by
          have h1 : q ∈ out := List.mem_of_getElem? hq
          rw [HOut.out] at h1
          exact List.mem_of_mem_take (topsK_sub _ _ h1))
        have HCq := Lib.hid (fun w => covers_any (adr q) q.length (adr x) x.length (adr_lt hq32) (adr_lt HX.out.2) w)
        rw [cover_key hq32 HX.out.2] at HCq
        have hq1 := own_cells HAcc.out.own t (kp q) (by simp [hq])
        have q0 := hq1.1
        have q1 := hq1.2
        have ql := own_lt HAcc.out.own
        simp only [kp] at q0 q1
        have hsn : topF out x = if q <+: x then out else out ++ [x] := by unfold topF; rw [hol2]
        clear hq1 hq hq32 hol2
        have ht0 : (0 : Int) ≤ (t : Int) := by omega
        have ht1 : (t : Int) < (m : Int) := by omega
        have HTm := Lib.hid ht
        clear ht
        by_cases hp : q <+: x
        · have HT3 : Hid (topF out x = out) := by rw [Hid, hsn, if_pos hp]
          rw [decide_eq_true hp] at HCq
          clear hsn hp
          go_wp2_with fail
          go_region_held3 (fun w' => w'.cell? ⟨b3, off3 + t * 2, none⟩ = some (.int .u32 (adr q : Int)) ∧ w'.cell? ⟨b3, off3 + t * 2 + 1, none⟩ = some (.int .i64 (q.length : Int)) ∧ w'.cell? ⟨wr.heap.size, 0, none⟩ = some (.int .u32 (adr x : Int)) ∧ w'.cell? ⟨wr.heap.size, 1, none⟩ = some (.int .i64 (x.length : Int))) (first | exact HS5.out | exact ⟨by go_simp, by go_simp, by go_simp, by go_simp⟩) (first
            | (go_at_call 26; refine (HCq.out _).mono ?_; rintro e wq ⟨rfl, hb5⟩; go_must (have hbq : Below wr.heap.size wr wq := HBa.out.drew.trans (hb5.mono (by simp))); go_must (have hkq : Bk wq wr.heap.size 24 #[.int .u32 (adr x : Int), .int .i64 (x.length : Int)] := (bkd HKa.out).below hb5 (bkd HKa.out).lt); go_must (have HS5 : Hid (wq.cell? ⟨b3, off3 + t * 2, none⟩ = some (.int .u32 (adr q : Int)) ∧ wq.cell? ⟨b3, off3 + t * 2 + 1, none⟩ = some (.int .i64 (q.length : Int)) ∧ wq.cell? ⟨wr.heap.size, 0, none⟩ = some (.int .u32 (adr x : Int)) ∧ wq.cell? ⟨wr.heap.size, 1, none⟩ = some (.int .i64 (x.length : Int))) := ⟨(hbq.cell (p := ⟨b3, off3 + t * 2, none⟩) ql).trans q0, (hbq.cell (p := ⟨b3, off3 + t * 2 + 1, none⟩) ql).trans q1, hkq.cell 0, hkq.cell 1⟩)))
          clear q0 q1 ql HS5 HCq
          go_wp2_with fail
          go_roundw
          case rel => exact ⟨i + 1, _, c3, out, by omega, by go_num, by rw [HM.out], by rw [HTk.out, HT3.out], by have h := HAcc.out.go hbq; rw [HM.out] at h; exact h⟩
          case measure => simp [intOf]; omega
        · have HT2 : Hid (topF out x = out ++ [x]) := by rw [Hid, hsn, if_neg hp]
          rw [decide_eq_false hp] at HCq
          clear hsn hp
          go_wp2_with fail
          go_region_held3 (fun w' => w'.cell? ⟨b3, off3 + t * 2, none⟩ = some (.int .u32 (adr q : Int)) ∧ w'.cell? ⟨b3, off3 + t * 2 + 1, none⟩ = some (.int .i64 (q.length : Int)) ∧ w'.cell? ⟨wr.heap.size, 0, none⟩ = some (.int .u32 (adr x : Int)) ∧ w'.cell? ⟨wr.heap.size, 1, none⟩ = some (.int .i64 (x.length : Int))) (first | exact HS5.out | exact ⟨by go_simp, by go_simp, by go_simp, by go_simp⟩) (first
            | (go_at_call 26; refine (HCq.out _).mono ?_; rintro e wq ⟨rfl, hb5⟩; go_must (have hbq : Below wr.heap.size wr wq := HBa.out.drew.trans (hb5.mono (by simp))); go_must (have hkq : Bk wq wr.heap.size 24 #[.int .u32 (adr x : Int), .int .i64 (x.length : Int)] := (bkd HKa.out).below hb5 (bkd HKa.out).lt); go_must (have HS5 : Hid (wq.cell? ⟨b3, off3 + t * 2, none⟩ = some (.int .u32 (adr q : Int)) ∧ wq.cell? ⟨b3, off3 + t * 2 + 1, none⟩ = some (.int .i64 (q.length : Int)) ∧ wq.cell? ⟨wr.heap.size, 0, none⟩ = some (.int .u32 (adr x : Int)) ∧ wq.cell? ⟨wr.heap.size, 1, none⟩ = some (.int .i64 (x.length : Int))) := ⟨(hbq.cell (p := ⟨b3, off3 + t * 2, none⟩) ql).trans q0, (hbq.cell (p := ⟨b3, off3 + t * 2 + 1, none⟩) ql).trans q1, hkq.cell 0, hkq.cell 1⟩)))
          clear q0 q1 ql HS5 HCq
          have ka := fun i => hkq.cell i
          have kl := hkq.lt
          have ha5 := (HAcc.out.go hbq).go ((Below.refl _ _).alloc (Nat.le_refl _) (.cells #[.int .u32 (adr x : Int), .int .i64 (x.length : Int)] 24))
          have HA5 := Lib.hid ha5
          have HG5 : Hid (Rg (wq.alloc (.cells #[.int .u32 (adr x : Int), .int .i64 (x.length : Int)] 24)) (fun k => k = wq.heap.size) 2 (some ⟨wq.heap.size, 0, none⟩) 1 (fv [kp x])) := Rg.new wq 24 2 1 #[.int .u32 (adr x : Int), .int .i64 (x.length : Int)] rfl
          clear ha5 hbq hkq
          go_wp2_with (at_builtin; refine wpList_app _ rfl (.tmp 28) (.tmp 30) _ rfl 24 i0 _ 2 16 Tryd.underlying31 Hi.out Hz0.out Hz1.out Hz2.out rfl (by omega) _ _ c3 (fv (out.map kp)) rfl HA5.out.own _ (some ⟨wq.heap.size, 0, none⟩) 1 1 (by intro h; cases h) (fv [kp x]) rfl HG5.out (fv_one _) (by unfold maxLen; omega) (by omega) ?_; intro A4 c4 w6 ho6 hc6 hf6; have H6 := Lib.hid (HA5.out.app ho6 hc6 hf6); clear ho6 hc6 hf6)
          go_roundw
          case rel =>
            have h6 := H6.out
            have hm2 := HM.out
            rw [← fv_app, show out.map kp ++ [kp x] = (topF out x).map kp from by rw [HT2.out]; simp] at h6
            have hlen : (topF out x).length = out.length + 1 := by rw [HT2.out]; simp
            rw [← hm2] at hlen
            exact ⟨i + 1, A4, c4, topF out x, by omega, by go_num, by rw [hlen], HTk.out.symm, by rw [hlen]; exact h6⟩
          case measure => simp [intOf]; omega
    · obtain rfl : i = ks.length := by omega
      go_wp2_with fail
      go_ret
      obtain ⟨hs, hlo2, hb2⟩ := H2.out
      have e := HOut.out
      rw [List.take_length] at e
      subst e
      exact ⟨ks, hs, HK32.out, A3, c3, rfl, HAcc.out.own, fun x hx => Nat.le_trans hb2.size (HAcc.out.low x hx), hb2.trans (HAcc.out.bel.mono hb2.size)⟩
end Go.Proofs.YtpabblkppbfbjaaDoor.wlk
