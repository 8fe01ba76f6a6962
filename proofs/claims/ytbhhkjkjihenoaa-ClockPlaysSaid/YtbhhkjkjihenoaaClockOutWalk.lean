/- The walk of the law ClockOut: the Go text returns true and writes nothing that was there. No condition. -/
import Derived.Test.YtbhhkjkjihenoaaClockLives
import Derived.Test.YtbhhkjkjihenoaaRel
import Derived.Deep.DeepCutAuto
namespace Go.Proofs.Ytbhhkjkjihenoaa.clk
open Go.RowKit Go.Proofs.Ytbhhkjkjihenoaa.kit Go.Proofs.Ytbhhkjkjihenoaa.mem Go.Proofs.Ytbhhkjkjihenoaa.foot Go.Proofs.Ytbhhkjkjihenoaa.maps
set_option linter.unusedVariables false
set_option linter.unusedSimpArgs false

/-- acts as arguments -/
abbrev RAct : Rel (Int × Int × Int) := rPair (rInt .i64) (rPair (rInt .i64) (rInt .i64))
theorem keeps_act : Keeps 3 RAct := keeps_pair (keeps_int .i64) (keeps_pair (keeps_int .i64) (keeps_int .i64))
section
variable {H : Type} {enc : TypeId × Value → H} {w : World} {base : Nat} {held : Bool}
set_option maxRecDepth 100000 in
theorem opens_act : Opens enc Try.prog w base held 99 RAct :=
  opens_struct Try.underlying99 (by kernel_rfl) (opensF_cons (o' := 1) rfl (by kernel_rfl) (opens_int Try.underlying3) (opensF_cons (o' := 2) rfl (by kernel_rfl) (opens_int Try.underlying3) (opensF_last rfl (opens_int Try.underlying3))))
end
/-- the k-th act of a slice that came in -/
theorem act_at {W : World} {G : Foot} {A : Option Addr} {l : List (Int × Int × Int)} (h : Els 3 RAct W G A l) {k : Nat} (hk : k < l.length) :
    ∃ (b off : Nat) (kind key n : Int), A = some ⟨b, off, none⟩ ∧ b < W.heap.size ∧ (Lit.int .i64 key).wf = true ∧ (Lit.int .i64 n).wf = true ∧ W.cell? ⟨b, off + k * 3, none⟩ = some (.int .i64 kind) ∧ W.cell? ⟨b, off + k * 3 + 1, none⟩ = some (.int .i64 key) ∧ W.cell? ⟨b, off + k * 3 + 2, none⟩ = some (.int .i64 n) := by
  obtain ⟨b, off, cs, e, _, hb, hr, hc⟩ := h.at_ keeps_act hk
  obtain ⟨_, _, rfl, ⟨rfl, _⟩, _, _, rfl, ⟨rfl, h1⟩, rfl, h2⟩ := hr
  have q0 := hc 0 _ rfl
  have q1 := hc 1 _ rfl
  have q2 := hc 2 _ rfl
  rw [Nat.add_zero] at q0
  exact ⟨b, off, _, _, _, e, hb, h1, h2, q0, q1, q2⟩

/-- setting any key -/
theorem Set_any {F : Foot} {t : Nat} {now : Int} {es : KV} (k n : Int) (w : World) (hk : (Lit.int .i64 k).wf = true) (hw : 0 ≤ now ∧ now ≤ 1000000) (hl : es.length < 10000) (h : Ck w F t now es) :
    Calls Try.prog 46 #[.pointer (some ⟨t, 0, none⟩), .int .i64 k, .int .i64 n] w fun e w' => ∃ (r : Int) (es' : KV), e = .returned (.int .i64 r) ∧ (es' = es ∨ es' = put es k (now + n)) ∧ Ck w' F t now es' ∧ Chg F w w' := by
  by_cases hn : 1 ≤ n ∧ n ≤ 65535
  · exact (Set_ok k n w hk hn.1 hn.2 hw hl h).mono fun e w' ⟨h1, h2, h3⟩ => ⟨0, _, h1, .inr rfl, h2, h3⟩
  · exact (Set_bad (some ⟨t, 0, none⟩) k n (by omega) w).mono fun e w' ⟨h1, h2⟩ => ⟨1, es, h1, .inl rfl, h2 ▸ h, h2 ▸ Chg.refl _ _⟩

/-- key 77 runs out at a time, and only before that it runs -/
structure O77 (es : KV) (at_ tk : Nat) : Prop where
  val : ∀ p ∈ es, p.1 = 77 → p.2 = (tk : Int)
  has : hasK es 77 = decide (at_ < tk)
theorem hasK_put (es : KV) (k v x : Int) : hasK (put es k v) x = (k == x || (hasK es x && (x != k))) := by
  unfold hasK maps.put
  rw [List.any_cons]
  have := cut_any es k x
  unfold cut at this
  rw [this]
theorem O77.put {es : KV} {a tk : Nat} (h : O77 es a tk) {k v : Int} (hk : k ≠ 77) : O77 (maps.put es k v) a tk := by
  refine ⟨fun p hp e => ?_, ?_⟩
  · rcases List.mem_cons.1 hp with rfl | hp
    · exact absurd e hk
    · exact h.val p (List.mem_filter.1 hp).1 e
  · rw [hasK_put, h.has]
    have e1 : (k == 77) = false := by simpa using hk
    have e2 : ((77 : Int) != k) = true := by simp; omega
    rw [e1, e2]
    simp
theorem O77.start (tk : Nat) (h : 0 < tk) : O77 (maps.put [] 77 ((0 : Int) + tk)) 0 tk := by
  refine ⟨fun p hp e => ?_, ?_⟩
  · simp [maps.put] at hp
    rw [hp]
  · rw [hasK_put]
    simp [h]
theorem O77.tick {es : KV} {a tk : Nat} (h : O77 es a tk) : O77 (stay ((a : Int) + 1) es) (a + 1) tk := by
  refine ⟨fun p hp e => h.val p (List.mem_filter.1 hp).1 e, ?_⟩
  rw [Bool.eq_iff_iff]
  simp only [hasK, stay, List.any_eq_true, List.mem_filter, bne_iff_ne, beq_iff_eq, decide_eq_true_eq]
  constructor
  · rintro ⟨p, ⟨h1, h2⟩, h3⟩
    have e := h.val p h1 h3
    have hh : hasK es 77 = true := by rw [hasK, List.any_eq_true]; exact ⟨p, h1, by simpa using h3⟩
    rw [h.has] at hh
    simp at hh
    rw [e] at h2
    omega
  · intro hlt
    have hh : hasK es 77 = true := by rw [h.has]; simp; omega
    rw [hasK, List.any_eq_true] at hh
    obtain ⟨p, h1, h2⟩ := hh
    have h2' : p.1 = 77 := by simpa using h2
    exact ⟨p, ⟨h1, by rw [h.val p h1 h2']; omega⟩, h2'⟩
theorem O77.gone {es : KV} {a tk : Nat} (h : O77 es a tk) : (sorted (outK ((a : Int) + 1) es)).contains 77 = decide (a + 1 = tk) := by
  rw [Bool.eq_iff_iff, List.contains_iff_mem, (List.mergeSort_perm _ _).mem_iff]
  simp only [outK, List.mem_map, List.mem_filter, beq_iff_eq, decide_eq_true_eq]
  constructor
  · rintro ⟨p, ⟨h1, h2⟩, h3⟩
    have e := h.val p h1 h3
    omega
  · intro e
    have hh : hasK es 77 = true := by rw [h.has]; simp; omega
    rw [hasK, List.any_eq_true] at hh
    obtain ⟨p, h1, h2⟩ := hh
    have h2' : p.1 = 77 := by simpa using h2
    exact ⟨p, ⟨h1, by rw [h.val p h1 h2']; omega⟩, h2'⟩
theorem O77.left {es : KV} {a tk : Nat} (h : O77 es a tk) : (a < tk ∧ atOf es 77 = (tk : Int)) ∨ (tk ≤ a ∧ atOf es 77 = 0) := by
  rcases hf : es.find? (fun r => r.1 == (77 : Int)) with _ | r
  · refine .inr ⟨?_, by unfold atOf; rw [hf]⟩
    have hh : hasK es 77 = false := by
      rw [hasK, List.any_eq_false]; intro r hr; have := List.find?_eq_none.1 hf r hr; simpa using this
    rw [h.has] at hh
    simpa using hh
  · have hr := List.mem_of_find?_eq_some hf
    have hk' : r.1 = 77 := by have := List.find?_some hf; simpa using this
    refine .inl ⟨?_, by unfold atOf; rw [hf]; exact h.val r hr hk'⟩
    have hh : hasK es 77 = true := by rw [hasK, List.any_eq_true]; exact ⟨r, hr, by simpa using hk'⟩
    rw [h.has] at hh
    simpa using hh
theorem stay_len (T : Int) (es : KV) : (stay T es).length ≤ es.length := List.length_filter_le _ _
end Go.Proofs.Ytbhhkjkjihenoaa.clk

namespace Go.Proofs.Ytbhhkjkjihenoaa.clockOut
open Go.RowKit Go.Proofs.Ytbhhkjkjihenoaa.kit Go.Proofs.Ytbhhkjkjihenoaa.mem Go.Proofs.Ytbhhkjkjihenoaa.foot Go.Proofs.Ytbhhkjkjihenoaa.maps Go.Proofs.Ytbhhkjkjihenoaa.clk
set_option linter.unusedVariables false
set_option linter.unusedSimpArgs false
set_option maxRecDepth 100000 in
set_option maxHeartbeats 2000000 in
theorem core (m : Nat) (hm : m < 256) (A0 : Option Addr) (c0 : Nat) (l0 : List (Int × Int × Int)) (W : World) (hm0 : l0.length ≤ 9223372036854775807) (h0 : Els 3 clk.RAct W (fun _ => True) A0 l0) :
    Calls Try.prog 10 #[.int .u8 (m : Int), .slice A0 l0.length c0] W fun e w' => e = .returned (.bool true) ∧ Below W.heap.size W w' := by
  have H0 := Lib.hid h0
  have HN := Lib.hid (New_any W)
  clear h0
  go_enter Try.func10, Try.ntmps10
  go_wp2_with fail
  refine HN.out.mono ?_; rintro e w1 ⟨t, F, rfl, ht, hF, hb1⟩
  go_wp2_with fail
  obtain ⟨tk, htk⟩ : ∃ tk : Nat, 1 + (m : Int) % 40 = (tk : Int) := ⟨1 + m % 40, by omega⟩
  have htk0 : 0 < tk := by omega
  have htk1 : tk ≤ 40 := by omega
  rw [htk]
  have HS := Lib.hid (Set_ok 77 (tk : Int) w1 (by decide) (by omega) (by omega) (by omega) (by simp) ht)
  have HB1 := Lib.hid hb1
  have HF := Lib.hid hF
  clear ht hF hb1 HN htk hm
  refine HS.out.mono ?_; rintro e w2 ⟨rfl, h2, hc2⟩
  have HJ := Lib.hid (show Ck w2 F t 0 (maps.put [] 77 (0 + (tk : Int))) ∧ O77 (maps.put [] 77 (0 + (tk : Int))) 0 tk ∧ (maps.put ([] : KV) 77 (0 + (tk : Int))).length ≤ 1 ∧ Below W.heap.size W w2 from ⟨h2, O77.start tk htk0, by simp [maps.put], HB1.out.trans (hc2.below HF.out HB1.out.size)⟩)
  clear h2 hc2 HS HB1
  go_wp2_with fail
  go_loopw [7, 8, 9, 10, 11] (fun v7 v8 _ _ _ wr => ∃ (i a : Nat) (es : KV), i ≤ 200 ∧ v8 = .int .i64 i ∧ v7 = .int .i64 a ∧ a ≤ i ∧ es.length ≤ i + 1 ∧ Ck wr F t a es ∧ O77 es a tk ∧ Below W.heap.size W wr) (fun _ v8 _ _ _ _ => 200 - (intOf v8).toNat)
  case atStart => exact ⟨0, 0, _, by omega, rfl, rfl, by omega, HJ.out.2.2.1, HJ.out.1, HJ.out.2.1, HJ.out.2.2.2⟩
  case round =>
    obtain ⟨i, a, es, hi, rfl, rfl, hai, hel, hck, ho, hb⟩ := hrel
    have HCk := Lib.hid hck
    have HO := Lib.hid ho
    have HB := Lib.hid hb
    clear hck ho hb HJ
    by_cases hlt : i < l0.length ∧ i < 200
    · obtain ⟨hl1, hl2⟩ := hlt
      obtain ⟨b, off, kind, key, n, rfl, hbl, hkey, hn, q0, q1, q2⟩ := clk.act_at H0.out hl1
      have q0 := (HB.out.cell (p := ⟨b, off + i * 3, none⟩) hbl).trans q0
      have q1 := (HB.out.cell (p := ⟨b, off + i * 3 + 1, none⟩) hbl).trans q1
      have q2 := (HB.out.cell (p := ⟨b, off + i * 3 + 2, none⟩) hbl).trans q2
      have hl1' : (i : Int) < (l0.length : Int) := by omega
      by_cases hk2 : kind = 2
      · subst hk2
        have HT := Lib.hid (Tick_any wr (by omega) (by omega) HCk.out)
        clear hkey hn q1 q2
        go_wp2_with fail
        refine HT.out.mono ?_; rintro e w3 ⟨L, A, c, hL, rfl, ho3, hlow, h3, hc3⟩
        have HOw := Lib.hid ho3
        have HB3 := Lib.hid (HB.out.trans (hc3.below HF.out HB.out.size))
        have HG := Lib.hid HO.out.gone
        rw [← hL] at HG
        have HO3 := Lib.hid HO.out.tick
        have HC3 := Lib.hid h3
        have hsl := stay_len ((a : Int) + 1) es
        have hLl : L.length ≤ i + 1 := by rw [hL, sorted_len]; exact Nat.le_trans (outK_len _ _) hel
        generalize stay ((a : Int) + 1) es = es3 at *
        have hsl3 : es3.length ≤ i + 2 := by omega
        clear ho3 hlow h3 hc3 HT HCk HO hL hsl q0
        go_wp2_with fail
        go_loopw [10, 11] (fun v10 v11 wk => ∃ k : Nat, k ≤ L.length ∧ v11 = .int .i64 k ∧ v10 = .bool ((L.take k).contains 77) ∧ Below w3.heap.size w3 wk) (fun _ v11 _ => L.length - (intOf v11).toNat)
        case atStart => exact ⟨0, by omega, rfl, by simp, Below.refl _ _⟩
        case round =>
          obtain ⟨k, hk, rfl, rfl, hbk⟩ := hrel
          have HBk := Lib.hid hbk
          clear hbk
          by_cases hkl : k < L.length
          · obtain ⟨g, of, rfl, hcell⟩ := clk.Own.cell1 (HOw.out.bel HBk.out) rfl hkl
            have hkl' : (k : Int) < (L.length : Int) := by omega
            have HTk : Hid ((L.take (k + 1)).contains 77 = ((L.take k).contains 77 || L[k] == 77)) := by
              rw [Hid, List.take_succ_eq_append_getElem hkl, Bool.eq_iff_iff]
              simp only [List.contains_iff_mem, List.mem_append, List.mem_singleton, Bool.or_eq_true, beq_iff_eq]
              exact or_congr Iff.rfl eq_comm
            generalize L[k] = y at *
            generalize (L.take k).contains 77 = z at *
            rcases z with _ | _
            all_goals
              go_wp2_with fail
              go_roundw
              case rel => exact ⟨k + 1, by omega, by go_num, by rw [HTk.out]; simp, HBk.out⟩
              case measure => simp [intOf]; omega
          · obtain rfl : k = L.length := by omega
            rw [List.take_length, HG.out]
            have HCk3 := Lib.hid (HC3.out.bel HBk.out)
            have HBe := Lib.hid (HB3.out.trans (HBk.out.mono HB3.out.size))
            by_cases hat : a + 1 = tk
            case' pos =>
              have e1 : ((a : Int) + 1 == (tk : Int)) = true := by simp; omega
              rw [decide_eq_true hat]
              clear hat
            case' neg =>
              have e1 : ((a : Int) + 1 == (tk : Int)) = false := by rw [beq_eq_false_iff_ne]; omega
              rw [decide_eq_false hat]
              clear hat
            all_goals
              go_wp2_with fail
              go_roundw
              case rel => exact ⟨i + 1, a + 1, es3, by omega, by go_num, by go_num, by omega, by omega, HCk3.out, HO3.out, HBe.out⟩
              case measure => simp [intOf]; omega
      · have e1 : (kind == 2) = false := by rw [beq_eq_false_iff_ne]; exact hk2
        by_cases hk7 : key = 77
        · subst hk7
          go_wp2_with fail
          go_roundw
          case rel => exact ⟨i + 1, a, es, by omega, by go_num, rfl, by omega, by omega, HCk.out, HO.out, HB.out⟩
          case measure => simp [intOf]; omega
        · have e2 : (key == 77) = false := by rw [beq_eq_false_iff_ne]; exact hk7
          have HS := Lib.hid (Set_any key n wr.drew hkey (by omega) (by omega) (HCk.out.bel (Below.refl _ _).drew))
          have HK7 := Lib.hid hk7
          clear hkey hn hk7 hk2
          go_upto_region 11 with fail
          go_still_tail 11, (by kernel_rfl)
          change wpList _ _ _ _ _ wr.drew
          go_wp2_with fail
          refine HS.out.mono ?_; rintro e w3 ⟨r, es3, rfl, he3, h3, hc3⟩
          have HB3 := Lib.hid (HB.out.drew.trans (hc3.below HF.out HB.out.size))
          have HO3 : Hid (O77 es3 a tk) := by
            rcases he3 with rfl | rfl
            · exact HO.out
            · exact HO.out.put HK7.out
          have hl3 : es3.length ≤ i + 2 := by
            rcases he3 with rfl | rfl
            · omega
            · exact Nat.le_trans (put_len _ _ _) (by omega)
          have HC3 := Lib.hid h3
          clear h3 hc3 he3 HS
          go_wp2_with fail
          go_roundw
          case rel => exact ⟨i + 1, a, es3, by omega, by go_num, rfl, by omega, by omega, HC3.out, HO3.out, HB3.out⟩
          case measure => simp [intOf]; omega
    · by_cases hl1 : i < l0.length
      case' pos =>
        have e2 : decide ((i : Int) < 200) = false := by simp; omega
        have e1 : decide ((i : Int) < (l0.length : Int)) = true := by simp; omega
      case' neg =>
        have e1 : decide ((i : Int) < (l0.length : Int)) = false := by simp; omega
      all_goals
        have HLe := Lib.hid (Left_any 77 wr (by decide) (by rcases HO.out.left with ⟨_, h⟩ | ⟨_, h⟩ <;> rw [h] <;> omega) HCk.out)
        rw [HO.out.has] at HLe
        have hle := HO.out.left
        generalize atOf es 77 = lv at *
        have HLv := Lib.hid hle
        clear hle HCk HO
        go_wp2_with fail
        refine HLe.out.mono ?_; rintro e w3 ⟨rfl, rfl⟩
        clear HLe
        rcases HLv.out with ⟨hlt2, hlv⟩ | ⟨hlt2, hlv⟩
        case' inl =>
          have d1 : decide ((a : Int) < (tk : Int)) = true := by simp; omega
          rw [decide_eq_true hlt2, if_pos rfl, hlv]
          clear hlv HLv
        case' inr =>
          have d1 : decide (a < tk) = false := by rw [decide_eq_false_iff_not]; omega
          rw [d1, if_neg (by simp)]
          clear hlv HLv
        all_goals
          go_wp2_with (go_at_call 49; refine (clk.lives_any _).mono ?_; rintro e w' ⟨rfl, hb⟩)
          go_ret
          exact ⟨rfl, HB.out.trans (hb.mono HB.out.size)⟩

set_option maxRecDepth 100000 in
theorem walk {H : Type} {enc : TypeId × Value → H} {W : World} {base : Nat} {v1 : Value} {d1 : DataW H} {p1 : List MemPlace}
    (a0 : Int) (w0 : (Lit.int .u8 a0).wf = true) (hv1 : Value.okWide Try.prog W .any base 93 v1) (h1 : DataW.Trod enc Try.prog W 0 (fun _ => true) true 93 v1 d1 p1) :
    Calls Try.prog 10 #[.int .u8 a0, v1] W fun e w' => e = .returned (.bool true) ∧ Below W.heap.size W w' := by
  obtain ⟨A0, c0, l0, rfl, _, hc0, hm0, he0⟩ := open_sl Try.underlying93 (opens_sl clk.keeps_act Try.underlying93 (by kernel_rfl) (by omega) clk.opens_act) hv1 h1
  unfold maxLen at hm0
  have hx := wf_u8 w0
  obtain ⟨m, rfl⟩ := Int.eq_ofNat_of_zero_le hx.1
  exact core m (by omega) A0 c0 l0 W (by omega) he0
end Go.Proofs.Ytbhhkjkjihenoaa.clockOut
