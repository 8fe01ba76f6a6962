/- What the reference's Take of messages returns. Condition: at most 2^40 bytes in all. -/
import Derived.Test.YthoclemgiopjpaaOutqRef
import Derived.Deep.RegionLaw
namespace Go.Proofs.Ythoclemgiopjpaa.outq
open Go.RowKit Go.Proofs.Ythoclemgiopjpaa.kit Go.Proofs.Ythoclemgiopjpaa.mem Go.Proofs.Ythoclemgiopjpaa.foot Go.Proofs.Ythoclemgiopjpaa.octet
set_option linter.unusedVariables false
set_option linter.unusedSimpArgs false

def RefTook (l : List (List UInt8)) (x : List UInt8) (G : Foot) (w : World) (e : Ending) (w' : World) : Prop :=
  ∃ A c Ao co, e = .returned (.tuple #[.slice A l.length c, .slice Ao x.length co]) ∧ (A = none → c = 0) ∧ l.length ≤ c ∧ c ≤ maxLen ∧ Ls w' (fun k => G k ∨ w.heap.size ≤ k) A l ∧ Own w' 5 1 Ao x.length co (bv x) ∧ (∀ k, sf Ao k → w.heap.size ≤ k) ∧ Below w.heap.size w w'

/-- how far it has been taken -/
structure RT (l : List (List UInt8)) (n : Int) (G : Foot) (w : World) (lk : List (List UInt8)) (nk : Int) (out : List UInt8) (A : Option Addr) (c : Nat) (Ao : Option Addr) (co : Nat) (wr : World) : Prop where
  nil : A = none → c = 0
  cap : lk.length ≤ c
  max : c ≤ maxLen
  ls : Ls wr (fun k => (G k ∨ w.heap.size ≤ k) ∧ ¬ sf Ao k) A lk
  own : Own wr 5 1 Ao out.length co (bv out)
  low : ∀ k, sf Ao k → w.heap.size ≤ k
  bel : Below w.heap.size w wr
  sum : out.length + lk.flatten.length = l.flatten.length
  num : lk.length ≤ l.length
  eq : takeQ l n.toNat = ((takeQ lk nk.toNat).1, out ++ (takeQ lk nk.toNat).2)

theorem RT.done {l lk : List (List UInt8)} {n nk : Int} {G : Foot} {w wr : World} {out : List UInt8} {A Ao : Option Addr} {c co : Nat} (h : RT l n G w lk nk out A c Ao co wr) (hd : nk ≤ 0 ∨ lk = []) :
    RefTook (takeQ l n.toNat).1 (takeQ l n.toNat).2 G w (.returned (.tuple #[.slice A lk.length c, .slice Ao out.length co])) wr := by
  have e : takeQ l n.toNat = (lk, out) := by
    rw [h.eq]
    rcases hd with hd | hd
    · rw [show nk.toNat = 0 from by omega, takeQ_zero]; simp
    · subst hd; simp [takeQ]
  rw [e]
  exact ⟨A, c, Ao, co, rfl, h.nil, h.cap, h.max, h.ls.mono fun _ _ h => h.1, h.own, h.low, h.bel⟩

/-- the first message wholly -/
theorem RT.whole {l r : List (List UInt8)} {b : List UInt8} {n nk : Int} {G : Foot} {w wr w1 : World} {out : List UInt8} {A A1 Ao Ao1 : Option Addr} {c c1 co co1 : Nat} (h : RT l n G w (b :: r) nk out A c Ao co wr) (hn : (b.length : Int) ≤ nk) (h0 : 0 < nk)
    (ho : Own w1 5 1 Ao1 (out.length + b.length) co1 (bv out ++ bv b)) (hc : Chg (sf Ao) wr w1) (hf : Fresh wr (sf Ao) (sf Ao1))
    (hA1 : A1 = none → c1 = 0) (hc1 : r.length ≤ c1) (hm1 : c1 ≤ maxLen) (hls : ∀ w G (x : List UInt8) (r' : List (List UInt8)), r'.length = r.length → Ls w G A (x :: r') → Ls w G A1 r') :
    RT l n G w r (nk - b.length) (out ++ b) A1 c1 Ao1 co1 w1 := by
  refine ⟨hA1, hc1, hm1, ?_, by rw [List.length_append, bv_app]; exact ho, fun k hk => ?_, h.bel.trans (hc.below h.low h.bel.size), ?_, ?_, ?_⟩
  · have h1 := (h.ls.mono (H := fun k => k < wr.heap.size ∧ (G k ∨ w.heap.size ≤ k) ∧ ¬ sf Ao k) fun k hk h => ⟨hk, h⟩).chg hc fun k _ hk => hk.2.2
    exact (hls _ _ _ _ rfl h1).mono fun k _ hk => ⟨hk.2.1, hf.apart hk.1 hk.2.2⟩
  · rcases hf k hk with e | e
    · exact h.low k e
    · exact Nat.le_trans h.bel.size e
  · have := h.sum
    simp only [List.length_append, List.flatten_cons] at this ⊢
    omega
  · have := h.num; simp at this; omega
  · rw [h.eq]
    conv => lhs; unfold takeQ
    rw [if_neg (by omega), if_neg (by omega), show nk.toNat - b.length = (nk - b.length).toNat from by omega]
    simp only [List.append_assoc]

/-- a part of the first message -/
theorem RT.part {l r : List (List UInt8)} {b : List UInt8} {n : Int} {m : Nat} {G : Foot} {w wr w1 w2 : World} {out : List UInt8} {A Ah Ao Ao1 A2 : Option Addr} {c ch co co1 c2 : Nat} {vs : List Value} (h : RT l n G w (b :: r) m out A c Ao co wr) (hn : m < b.length) (h0 : 0 < m)
    (ho : Own w1 5 1 Ao1 (out.length + m) co1 (bv out ++ bv (b.take m))) (hc : Chg (sf Ao) wr w1) (hf : Fresh wr (sf Ao) (sf Ao1)) (hb : Below w1.heap.size w1 w2)
    (ho2 : Own w2 23 1 A2 (1 + r.length) c2 ([.slice Ah (b.length - m) ch] ++ vs)) (hA2 : ∀ k, sf A2 k → w1.heap.size ≤ k)
    (hh1 : Ah = none → ch = 0) (hh2 : b.length - m ≤ ch) (hh3 : ch ≤ maxLen) (hrh : Rg wr (fun k => (G k ∨ w.heap.size ≤ k) ∧ ¬ sf Ao k) 1 Ah (b.drop m).length (bv (b.drop m))) (hbs : Bodies wr (fun k => (G k ∨ w.heap.size ≤ k) ∧ ¬ sf Ao k) vs r) :
    RT l n G w (b.drop m :: r) 0 (out ++ b.take m) A2 c2 Ao1 co1 w2 := by
  have e1 : (b.take m).length = m := by simp; omega
  have e2 : (b.drop m).length = b.length - m := by simp
  have hpass : ∀ {k}, k < wr.heap.size → ((G k ∨ w.heap.size ≤ k) ∧ ¬ sf Ao k) → ((G k ∨ w.heap.size ≤ k) ∧ ¬ sf Ao1 k) := fun hk h => ⟨h.1, hf.apart hk h.2⟩
  have hc12 : Chg (sf Ao) wr w2 := hc.bel hb
  refine ⟨ho2.nil, by have := ho2.cap; simp; omega, ho2.max, ?_, by rw [List.length_append, bv_app, e1]; exact ho.bel hb, fun k hk => ?_, (h.bel.trans (hc.below h.low h.bel.size)).trans (hb.mono (Nat.le_trans h.bel.size hc.size)), ?_, ?_, ?_⟩
  · refine ⟨.slice Ah (b.length - m) ch :: vs, ?_, ⟨Ah, ch, by rw [e2], hh1, by rw [e2]; exact hh2, hh3, ?_⟩, ?_⟩
    · have h1 := ho2.rg.mono (H := fun k => (G k ∨ w.heap.size ≤ k) ∧ ¬ sf Ao1 k) fun k _ hk => ⟨.inr (Nat.le_trans (Nat.le_trans h.bel.size hc.size) (hA2 k hk)), fun e => by have := ho.lt k e; have := hA2 k hk; omega⟩
      rw [show (b.drop m :: r).length = 1 + r.length from by simp; omega]
      exact h1
    · exact ((hrh.mono (H := fun k => k < wr.heap.size ∧ (G k ∨ w.heap.size ≤ k) ∧ ¬ sf Ao k) fun k hk h => ⟨hk, h⟩).chg hc12 fun k _ hk => hk.2.2).mono fun k _ hk => hpass hk.1 hk.2
    · exact ((hbs.mono (H := fun k => k < wr.heap.size ∧ (G k ∨ w.heap.size ≤ k) ∧ ¬ sf Ao k) fun k hk h => ⟨hk, h⟩).chg hc12 fun k _ hk => hk.2.2).mono fun k _ hk => hpass hk.1 hk.2
  · rcases hf k hk with e | e
    · exact h.low k e
    · exact Nat.le_trans h.bel.size e
  · have := h.sum
    simp only [List.length_append, List.flatten_cons] at this ⊢
    omega
  · have := h.num; simpa using this
  · rw [h.eq]
    have e3 : takeQ (b :: r) (m : Int).toNat = (b.drop m :: r, b.take m) := by
      rw [Int.toNat_natCast]
      unfold takeQ
      rw [if_neg (by omega), if_pos hn]
    rw [e3, show (0 : Int).toNat = 0 from rfl, takeQ_zero]
    simp

set_option maxRecDepth 100000 in
set_option maxHeartbeats 1000000 in
theorem refTake_any (A : Option Addr) (c : Nat) (l : List (List UInt8)) (n : Int) (G : Foot) (w : World) (hn : -9223372036854775808 ≤ n ∧ n ≤ 9223372036854775807) (hA : A = none → c = 0) (hc : l.length ≤ c) (hcm : c ≤ maxLen) (hnum : l.length ≤ 1000000) (hl : l.flatten.length ≤ 1099511627776) (hs : Ls w G A l) :
    Calls Try.prog 17 #[.slice A l.length c, .int .i64 n] w (RefTook (takeQ l n.toNat).1 (takeQ l n.toNat).2 G w) := by
  have HJ0 : Hid (RT l n G w l n [] A c (some ⟨w.heap.size, 0, none⟩) 0 (w.alloc (.cells #[] 5))) := by
    have hb : Below w.heap.size w (w.alloc (.cells #[] 5)) := (Below.refl _ _).alloc (Nat.le_refl _) _
    have ho := Own.made w 5 1 0 0 #[] [] (Nat.le_refl _) (Nat.zero_le _) rfl rfl rfl
    refine ⟨hA, hc, hcm, ?_, by simpa [bv] using ho, fun k hk => by rw [sf_some] at hk; exact Nat.le_of_eq hk, hb, by simp, Nat.le_refl _, by simp⟩
    exact ((hs.mono (H := fun k => k < w.heap.size ∧ G k) fun k hk h => ⟨hk, h⟩).bel hb).mono fun k _ hk => ⟨.inl hk.2, fun e => by rw [sf_some] at e; have e2 : w.heap.size = k := e; omega⟩
  obtain ⟨i0, hi, hz0, hz1, hz2⟩ := info_parts info_u8
  have Hi := Lib.hid hi
  have Hz0 := Lib.hid hz0
  have Hz1 := Lib.hid hz1
  have Hz2 := Lib.hid hz2
  obtain ⟨j0, hj, hy0, hy1, hy2⟩ := info_parts info_bs
  have Hj := Lib.hid hj
  have Hy0 := Lib.hid hy0
  have Hy1 := Lib.hid hy1
  have Hy2 := Lib.hid hy2
  clear hi hz0 hz1 hz2 hj hy0 hy1 hy2 hs hA hc hcm
  go_enter Try.func17, Try.ntmps17
  go_wp2_with fail
  go_loopw [0, 1, 6] (fun vl vn vo wr => ∃ (lk : List (List UInt8)) (nk : Int) (out : List UInt8) (A : Option Addr) (c : Nat) (Ao : Option Addr) (co : Nat), vl = .slice A lk.length c ∧ vn = .int .i64 nk ∧ vo = .slice Ao out.length co ∧ nk ≤ 9223372036854775807 ∧ -9223372036854775808 ≤ nk ∧ RT l n G w lk nk out A c Ao co wr) (fun vl vn _ _ => (match vl with | .slice _ k _ => k | _ => 0) + min (intOf vn).toNat 1)
  case atStart => exact ⟨l, n, [], A, c, _, 0, rfl, rfl, rfl, hn.2, hn.1, HJ0.out⟩
  case round =>
    obtain ⟨lk, nk, out, A, c, Ao, co, rfl, rfl, rfl, hn2, hn1, hJ⟩ := hrel
    clear HJ0 hn
    have HJ := Lib.hid hJ
    clear hJ
    by_cases h0 : 0 < nk
    · rcases lk with _ | ⟨b, r⟩
      · have HF := Lib.hid (HJ.out.done (.inr rfl))
        go_wp2_with fail
        go_ret2
        exact HF.out
      · obtain ⟨bb, off, Ak, ck, rfl, hbG, hbl, hcell, hAk, hck, hcm, hrk⟩ := HJ.out.ls.at_ (k := 0) (by simp)
        simp only [Nat.add_zero, List.getElem_cons_zero] at hcell hck hrk
        have hsum := HJ.out.sum
        have hnm := HJ.out.num
        have hcap := HJ.out.cap
        have hmax := HJ.out.max
        simp only [List.flatten_cons, List.length_append, List.length_cons] at hsum hnm hcap
        have hblen : b.length ≤ 1099511627776 := by omega
        have holen : out.length ≤ 1099511627776 := by omega
        have hsum2 : out.length + b.length ≤ 1099511627776 := by omega
        clear hsum
        have HAk := Lib.hid hAk
        by_cases hw : (b.length : Int) ≤ nk
        · obtain ⟨A1, c1, hA1, hc1, hm1, hrun1, hls1⟩ := cut_oneG bb off c r.length hcap hmax
          have hlo := cut_lo Ak ck b.length b.length hAk hck hcm (Nat.le_refl _)
          have HW : Hid (∀ {Ao1 co1 w1}, Own w1 5 1 Ao1 (out.length + b.length) co1 (bv out ++ bv b) → Chg (sf Ao) wr w1 → Fresh wr (sf Ao) (sf Ao1) → RT l n G w r (nk - b.length) (out ++ b) A1 c1 Ao1 co1 w1) := fun h1 h2 h3 => HJ.out.whole hw h0 h1 h2 h3 hA1 hc1 hm1 hls1
          have HR := Lib.hid hrk
          have HO := Lib.hid HJ.out.own
          have HC : Hid (∀ {w1}, Chg (sf Ao) wr w1 → w1.cell? ⟨bb, off, none⟩ = some (.slice Ak b.length ck)) := fun {w1} h => by rw [World.cell?_of_block (w := wr) (h.block bb hbl hbG.2)]; exact hcell
          clear hA1 hc1 hm1 hls1 hrk hAk HJ hbG
          have hle : ¬ nk < (b.length : Int) := by omega
          go_wp2_with (at_builtin; refine wpList_app _ rfl (.tmp 24) (.tmp 29) _ rfl 5 i0 _ 1 1 Try.underlying23 Hi.out Hz0.out Hz1.out Hz2.out rfl (by omega) Ao out.length co (bv out) rfl HO.out _ Ak b.length ck HAk.out (bv b) rfl HR.out (bv_one _) (by unfold maxLen; omega) (by omega) ?_; intro Ao1 co1 w1 ho1 hc1 hf1; have HW1 := Lib.hid (HW.out ho1 hc1 hf1); have hcell1 := HC.out hc1; clear ho1 hc1 hf1)
          go_roundw
          case rel => exact ⟨r, nk - b.length, out ++ b, A1, c1, Ao1, co1, rfl, rfl, by rw [List.length_append], by omega, by omega, HW1.out⟩
          case measure => simp [intOf]; omega
        · obtain ⟨m, rfl⟩ : ∃ m : Nat, nk = m := ⟨nk.toNat, by omega⟩
          have hmb : m < b.length := by omega
          have hm0 : 0 < m := by omega
          obtain ⟨Ah, ch, hh1, hh2, hh3, hrunh, hrdh⟩ := cut_hiG Ak ck b.length m hAk hck hcm (by omega)
          obtain ⟨A1, c1, hA1, hc1, hm1, hrun1, hls1⟩ := cut_oneG bb off c r.length hcap hmax
          have hlo := cut_lo Ak ck b.length m hAk hck hcm (by omega)
          obtain ⟨vs, hvs, hbs⟩ := hls1 _ _ _ _ rfl HJ.out.ls
          have HP : Hid (∀ {Ao1 co1 w1 w2 A2 c2}, Own w1 5 1 Ao1 (out.length + m) co1 (bv out ++ bv (b.take m)) → Chg (sf Ao) wr w1 → Fresh wr (sf Ao) (sf Ao1) → Below w1.heap.size w1 w2 → Own w2 23 1 A2 (1 + r.length) c2 ([.slice Ah (b.length - m) ch] ++ vs) → (∀ k, sf A2 k → w1.heap.size ≤ k) → RT l n G w (b.drop m :: r) 0 (out ++ b.take m) A2 c2 Ao1 co1 w2) :=
            fun h1 h2 h3 h4 h5 h6 => HJ.out.part hmb hm0 h1 h2 h3 h4 h5 h6 hh1 hh2 hh3 (hrdh _ _ _ rfl hrk) hbs
          have HR : Hid (Rg wr (fun k => (G k ∨ w.heap.size ≤ k) ∧ ¬ sf Ao k) 1 Ak m (bv (b.take m))) := by
            have := hrk.take (k := m) (by omega)
            rw [Nat.mul_one, ← bv_take] at this
            exact this
          have HO := Lib.hid HJ.out.own
          have HC : Hid (∀ {w1}, Chg (sf Ao) wr w1 → w1.cell? ⟨bb, off, none⟩ = some (.slice Ak b.length ck) ∧ bb < w1.heap.size ∧ Rg w1 (fun k => (G k ∨ w.heap.size ≤ k) ∧ ¬ sf Ao k) 1 A1 r.length vs) := fun {w1} h => ⟨by rw [World.cell?_of_block (w := wr) (h.block bb hbl hbG.2)]; exact hcell, Nat.lt_of_lt_of_le hbl h.size, hvs.chg h fun k _ hk => hk.2⟩
          have HOne := Lib.hid hbs.one
          have HA1 := Lib.hid hA1
          clear hA1 hc1 hm1 hls1 hrk hAk HJ hbG hvs hbs hh1 hh2 hh3 hrdh
          have hle : m < b.length := hmb
          go_wp2_with (at_builtin; refine wpList_app _ rfl (.tmp 24) (.tmp 29) _ rfl 5 i0 _ 1 1 Try.underlying23 Hi.out Hz0.out Hz1.out Hz2.out rfl (by omega) Ao out.length co (bv out) rfl HO.out _ Ak m ck HAk.out (bv (b.take m)) rfl HR.out (bv_one _) (by unfold maxLen; omega) (by omega) ?_; intro Ao1 co1 w1 ho1 hc1 hf1; have HW1 := Lib.hid ho1; have HC1 := Lib.hid hc1; have HF1 := Lib.hid hf1; have hcell1 := (HC.out hc1).1; have hbl1 := (HC.out hc1).2.1; have HV1 := Lib.hid (HC.out hc1).2.2; clear ho1 hc1 hf1)
          have HO2 : Hid (Own (w1.alloc (.cells #[.slice Ah (b.length - m) ch] 23)) 23 1 (some ⟨w1.heap.size, 0, none⟩) 1 1 [.slice Ah (b.length - m) ch]) := Own.made w1 23 1 1 1 #[.slice Ah (b.length - m) ch] [.slice Ah (b.length - m) ch] (Nat.le_refl _) (by unfold maxLen; omega) rfl rfl rfl
          have HV2 := Lib.hid (HV1.out.bel ((Below.refl _ _).alloc (Nat.le_refl _) (.cells #[.slice Ah (b.length - m) ch] 23)))
          go_region_held3 (fun w' => w'.cell? ⟨bb, off, none⟩ = some (.slice Ak b.length ck)) (first | go_keep | exact hcell2) (first
            | (refine step_app _ rfl (.tmp 47) (.tmp 49) _ rfl 23 j0 _ 1 24 Try.underlying22 Hj.out Hy0.out Hy1.out Hy2.out rfl (by omega) (some ⟨w1.heap.size, 0, none⟩) 1 1 [.slice Ah (b.length - m) ch] rfl (by first | exact HO2.out | exact HO2.out.bel (Below.refl _ _).drew) _ A1 r.length c1 HA1.out vs rfl (by first | exact HV2.out | exact HV2.out.bel (Below.refl _ _).drew) HOne.out (by unfold maxLen; omega) (by omega) ?_; intro A2 c2 w2 ho2 hc2 hf2; go_must (have hb2 : Below w1.heap.size w1 w2 := ((Below.refl w1.heap.size w1).alloc (Nat.le_refl _) (.cells #[.slice Ah (b.length - m) ch] 23)).trans ((show Chg (sf (some ⟨w1.heap.size, 0, none⟩)) (w1.alloc (.cells #[.slice Ah (b.length - m) ch] 23)) w2 from ⟨hc2.os, hc2.tape, hc2.output, hc2.size, hc2.block⟩).below (fun k hk => by rw [sf_some] at hk; exact Nat.le_of_eq hk) (by simp))); go_must (have hcell2 := (hb2.cell (p := ⟨bb, off, none⟩) hbl1).trans hcell1); go_must (have HB2 := Lib.hid hb2); go_must (have HF2 : Hid (∀ k, sf A2 k → w1.heap.size ≤ k) := fun k hk => by rcases hf2 k hk with h | h; (· rw [sf_some] at h; exact Nat.le_of_eq h); (· have h5 : w1.heap.size + 1 ≤ k := (by have h6 := h; simp at h6; exact h6); omega)); go_must (have HH2 := Lib.hid ho2); clear ho2 hc2 hf2 hb2))
          all_goals
            have HJ2 := Lib.hid (HP.out HW1.out HC1.out HF1.out HB2.out HH2.out HF2.out)
            clear HW1 HC1 HF1 HB2 HH2 HF2 HP
            go_wp2_with fail
            go_roundw
            case rel => exact ⟨b.drop m :: r, 0, out ++ b.take m, A2, c2, Ao1, co1, by rw [show 1 + r.length = (b.drop m :: r).length from by simp; omega], rfl, by rw [List.length_append, show (b.take m).length = m from by simp; omega], by omega, by omega, HJ2.out⟩
            case measure => simp [intOf]; omega
    · have HF := Lib.hid (HJ.out.done (.inl (by omega)))
      have h1 : nk ≤ 0 := by omega
      clear h0
      by_cases hl0 : 0 < lk.length
      · go_wp2_with fail
        go_ret2
        exact HF.out
      · have hl1 : lk.length = 0 := by omega
        rw [hl1] at HF ⊢
        go_wp2_with fail
        go_ret2
        exact HF.out
end Go.Proofs.Ythoclemgiopjpaa.outq
