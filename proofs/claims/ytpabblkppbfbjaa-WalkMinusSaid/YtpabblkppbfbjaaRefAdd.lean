/- What confluenceref15.Add returns: parts with one more. Condition: at most 10^5 parts, below 2^32. -/
import Derived.Test.YtpabblkppbfbjaaRefParts
import Derived.Test.YtpabblkppbfbjaaStruct
import Derived.Deep.RegionHeld3
import Derived.Deep.DeepCutAuto
import Derived.Deep.QuietTactic
namespace Go.Proofs.Ytpabblkppbfbjaa.wlk
open Go.RowKit Go.Proofs.Ytpabblkppbfbjaa.kit Go.Proofs.Ytpabblkppbfbjaa.pfx Go.Proofs.Ytpabblkppbfbjaa.mem Go.Proofs.Ytpabblkppbfbjaa.foot Go.Proofs.Ytpabblkppbfbjaa.srt
set_option linter.unusedVariables false
set_option linter.unusedSimpArgs false

theorem info_prt : (Try.prog.info? 54).map (fun i => (i.zero, i.size, i.bytes)) = some (some (.agg #[.int .i64 0, .int .i64 0]), 2, 16) := by kernel_rfl
theorem qv_app (l m : List Prt) : qv (l ++ m) = qv l ++ qv m := by simp [qv]
theorem qv_one (l : List Prt) : ∀ u ∈ qv l, u.oneCell' = true := by
  intro u hu
  simp only [qv, List.mem_flatMap] at hu
  obtain ⟨p, _, hu⟩ := hu
  simp at hu
  rcases hu with rfl | rfl <;> rfl
theorem qv_take : ∀ (l : List Prt) (n : Nat), (qv l).take (n * 2) = qv (l.take n)
  | [], n => by simp [qv]
  | p :: l, 0 => by simp [qv]
  | p :: l, n + 1 => by
    have e : qv (p :: l) = .int .i64 (p.1 : Int) :: .int .i64 (p.2 : Int) :: qv l := by simp [qv]
    have e2 : qv (p :: l.take n) = .int .i64 (p.1 : Int) :: .int .i64 (p.2 : Int) :: qv (l.take n) := by simp [qv]
    rw [List.take_succ_cons, e, e2, show (n + 1) * 2 = n * 2 + 1 + 1 by omega, List.take_succ_cons, List.take_succ_cons, qv_take l n]
theorem qv_drop : ∀ (l : List Prt) (n : Nat), (qv l).drop (n * 2) = qv (l.drop n)
  | [], n => by simp [qv]
  | p :: l, 0 => by simp [qv]
  | p :: l, n + 1 => by
    have e : qv (p :: l) = .int .i64 (p.1 : Int) :: .int .i64 (p.2 : Int) :: qv l := by simp [qv]
    rw [e, show (n + 1) * 2 = n * 2 + 1 + 1 by omega, List.drop_succ_cons, List.drop_succ_cons, List.drop_succ_cons, qv_drop l n]
theorem pcut_lo (A : Option Addr) (c l n : Nat) (hA : A = none → c = 0) (hc : l ≤ c) (hm : c ≤ maxLen) (hn : n ≤ l) (w : World) :
    (Instr.slice 25 (.slice A l c) none (some (.int .i64 n)) none).run Try.prog w = .ok (.slice A n c) w := by
  unfold maxLen at hm
  rcases A with _ | ad
  · have := hA rfl
    subst this
    obtain rfl : l = 0 := by omega
    obtain rfl : n = 0 := by omega
    have h : ∀ w, (Instr.slice 25 (.slice none 0 0) none (some (.int .i64 0)) none).run Try.prog w = .ok (.slice none 0 0) w := fun w => by kernel_rfl
    exact h w
  · have h1 : (n : Int) ≤ (c : Int) := by omega
    go_simp
theorem pcut_hi (A : Option Addr) (c l n : Nat) (hA : A = none → c = 0) (hc : l ≤ c) (hm : c ≤ maxLen) (hn : n ≤ l) :
    ∃ A' c', (A' = none → c' = 0) ∧ l - n ≤ c' ∧ c' ≤ maxLen ∧ (∀ w, (Instr.slice 25 (.slice A l c) (some (.int .i64 n)) none none).run Try.prog w = .ok (.slice A' (l - n) c') w) ∧ (∀ w G (x : List Value), Rg w G 2 A l x → Rg w G 2 A' (l - n) (x.drop (n * 2))) := by
  have hm' := hm
  unfold maxLen at hm
  rcases A with _ | ad
  · have := hA rfl
    subst this
    obtain rfl : l = 0 := by omega
    obtain rfl : n = 0 := by omega
    exact ⟨none, 0, fun _ => rfl, Nat.le_refl _, Nat.zero_le _, fun w => by kernel_rfl, fun w G x h => by simpa using h⟩
  · by_cases hz : n = c
    · subst hz
      obtain rfl : l = n := by omega
      refine ⟨some ad, 0, (fun h => by cases h), by omega, Nat.zero_le _, fun w => ?_, fun w G x h => ?_⟩
      · go_simp
      · rw [List.drop_of_length_le (by rw [h.1]; exact Nat.le_refl _), Nat.sub_self]; exact Rg.nil _ _ _ _
    · refine ⟨some (ad.add (n * 2)), c - n, (fun h => by cases h), by omega, by unfold maxLen; omega, fun w => ?_, fun w G x h => h.skip hn⟩
      have h1 : (n : Int) ≤ (l : Int) := by omega
      go_simp
      intro h; exact absurd h.symm hz
theorem own_lo {w : World} {A : Option Addr} {m c n : Nat} {xs : List Value} (h : Own w 54 2 A m c xs) (hn : n ≤ m) (w' : World) :
    (Instr.slice 25 (.slice A m c) none (some (.int .i64 n)) none).run Try.prog w' = .ok (.slice A n c) w' := pcut_lo A c m n h.nil h.cap h.max hn w'
theorem own_hi {w : World} {A : Option Addr} {m c n : Nat} {xs : List Value} (h : Own w 54 2 A m c xs) (hn : n ≤ m) :
    ∃ A' c', (A' = none → c' = 0) ∧ m - n ≤ c' ∧ c' ≤ maxLen ∧ (∀ w, (Instr.slice 25 (.slice A m c) (some (.int .i64 n)) none none).run Try.prog w = .ok (.slice A' (m - n) c') w) ∧ (∀ w G (x : List Value), Rg w G 2 A m x → Rg w G 2 A' (m - n) (x.drop (n * 2))) := pcut_hi A c m n h.nil h.cap h.max hn
theorem rg_box {w : World} {g : Nat} {t : TypeId} {a b : Value} (h : Bk w g t #[a, b]) : Rg w (fun k => k = g) 2 (some ⟨g, 0, none⟩) 1 [a, b] :=
  ⟨rfl, fun _ => ⟨g, 0, rfl, rfl, h.lt, fun j u hu => by rw [h.cell, Nat.zero_add]; simpa using hu⟩⟩
theorem acc_apq {w w0 w1 w2 : World} {e : TypeId} {size n m c c' : Nat} {A A' : Option Addr} {xs news : List Value} (hc : Chg (sf A) w0 w2) (hf : Fresh w0 (sf A) (sf A')) (ho : Own w2 e size A' m c' news) (h : Acc w e size w1 A n c xs) (h1 : w0.heap = w1.heap) (h2 : w0.os = w1.os) (h3 : w0.tape = w1.tape) (h4 : w0.output = w1.output) : Acc w e size w2 A' m c' news :=
  (h.go (w2 := w0) ⟨h2, h3, h4, by rw [h1]; exact Nat.le_refl _, fun k _ => by rw [h1]⟩).app ho hc hf
theorem bk_apq {w0 w1 w2 : World} {g0 g : Nat} {t : TypeId} {cs : Array Value} (hc : Chg (sf (some ⟨g0, 0, none⟩)) w0 w2) (h : Bk w1 g t cs) (h1 : w0.heap = w1.heap) (hn : g0 ≠ g) : Bk w2 g t cs :=
  Bk.chg (w := w0) (by unfold Bk; rw [h1]; exact h) hc (by rw [sf_some]; exact hn)

/-- within: what is gathered, and the one that is put, in its box -/
structure AJ (w wr : World) (A : Option Addr) (n c : Nat) (xs : List Value) (y : Prt) : Prop where
  acc : Acc w 54 2 wr A n c xs
  box : Bk wr w.heap.size 54 #[.int .i64 (y.1 : Int), .int .i64 (y.2 : Int)]
  ap : ¬ sf A w.heap.size
section
variable {w wr w0 w2 : World} {A A' : Option Addr} {n c m c' : Nat} {xs news : List Value} {y : Prt}
theorem AJ.go (h : AJ w wr A n c xs y) (hb : Below wr.heap.size wr w2) : AJ w w2 A n c xs y := ⟨h.acc.go hb, h.box.below hb h.box.lt, h.ap⟩
theorem AJ.app (h : AJ w w0 A n c xs y) (ho : Own w2 54 2 A' m c' news) (hc : Chg (sf A) w0 w2) (hf : Fresh w0 (sf A) (sf A')) : AJ w w2 A' m c' news y :=
  ⟨h.acc.app ho hc hf, h.box.chg hc h.ap, fun hs => by
    rcases hf _ hs with k | k
    · exact h.ap k
    · have := h.box.lt; omega⟩
theorem AJ.put0 (h : AJ w wr A n c xs y) (a : Nat) : AJ w (wr.setCell ⟨w.heap.size, 0, none⟩ (.int .i64 (a : Int))) A n c xs (a, y.2) :=
  ⟨⟨h.acc.own.chg ((Chg.refl (fun k => k = w.heap.size) wr).put (p := ⟨w.heap.size, 0, none⟩) (.inl rfl) _) (fun k _ hk e => h.ap (by have e : k = w.heap.size := e; rw [← e]; exact hk)), h.acc.bel.setCell (p := ⟨w.heap.size, 0, none⟩) (Nat.le_refl _) _, h.acc.low⟩, by
    have := h.box.put 0 (.int .i64 (a : Int))
    simpa using this, h.ap⟩
theorem AJ.put1 (h : AJ w wr A n c xs y) (b : Nat) : AJ w (wr.setCell ⟨w.heap.size, 1, none⟩ (.int .i64 (b : Int))) A n c xs (y.1, b) :=
  ⟨⟨h.acc.own.chg ((Chg.refl (fun k => k = w.heap.size) wr).put (p := ⟨w.heap.size, 1, none⟩) (.inl rfl) _) (fun k _ hk e => h.ap (by have e : k = w.heap.size := e; rw [← e]; exact hk)), h.acc.bel.setCell (p := ⟨w.heap.size, 1, none⟩) (Nat.le_refl _) _, h.acc.low⟩, by
    have := h.box.put 1 (.int .i64 (b : Int))
    simpa using this, h.ap⟩
end

def RetQ (out : List Prt) (w : World) (e : Ending) (w' : World) : Prop := ∃ A c, e = .returned (.slice A out.length c) ∧ Own w' 54 2 A out.length c (qv out) ∧ (∀ x, sf A x → w.heap.size ≤ x) ∧ Below w.heap.size w w'

set_option maxRecDepth 100000 in
set_option maxHeartbeats 4000000 in
theorem refAdd_any {G : Foot} (A : Option Addr) (c : Nat) (l : List Prt) (x : Prt) (w : World) (hn : l.length ≤ 100000) (hl : ∀ p ∈ l, PartOk p) (hx : PartOk x) (h : Rg w G 2 A l.length (qv l)) :
    Calls Try.prog 31 #[.slice A l.length c, .agg #[.int .i64 (x.1 : Int), .int .i64 (x.2 : Int)]] w (RetQ (addP l x) w) := by
  obtain ⟨i0, hi0, hz0, hz1, hz2⟩ := info_parts info_prt
  have Hi := Lib.hid hi0
  have Hz0 := Lib.hid hz0
  have Hz1 := Lib.hid hz1
  have Hz2 := Lib.hid hz2
  have HR := Lib.hid h
  have HL := Lib.hid hl
  have HX := Lib.hid hx
  have HJ0 : Hid (AJ w ((w.alloc (.cells #[.int .i64 (x.1 : Int), .int .i64 (x.2 : Int)] 54)).alloc (.cells #[] 54)) (some ⟨w.heap.size + 1, 0, none⟩) 0 0 [] x) := by
    refine ⟨?_, (Bk.new w _ _).alloc _, by rw [sf_some]; show ¬ w.heap.size + 1 = w.heap.size; omega⟩
    have h1 : Below w.heap.size w (w.alloc (.cells #[.int .i64 (x.1 : Int), .int .i64 (x.2 : Int)] 54)) := (Below.refl _ _).alloc (Nat.le_refl _) _
    have h2 := Acc.start (e := 54) (size := 2) (h1.alloc h1.size (.cells #[] 54)) (Bk.new _ _ _) h1.size
    rwa [World.size_alloc] at h2
  clear h hl hx hi0 hz0 hz1 hz2
  go_enter Try.func31, Try.ntmps31
  go_wp2_with fail
  go_loopw [5, 6] (fun v5 v6 wr => ∃ (i : Nat) (A' : Option Addr) (c' m : Nat) (o : List Prt) (y : Prt), i ≤ l.length ∧ v6 = .int .i64 (i : Int) ∧ v5 = .slice A' m c' ∧ m = o.length ∧ m ≤ i ∧ (l.take i).foldl addStep ([], x) = (o, y) ∧ y.1 < 4294967296 ∧ y.2 < 4294967296 ∧ AJ w wr A' m c' (qv o) y) (fun _ v6 _ => l.length - (intOf v6).toNat)
  case atStart =>
    have hx := HX.out
    unfold PartOk at hx
    exact ⟨0, _, _, 0, [], x, Nat.zero_le _, rfl, rfl, rfl, Nat.le_refl _, rfl, by omega, by omega, HJ0.out⟩
  case round =>
    obtain ⟨i, A1, c1, m, o, y, hi, rfl, rfl, hm, hmi, hst, hy1, hy2, hJ⟩ := hrel
    have HJ := Lib.hid hJ
    have HS := Lib.hid (And.intro hm hst)
    clear hJ hm hst HJ0
    by_cases hlt : i < l.length
    · obtain ⟨p, hp⟩ : ∃ p, l[i]? = some p := ⟨l[i], List.getElem?_eq_getElem hlt⟩
      obtain ⟨b, off, rfl⟩ : ∃ b off, A = some ⟨b, off, none⟩ := by
        obtain ⟨b, off, e, _⟩ := HR.out.2 (by omega)
        exact ⟨b, off, e⟩
      have hp2 : p.1 ≤ p.2 ∧ p.2 < 4294967296 := HL.out p (List.mem_of_getElem? hp)
      have x0 := rg_two (HJ.out.acc.rg HR.out) hp (by omega)
      have HP := Lib.hid (And.intro hp x0)
      have hsn : (l.take (i + 1)).foldl addStep ([], x) = addStep (o, y) p := by
        rw [List.take_add_one, hp, List.foldl_append, HS.out.2]
        rfl
      have HSn := Lib.hid hsn
      have k0 := HJ.out.box.cell 0
      have k1 := HJ.out.box.cell 1
      simp at k0 k1
      have p0 := x0.1
      have p1 := x0.2.1
      have hli : (i : Int) < (l.length : Int) := by omega
      clear hp x0 hsn
      by_cases hf : p.2 + 1 < y.1 ∨ y.2 + 1 < p.1
      · have HF : Hid (addStep (o, y) p = (o ++ [p], y)) := by
          rw [Hid]
          unfold addStep
          rw [if_pos ((farB_iff _ _).2 hf)]
        by_cases hf1 : p.2 + 1 < y.1
        case' pos =>
          have d1 : decide ((p.2 : Int) + 1 < (y.1 : Int)) = true := by simp; omega
          clear hf hf1
        case' neg =>
          have d1 : decide ((p.2 : Int) + 1 < (y.1 : Int)) = false := by simp; omega
          have d2 : decide ((y.2 : Int) + 1 < (p.1 : Int)) = true := by simp; omega
          clear hf hf1
        all_goals
          go_wp2_with fail
          go_quiet (fail)
          obtain ⟨wq, hwq⟩ : ∃ wq, wq = wr.drewN nq := ⟨_, rfl⟩
          rw [← hwq]
          have hbq : Below wr.heap.size wr wq := by rw [hwq]; exact below_drewN (Below.refl _ _) _
          have HJq := Lib.hid (HJ.out.go hbq)
          have x1 := rg_two (HJq.out.acc.rg HR.out) HP.out.1 (by omega)
          clear k0 k1 p0 p1 hwq hbq
          have p0 := x1.1
          have p1 := x1.2.1
          clear x1
          have HJa := Lib.hid (HJq.out.go ((Below.refl _ _).alloc (Nat.le_refl _) (.cells #[.int .i64 (p.1 : Int), .int .i64 (p.2 : Int)] 54)))
          have HRa := Lib.hid (rg_box (Bk.new wq 54 #[.int .i64 (p.1 : Int), .int .i64 (p.2 : Int)]))
          go_wp2_with (at_builtin; refine wpList_app _ rfl (.tmp 35) (.tmp 40) _ rfl 54 i0 _ 2 16 Try.underlying25 Hi.out Hz0.out Hz1.out Hz2.out rfl (by omega) _ _ c1 (qv o) rfl HJa.out.acc.own _ (some ⟨wq.heap.size, 0, none⟩) 1 1 (by intro h; cases h) [.int .i64 (p.1 : Int), .int .i64 (p.2 : Int)] rfl HRa.out (by intro u hu; simp at hu; rcases hu with rfl | rfl <;> rfl) (by unfold maxLen; omega) (by omega) ?_; intro A4 c4 w6 ho6 hc6 hf6; have H6 := Lib.hid (HJa.out.app ho6 hc6 hf6); clear ho6 hc6 hf6)
          go_roundw
          case rel => exact ⟨i + 1, A4, c4, m + 1, o ++ [p], y, by omega, by go_num, rfl, by rw [HS.out.1]; simp, by omega, HSn.out.trans HF.out, hy1, hy2, by rw [qv_app]; exact H6.out⟩
          case measure => simp [intOf]; omega
      · have HF : Hid (addStep (o, y) p = (o, hull p y)) := by
          rw [Hid]
          unfold addStep
          rw [if_neg (fun hc => hf ((farB_iff _ _).1 hc))]
        have d1 : decide ((p.2 : Int) + 1 < (y.1 : Int)) = false := by simp; omega
        have d2 : decide ((y.2 : Int) + 1 < (p.1 : Int)) = false := by simp; omega
        clear hf
        go_wp2_with fail
        go_quiet (fail)
        have HJq := Lib.hid (HJ.out.go (below_drewN (Below.refl wr.heap.size wr) nq))
        generalize wr.drewN nq = wq at *
        have x1 := rg_two (HJq.out.acc.rg HR.out) HP.out.1 (by omega)
        have k0 := HJq.out.box.cell 0
        have k1 := HJq.out.box.cell 1
        simp at k0 k1
        have p0 := x1.1
        have p1 := x1.2.1
        clear x1 HJ d1 d2
        go_wp2_with fail
        go_quiet (fail)
        have HJr := Lib.hid (HJq.out.go (below_drewN (Below.refl wq.heap.size wq) nq))
        generalize wq.drewN nq = wq2 at *
        have x1 := rg_two (HJr.out.acc.rg HR.out) HP.out.1 (by omega)
        clear k0 k1 p0 p1 HJq
        have k0 := HJr.out.box.cell 0
        have k1 := HJr.out.box.cell 1
        simp at k0 k1
        have p0 := x1.1
        have p1 := x1.2.1
        have kf := fun i => HJr.out.box.free i
        have kl := HJr.out.box.lt
        clear x1
        go_upto_if 49 with fail
        go_cut [] (fun wx => AJ w wx A1 m c1 (qv o) (min p.1 y.1, y.2))
        case first =>
          by_cases ha : p.1 < y.1
          · have d1 : decide ((p.1 : Int) < (y.1 : Int)) = true := by simp; omega
            go_wp2_with fail
            go_meet
            rw [Nat.min_eq_left (by omega)]
            exact HJr.out.put0 p.1
          · have d1 : decide ((p.1 : Int) < (y.1 : Int)) = false := by simp; omega
            go_wp2_with fail
            go_meet
            rw [Nat.min_eq_right (by omega)]
            exact HJr.out
        case' rest =>
          have HJs := Lib.hid hcut
          clear k0 k1 p0 p1 kf kl HJr hcut
          obtain ⟨z, hz⟩ : ∃ z, z = min p.1 y.1 := ⟨_, rfl⟩
          rw [← hz] at HJs
          have HZ := Lib.hid hz
          clear hz
          have x1 := rg_two (HJs.out.acc.rg HR.out) HP.out.1 (by omega)
          have k0 := HJs.out.box.cell 0
          have k1 := HJs.out.box.cell 1
          simp at k0 k1
          have p0 := x1.1
          have p1 := x1.2.1
          clear x1
          go_wp2_with fail
          go_quiet (fail)
          have HJt := Lib.hid (HJs.out.go (below_drewN (Below.refl wc.heap.size wc) nq))
          generalize wc.drewN nq = wq3 at *
          have x1 := rg_two (HJt.out.acc.rg HR.out) HP.out.1 (by omega)
          clear k0 k1 p0 p1 HJs
          have k0 := HJt.out.box.cell 0
          have k1 := HJt.out.box.cell 1
          simp at k0 k1
          have p0 := x1.1
          have p1 := x1.2.1
          have kf := fun i => HJt.out.box.free i
          have kl := HJt.out.box.lt
          clear x1
          by_cases hb : y.2 < p.2
          · have d1 : decide ((y.2 : Int) < (p.2 : Int)) = true := by simp; omega
            go_wp2_with fail
            go_roundw
            case rel =>
              have e : hull p y = (z, p.2) := by
                unfold hull
                rw [HZ.out, Nat.max_eq_left (by omega)]
              have hz := HZ.out
              exact ⟨i + 1, A1, c1, m, o, (z, p.2), by omega, by go_num, rfl, HS.out.1, by omega, by rw [HSn.out, HF.out, e], by dsimp only; omega, by dsimp only; omega, HJt.out.put1 p.2⟩
            case measure => simp [intOf]; omega
          · have d1 : decide ((y.2 : Int) < (p.2 : Int)) = false := by simp; omega
            go_wp2_with fail
            go_roundw
            case rel =>
              have e : hull p y = (z, y.2) := by
                unfold hull
                rw [HZ.out, Nat.max_eq_right (by omega)]
              have hz := HZ.out
              exact ⟨i + 1, A1, c1, m, o, (z, y.2), by omega, by go_num, rfl, HS.out.1, by omega, by rw [HSn.out, HF.out, e], by dsimp only; omega, hy2, HJt.out⟩
            case measure => simp [intOf]; omega
    · obtain rfl : i = l.length := by omega
      rw [List.take_length] at HS
      obtain ⟨t, ht⟩ : ∃ t, t = addAt o y := ⟨_, rfl⟩
      have HSP : Hid (∀ j, j ≤ t → (j = t ↔ ¬ ∃ p, o[j]? = some p ∧ p.1 < y.1)) := by
        rw [Hid, ht]
        exact addAt_spec o y
      have htl : t ≤ m := by rw [ht, HS.out.1]; exact addAt_le o y
      have HE : Hid (addP l x = o.take t ++ [y] ++ o.drop t) := by
        rw [Hid]
        unfold addP
        rw [HS.out.2, ht]
      have HM := Lib.hid HS.out.1
      clear ht HS
      clear hlt hi
      go_wp2_with fail
      go_loopw [7] (fun v7 wz => ∃ j : Nat, j ≤ t ∧ v7 = .int .i64 (j : Int) ∧ AJ w wz A1 m c1 (qv o) y) (fun v7 _ => t - (intOf v7).toNat)
      case atStart => exact ⟨0, Nat.zero_le _, rfl, HJ.out⟩
      case round =>
        obtain ⟨j, hj, rfl, hJ2⟩ := hrel
        have HJ2 := Lib.hid hJ2
        clear hJ2
        have k0 := HJ2.out.box.cell 0
        have k1 := HJ2.out.box.cell 1
        simp at k0 k1
        by_cases hjt0 : j < t
        · have hjm : j < m := by omega
          obtain ⟨p, hp⟩ : ∃ p, o[j]? = some p := ⟨o[j]'(by rw [← HM.out]; exact hjm), List.getElem?_eq_getElem _⟩
          have HP := Lib.hid hp
          have hq := qv_at o j p hp
          obtain ⟨b, off, rfl⟩ := HJ2.out.acc.own.form (by omega)
          have c0 := (HJ2.out.acc.own.at_ _ hq.1).1
          have hjm2 : (j : Int) < (m : Int) := by omega
          clear hp hq
          have hlt : p.1 < y.1 := by
            rcases Nat.lt_or_ge p.1 y.1 with h | h
            · exact h
            · exact absurd ((HSP.out j hj).2 (by rintro ⟨q, hq, hlt2⟩; rw [HP.out] at hq; cases hq; omega)) (by omega)
          have d1 : decide ((p.1 : Int) < (y.1 : Int)) = true := by simp; omega
          have hlt2 : (p.1 : Int) < (y.1 : Int) := by omega
          go_wp2_with fail
          go_quiet (fail)
          go_wp2_with fail
          go_roundw
          case rel => exact ⟨j + 1, by omega, by go_num, HJ2.out.go (below_drewN (Below.refl _ _) _)⟩
          case measure => simp [intOf]; omega
        · obtain rfl : j = t := by omega
          clear hjt0 hj
          by_cases hjm : j < m
          case' pos =>
            obtain ⟨p, hp⟩ : ∃ p, o[j]? = some p := ⟨o[j]'(by rw [← HM.out]; exact hjm), List.getElem?_eq_getElem _⟩
            have hnl : ¬ p.1 < y.1 := fun hlt => absurd ⟨p, hp, hlt⟩ ((HSP.out j (Nat.le_refl _)).1 rfl)
            have hq := qv_at o j p hp
            obtain ⟨b, off, rfl⟩ := HJ2.out.acc.own.form (by omega)
            have c0 := (HJ2.out.acc.own.at_ _ hq.1).1
            have hjm2 : (j : Int) < (m : Int) := by omega
            have d1 : decide ((p.1 : Int) < (y.1 : Int)) = false := by simp; omega
            have hnl2 : ¬ (p.1 : Int) < (y.1 : Int) := by omega
            clear hp hq hnl
            go_wp2_with fail
            go_quiet (fail)
            clear c0 hjm2 hjm
          case' neg =>
            have d1 : decide ((j : Int) < (m : Int)) = false := by simp; omega
            go_wp2_with fail
            go_quiet (fail)
            clear d1 hjm
          all_goals
            have HJz := Lib.hid (HJ2.out.go (below_drewN (Below.refl wr.heap.size wr) nq))
            generalize wr.drewN nq = wz at *
            clear k0 k1 HJ2
            have q0 := HJz.out.box.cell 0
            have q1 := HJz.out.box.cell 1
            simp at q0 q1
            have hgl := HJz.out.box.lt
            have HGL := Lib.hid HJz.out.box.lt
            have HU : Hid (∀ w', Below wz.heap.size wz w' → w'.cell? ⟨w.heap.size, 0, none⟩ = some (.int .i64 (y.1 : Int)) ∧ w'.cell? ⟨w.heap.size, 1, none⟩ = some (.int .i64 (y.2 : Int))) := fun w' hb => by
              have k0 := (HJz.out.box.below hb HJz.out.box.lt).cell 0
              have k1 := (HJz.out.box.below hb HJz.out.box.lt).cell 1
              simp at k0 k1
              exact ⟨k0, k1⟩
            have klo := fun w => own_lo HJz.out.acc.own htl w
            obtain ⟨A5, c5, h5a, h5b, h5c, khi, h5r⟩ := own_hi HJz.out.acc.own htl
            have H5 := Lib.hid h5a
            have H5r := Lib.hid h5r
            have HRo := Lib.hid HJz.out.acc.own.rg
            have HRt := Lib.hid (HRo.out.take htl)
            have HA1n := Lib.hid HJz.out.acc.own.nil
            have HEnd : Hid (∀ w' A' c', Acc wz 54 2 w' A' (j + 1 + (m - j)) c' ([] ++ (qv o).take (j * 2) ++ [.int .i64 (y.1 : Int), .int .i64 (y.2 : Int)] ++ (qv o).drop (j * 2)) → RetQ (addP l x) w (.returned (.slice A' (j + 1 + (m - j)) c')) w') := fun w' A' c' h => by
              have hn : j + 1 + (m - j) = (addP l x).length := by rw [HE.out, HM.out]; have := HM.out; simp; omega
              have hx : [] ++ (qv o).take (j * 2) ++ [.int .i64 (y.1 : Int), .int .i64 (y.2 : Int)] ++ (qv o).drop (j * 2) = qv (addP l x) := by rw [HE.out, qv_app, qv_app, qv_take, qv_drop]; simp [qv]
              rw [hn, hx] at h
              rw [hn]
              exact ⟨A', c', rfl, h.own, fun k hk => Nat.le_trans HJz.out.acc.bel.size (h.low k hk), HJz.out.acc.bel.trans (h.bel.mono HJz.out.acc.bel.size)⟩
            clear h5a h5b h5c h5r
            go_upto_region 14 with fail
            have HA0a : Hid (Acc wz 54 2 (wz.alloc (.cells #[] 54)) (some ⟨wz.heap.size, 0, none⟩) 0 0 []) := Acc.start ((Below.refl _ _).alloc (Nat.le_refl _) _) (Bk.new wz _ _) (Nat.le_refl _)
            have HA0b : Hid (Acc wz 54 2 ((wz.alloc (.cells #[] 54)).alloc (.cells #[.int .i64 (y.1 : Int), .int .i64 (y.2 : Int)] 54)) (some ⟨wz.heap.size, 0, none⟩) 0 0 []) := HA0a.out.go ((Below.refl _ _).alloc (Nat.le_refl _) _)
            have HR0b : Hid (Bk ((wz.alloc (.cells #[] 54)).alloc (.cells #[.int .i64 (y.1 : Int), .int .i64 (y.2 : Int)] 54)) (wz.heap.size + 1) 54 #[.int .i64 (y.1 : Int), .int .i64 (y.2 : Int)]) := by have := Bk.new (wz.alloc (.cells #[] 54)) 54 #[.int .i64 (y.1 : Int), .int .i64 (y.2 : Int)]; rwa [World.size_alloc] at this
            have HA0c : Hid (Acc wz 54 2 ((wz.alloc (.cells #[.int .i64 (y.1 : Int), .int .i64 (y.2 : Int)] 54)).alloc (.cells #[] 54)) (some ⟨wz.heap.size + 1, 0, none⟩) 0 0 []) := by
              have hb : Below wz.heap.size wz (wz.alloc (.cells #[.int .i64 (y.1 : Int), .int .i64 (y.2 : Int)] 54)) := (Below.refl _ _).alloc (Nat.le_refl _) _
              have := Acc.start (e := 54) (size := 2) (hb.alloc hb.size (.cells #[] 54)) (Bk.new _ _ _) hb.size
              rwa [World.size_alloc] at this
            have HR0c : Hid (Bk ((wz.alloc (.cells #[.int .i64 (y.1 : Int), .int .i64 (y.2 : Int)] 54)).alloc (.cells #[] 54)) wz.heap.size 54 #[.int .i64 (y.1 : Int), .int .i64 (y.2 : Int)]) := (Bk.new wz _ _).alloc _
            go_region_held3 (fun w' => w'.cell? ⟨w.heap.size, 0, none⟩ = some (.int .i64 (y.1 : Int)) ∧ w'.cell? ⟨w.heap.size, 1, none⟩ = some (.int .i64 (y.2 : Int))) (first | exact ⟨by go_simp, by go_simp⟩) (first
            | (refine step_app _ (by rfl) (.tmp 86) (.tmp 89) _ (by rfl) 54 i0 _ 2 16 Try.underlying25 Hi.out Hz0.out Hz1.out Hz2.out rfl (by omega) (some ⟨wz.heap.size, 0, none⟩) 0 0 [] (by rfl) HA0a.out.own _ _ j _ HA1n.out ((qv o).take (j * 2)) (by rfl) (HA0a.out.rg HRt.out) (fun u hu => qv_one o u (List.mem_of_mem_take hu)) (by unfold maxLen; omega) (by omega) ?_; intro A3 c3 w4 ho3 hc3 hf3; go_must (rw [Nat.zero_add j] at ho3 ⊢); go_must (have HA3 := Lib.hid (acc_apq hc3 hf3 ho3 HA0a.out rfl rfl rfl rfl)); go_must (have q0 := (HU.out _ HA3.out.bel).1); go_must (have q1 := (HU.out _ HA3.out.bel).2); go_must (have hgl := Nat.lt_of_lt_of_le HGL.out HA3.out.bel.size); clear ho3 hc3 hf3)
            | (refine step_app _ (by rfl) (.tmp 86) (.tmp 89) _ (by rfl) 54 i0 _ 2 16 Try.underlying25 Hi.out Hz0.out Hz1.out Hz2.out rfl (by omega) (some ⟨wz.heap.size, 0, none⟩) 0 0 [] (by rfl) HA0b.out.own _ _ j _ HA1n.out ((qv o).take (j * 2)) (by rfl) (HA0b.out.rg HRt.out) (fun u hu => qv_one o u (List.mem_of_mem_take hu)) (by unfold maxLen; omega) (by omega) ?_; intro A3 c3 w4 ho3 hc3 hf3; go_must (rw [Nat.zero_add j] at ho3 ⊢); go_must (have HA3 := Lib.hid (acc_apq hc3 hf3 ho3 HA0b.out rfl rfl rfl rfl)); go_must (have HR3 := Lib.hid (bk_apq hc3 HR0b.out rfl (by omega))); go_must (have q0 := (HU.out _ HA3.out.bel).1); go_must (have q1 := (HU.out _ HA3.out.bel).2); go_must (have hgl := Nat.lt_of_lt_of_le HGL.out HA3.out.bel.size); clear ho3 hc3 hf3)
            | (refine step_app _ (by rfl) (.tmp 86) (.tmp 89) _ (by rfl) 54 i0 _ 2 16 Try.underlying25 Hi.out Hz0.out Hz1.out Hz2.out rfl (by omega) (some ⟨(wz.heap.size + 1), 0, none⟩) 0 0 [] (by rfl) HA0c.out.own _ _ j _ HA1n.out ((qv o).take (j * 2)) (by rfl) (HA0c.out.rg HRt.out) (fun u hu => qv_one o u (List.mem_of_mem_take hu)) (by unfold maxLen; omega) (by omega) ?_; intro A3 c3 w4 ho3 hc3 hf3; go_must (rw [Nat.zero_add j] at ho3 ⊢); go_must (have HA3 := Lib.hid (acc_apq hc3 hf3 ho3 HA0c.out rfl rfl rfl rfl)); go_must (have HR3 := Lib.hid (bk_apq hc3 HR0c.out rfl (by omega))); go_must (have q0 := (HU.out _ HA3.out.bel).1); go_must (have q1 := (HU.out _ HA3.out.bel).2); go_must (have hgl := Nat.lt_of_lt_of_le HGL.out HA3.out.bel.size); clear ho3 hc3 hf3)
            | (((have HA3x : Hid (Acc wz 54 2 (w4.alloc (.cells #[.int .i64 (y.1 : Int), .int .i64 (y.2 : Int)] 54)) A3 j c3 ([] ++ ((qv o).take (j * 2)))) := HA3.out.go ((Below.refl _ _).alloc (Nat.le_refl _) _)); refine step_app _ (by rfl) (.tmp 90) (.tmp 92) _ (by rfl) 54 i0 _ 2 16 Try.underlying25 Hi.out Hz0.out Hz1.out Hz2.out rfl (by omega) A3 j c3 ([] ++ ((qv o).take (j * 2))) (by rfl) HA3x.out.own _ (some ⟨w4.heap.size, 0, none⟩) 1 1 (by intro h; cases h) [.int .i64 (y.1 : Int), .int .i64 (y.2 : Int)] (by rfl) (rg_box (Bk.new w4 _ _)) (by intro u hu; simp at hu; rcases hu with rfl | rfl <;> rfl) (by unfold maxLen; omega) (by omega) ?_; intro A4 c4 w5 ho4 hc4 hf4; go_must (have HA4 : Hid (Acc wz 54 2 w5 A4 (j + 1) c4 ([] ++ ((qv o).take (j * 2)) ++ [.int .i64 (y.1 : Int), .int .i64 (y.2 : Int)])) := acc_apq hc4 hf4 ho4 HA3x.out rfl rfl rfl rfl); go_must (have q0 := (HU.out _ HA4.out.bel).1); go_must (have q1 := (HU.out _ HA4.out.bel).2); go_must (have hgl := Nat.lt_of_lt_of_le HGL.out HA4.out.bel.size); clear ho4 hc4 hf4))
            | (refine step_app _ (by rfl) (.tmp 90) (.tmp 92) _ (by rfl) 54 i0 _ 2 16 Try.underlying25 Hi.out Hz0.out Hz1.out Hz2.out rfl (by omega) A3 j c3 ([] ++ ((qv o).take (j * 2))) (by rfl) HA3.out.own _ (some ⟨wz.heap.size + 1, 0, none⟩) 1 1 (by intro h; cases h) [.int .i64 (y.1 : Int), .int .i64 (y.2 : Int)] (by rfl) (rg_box HR3.out) (by intro u hu; simp at hu; rcases hu with rfl | rfl <;> rfl) (by unfold maxLen; omega) (by omega) ?_; intro A4 c4 w5 ho4 hc4 hf4; go_must (have HA4 : Hid (Acc wz 54 2 w5 A4 (j + 1) c4 ([] ++ ((qv o).take (j * 2)) ++ [.int .i64 (y.1 : Int), .int .i64 (y.2 : Int)])) := acc_apq hc4 hf4 ho4 HA3.out rfl rfl rfl rfl); go_must (have q0 := (HU.out _ HA4.out.bel).1); go_must (have q1 := (HU.out _ HA4.out.bel).2); go_must (have hgl := Nat.lt_of_lt_of_le HGL.out HA4.out.bel.size); clear ho4 hc4 hf4)
            | (refine step_app _ (by rfl) (.tmp 90) (.tmp 92) _ (by rfl) 54 i0 _ 2 16 Try.underlying25 Hi.out Hz0.out Hz1.out Hz2.out rfl (by omega) A3 j c3 ([] ++ ((qv o).take (j * 2))) (by rfl) HA3.out.own _ (some ⟨wz.heap.size, 0, none⟩) 1 1 (by intro h; cases h) [.int .i64 (y.1 : Int), .int .i64 (y.2 : Int)] (by rfl) (rg_box HR3.out) (by intro u hu; simp at hu; rcases hu with rfl | rfl <;> rfl) (by unfold maxLen; omega) (by omega) ?_; intro A4 c4 w5 ho4 hc4 hf4; go_must (have HA4 : Hid (Acc wz 54 2 w5 A4 (j + 1) c4 ([] ++ ((qv o).take (j * 2)) ++ [.int .i64 (y.1 : Int), .int .i64 (y.2 : Int)])) := acc_apq hc4 hf4 ho4 HA3.out rfl rfl rfl rfl); go_must (have q0 := (HU.out _ HA4.out.bel).1); go_must (have q1 := (HU.out _ HA4.out.bel).2); go_must (have hgl := Nat.lt_of_lt_of_le HGL.out HA4.out.bel.size); clear ho4 hc4 hf4)
            | (refine step_app _ (by rfl) (.tmp 93) (.tmp 96) _ (by rfl) 54 i0 _ 2 16 Try.underlying25 Hi.out Hz0.out Hz1.out Hz2.out rfl (by omega) A4 (j + 1) c4 ([] ++ ((qv o).take (j * 2)) ++ [.int .i64 (y.1 : Int), .int .i64 (y.2 : Int)]) (by rfl) HA4.out.own _ A5 (m - j) c5 H5.out ((qv o).drop (j * 2)) (by rfl) (H5r.out _ _ _ (HA4.out.rg HRo.out)) (fun u hu => qv_one o u (List.mem_of_mem_drop hu)) (by unfold maxLen; omega) (by omega) ?_; intro A6 c6 w6 ho5 hc5 hf5; go_must (have HA5 := Lib.hid (acc_apq hc5 hf5 ho5 HA4.out rfl rfl rfl rfl)); go_must (have q0 := (HU.out _ HA5.out.bel).1); go_must (have q1 := (HU.out _ HA5.out.bel).2); go_must (have hgl := Nat.lt_of_lt_of_le HGL.out HA5.out.bel.size); clear ho5 hc5 hf5))
          all_goals
            go_wp2_with fail
            go_ret
            exact HEnd.out _ _ _ HA5.out
end Go.Proofs.Ytpabblkppbfbjaa.wlk
