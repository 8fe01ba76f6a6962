/- What confluenceref04.Good returns. Condition: at most 10^5 pieces and numbers together. Printed by gen_refgood04.py. -/
import Derived.Test.YtaeeeinpelfppaaGreatRefNorm04
import Derived.Test.YtaeeeinpelfppaaGreatMv
namespace Go.Proofs.YtaeeeinpelfppaaGreat.attr
open Go.RowKit Go.Proofs.YtaeeeinpelfppaaGreat.kit Go.Proofs.YtaeeeinpelfppaaGreat.mem Go.Proofs.YtaeeeinpelfppaaGreat.foot Go.Proofs.YtaeeeinpelfppaaGreat.nums Go.Proofs.YtaeeeinpelfppaaGreat.asn Go.Proofs.YtaeeeinpelfppaaGreat.pth Go.Proofs.YtaeeeinpelfppaaGreat.mv
set_option linter.unusedVariables false
set_option linter.unusedSimpArgs false
/-- what stays of a path while more is laid behind it -/
def KeepP (p q : List Sg) : Prop := ∀ (j : Nat) (s : Sg), p[j]? = some s → ∃ t, q[j]? = some t ∧ t.1 = s.1 ∧ s.2.length ≤ t.2.length ∧ (s.1 ≠ 2 → t = s)
theorem KeepP.refl (p : List Sg) : KeepP p p := fun j s h => ⟨s, h, rfl, Nat.le_refl _, fun _ => rfl⟩
theorem KeepP.trans {p q r : List Sg} (h : KeepP p q) (k : KeepP q r) : KeepP p r := fun j s hs => by
  obtain ⟨t, h1, h2, h3, h4⟩ := h j s hs
  obtain ⟨u, k1, k2, k3, k4⟩ := k j t h1
  refine ⟨u, k1, k2.trans h2, Nat.le_trans h3 k3, fun hn => ?_⟩
  have e := h4 hn
  rw [← e]
  exact k4 (by rw [e]; exact hn)
theorem KeepP.app (p q : List Sg) : KeepP p (p ++ q) := fun j s h => ⟨s, by rw [List.getElem?_append_left (List.getElem?_eq_some_iff.1 h).1]; exact h, rfl, Nat.le_refl _, fun _ => rfl⟩
theorem KeepP.put (p : List Sg) (n : Nat) : KeepP p (putS p n) := by
  by_cases hy : ∃ q s, p = q ++ [s] ∧ s.1 = 2 ∧ s.2.length < 255
  · obtain ⟨q, s, rfl, h1, h2⟩ := hy
    rw [putS_yes h1 h2]
    intro j t ht
    by_cases hj : j < q.length
    · rw [List.getElem?_append_left hj] at ht ⊢
      exact ⟨t, ht, rfl, Nat.le_refl _, fun _ => rfl⟩
    · rw [List.getElem?_append_right (by omega)] at ht ⊢
      have hj0 : j - q.length = 0 := by
        have := (List.getElem?_eq_some_iff.1 ht).1
        simp at this
        omega
      rw [hj0] at ht ⊢
      simp at ht
      subst ht
      exact ⟨_, rfl, h1.symm, by simp, fun h => absurd h1 h⟩
  · have hno : ∀ s, p.getLast? = some s → ¬ (s.1 = 2 ∧ s.2.length < 255) := fun s hs h => by
      obtain ⟨q, hq⟩ := List.getLast?_eq_some_iff.1 hs
      exact hy ⟨q, s, hq, h.1, h.2⟩
    rw [putS_no hno]
    exact KeepP.app _ _
theorem KeepP.puts : ∀ (xs : List Nat) (p : List Sg), KeepP p (xs.foldl putS p)
  | [], p => KeepP.refl p
  | x :: xs, p => (KeepP.put p x).trans (KeepP.puts xs _)
theorem KeepP.step (o : List Sg) (s : Sg) : KeepP o (rstep o s) := by
  unfold rstep
  split
  · exact KeepP.puts _ _
  · split
    · exact KeepP.app _ _
    · exact KeepP.refl _
theorem KeepP.steps : ∀ (l o : List Sg), KeepP o (l.foldl rstep o)
  | [], o => KeepP.refl o
  | s :: l, o => (KeepP.step o s).trans (KeepP.steps l _)
theorem kinds_put (p : List Sg) (n : Nat) (h : ∀ s ∈ p, s.1 = 1 ∨ s.1 = 2) : ∀ s ∈ putS p n, s.1 = 1 ∨ s.1 = 2 := by
  unfold putS
  split
  · split
    · intro s hs
      rcases List.mem_append.1 hs with hs | hs
      · exact h s (List.dropLast_subset _ hs)
      · simp at hs; subst hs; exact .inr rfl
    · intro s hs
      rcases List.mem_append.1 hs with hs | hs
      · exact h s hs
      · simp at hs; subst hs; exact .inr rfl
  · intro s hs
    rcases List.mem_append.1 hs with hs | hs
    · exact h s hs
    · simp at hs; subst hs; exact .inr rfl
theorem kinds_puts : ∀ (xs : List Nat) (p : List Sg), (∀ s ∈ p, s.1 = 1 ∨ s.1 = 2) → ∀ s ∈ xs.foldl putS p, s.1 = 1 ∨ s.1 = 2
  | [], p, h => h
  | x :: xs, p, h => kinds_puts xs _ (kinds_put p x h)
theorem kinds_steps : ∀ (l o : List Sg), (∀ s ∈ o, s.1 = 1 ∨ s.1 = 2) → ∀ s ∈ l.foldl rstep o, s.1 = 1 ∨ s.1 = 2
  | [], o, h => h
  | s :: l, o, h => kinds_steps l _ (by
    unfold rstep
    split
    · exact kinds_puts _ _ h
    · split
      · intro t ht
        rcases List.mem_append.1 ht with ht | ht
        · exact h t ht
        · simp at ht; subst ht; exact .inl rfl
      · exact h)
/-- the i-th piece may stand behind those ahead of it -/
def GoodAt (l : List Sg) (i : Nat) : Prop := ∀ s, l[i]? = some s → (1 ≤ s.2.length ∧ s.2.length ≤ 255) ∧ (s.1 = 1 ∨ s.1 = 2) ∧ (s.1 = 1 → setN s.2 = s.2) ∧ (s.1 = 2 → ∀ t, 0 < i → l[i - 1]? = some t → ¬ (t.1 = 2 ∧ t.2.length < 255))
theorem good_step {l : List Sg} {i : Nat} (hi : i < l.length) (h : GoodAt l i) : rstep (l.take i) l[i] = l.take (i + 1) := by
  obtain ⟨⟨h1, h255⟩, hk, hs, hp⟩ := h l[i] (List.getElem?_eq_getElem hi)
  rw [List.take_succ_eq_append_getElem hi]
  unfold rstep
  rcases hk with hk | hk
  · rw [if_neg (by rw [hk]; decide), if_pos ⟨hk, by omega⟩, hs hk, ← hk]
  · rw [if_pos hk]
    generalize l[i] = sg at *
    obtain ⟨k, ns⟩ := sg
    dsimp only at *
    subst hk
    rcases ns with _ | ⟨x, xs⟩
    · simp at h1
    · rw [List.foldl_cons, putS_no]
      · have e2 : sgs 2 [x] = [(2, [x])] := by unfold sgs; rw [ck_short (by simp) (by simp)]; rfl
        rw [← e2]
        have key : ∀ (ys r : List Nat) (o : List Sg), r ≠ [] → ys.foldl putS (o ++ sgs 2 r) = o ++ sgs 2 (r ++ ys) := by
          intro ys
          induction ys with
          | nil => intro r o _; simp
          | cons y ys ih =>
            intro r o hr
            rw [List.foldl_cons, putS_app (by rw [sgs_cons 2 hr]; simp), putS_sgs, ih _ _ (by simp)]
            simp
        rw [key xs [x] _ (by simp)]
        show _ ++ sgs 2 (x :: xs) = _
        unfold sgs
        rw [ck_short (by simp) h255]
        rfl
      · intro t ht
        by_cases h0 : i = 0
        · subst h0; simp at ht
        · refine hp rfl t (by omega) ?_
          rw [List.getLast?_eq_getElem?, List.length_take, List.getElem?_take_of_lt (by omega)] at ht
          rw [Nat.min_eq_left (by omega)] at ht
          exact ht
theorem good_pre {l : List Sg} : ∀ i, i ≤ l.length → (∀ j, j < i → GoodAt l j) → rnorm (l.take i) = l.take i
  | 0, _, _ => rfl
  | i + 1, hi, h => by
    rw [rnorm_take (by omega), good_pre i (by omega) (fun j hj => h j (by omega)), good_step (by omega) (h i (by omega))]
theorem good_of {l : List Sg} (hl : l.length ≤ 100) (h : ∀ j, j < l.length → GoodAt l j) : GoodS l := by
  refine ⟨fun s hs => ?_, hl, ?_⟩
  · obtain ⟨j, hj, rfl⟩ := List.mem_iff_getElem.1 hs
    exact (h j hj _ (List.getElem?_eq_getElem hj)).1
  · rw [← rnorm_eq]
    have := good_pre l.length (Nat.le_refl _) h
    rwa [List.take_length] at this
theorem good_at {l : List Sg} (h : GoodS l) : ∀ j, j < l.length → GoodAt l j := by
  have hn : l.foldl rstep [] = l := by have := h.2.2; rw [← rnorm_eq] at this; exact this
  intro j
  induction j using Nat.strongRecOn with
  | ind j ih =>
    intro hj s hs
    have hsj : s = l[j] := by rw [List.getElem?_eq_getElem hj] at hs; exact (Option.some.inj hs).symm
    have hmem : s ∈ l := by rw [hsj]; exact List.getElem_mem hj
    have hpre : rnorm (l.take j) = l.take j := good_pre j (Nat.le_of_lt hj) fun k hk => ih k hk (by omega)
    have hb := h.1 s hmem
    have hsplit : l.foldl rstep [] = (l.drop (j + 1)).foldl rstep (rstep (l.take j) s) := by
      have e : l = l.take j ++ (s :: l.drop (j + 1)) := by rw [hsj, ← List.drop_eq_getElem_cons hj, List.take_append_drop]
      conv => lhs; rw [e, List.foldl_append]
      rw [show (l.take j).foldl rstep [] = l.take j from hpre]
      rfl
    refine ⟨hb, ?_, fun h1 => ?_, fun h2 t h0 ht hc => ?_⟩
    · have := kinds_steps l [] (fun s hs => by cases hs)
      rw [hn] at this
      exact this s hmem
    · have hk := KeepP.steps (l.drop (j + 1)) (rstep (l.take j) s)
      rw [← hsplit, hn] at hk
      have e1 : rstep (l.take j) s = l.take j ++ [(1, setN s.2)] := by unfold rstep; rw [if_neg (by rw [h1]; decide), if_pos ⟨h1, by omega⟩]
      rw [e1] at hk
      obtain ⟨u, k1, k2, k3, k4⟩ := hk j (1, setN s.2) (by rw [List.getElem?_append_right (by rw [List.length_take]; omega), List.length_take, Nat.min_eq_left (by omega)]; simp)
      have e2 := k4 (by simp)
      rw [hs] at k1
      have e3 : s = (1, setN s.2) := (Option.some.inj k1).trans e2
      exact (congrArg Prod.snd e3).symm
    · have hk := KeepP.steps (l.drop (j + 1)) (rstep (l.take j) s)
      rw [← hsplit, hn] at hk
      have hlast : l.take j = l.take (j - 1) ++ [t] := by
        have := List.take_succ_eq_append_getElem (l := l) (i := j - 1) (by omega)
        rw [show j - 1 + 1 = j by omega] at this
        rw [this]
        congr 2
        rw [List.getElem?_eq_getElem (by omega)] at ht
        exact Option.some.inj ht
      have e1 : rstep (l.take j) s = s.2.foldl putS (l.take (j - 1) ++ [t]) := by unfold rstep; rw [if_pos h2, hlast]
      rcases hns : s.2 with _ | ⟨x, xs⟩
      · rw [hns] at hb; simp at hb
      · rw [hns, List.foldl_cons, putS_yes hc.1 hc.2] at e1
        have hk2 := (KeepP.puts xs (l.take (j - 1) ++ [(2, t.2 ++ [x])])).trans (e1 ▸ hk)
        obtain ⟨u, k1, _, k3, _⟩ := hk2 (j - 1) (2, t.2 ++ [x]) (by rw [List.getElem?_append_right (by rw [List.length_take]; omega), List.length_take, Nat.min_eq_left (by omega)]; simp)
        rw [ht] at k1
        cases k1
        simp only [List.length_append, List.length_singleton] at k3
        omega
set_option maxRecDepth 100000 in
set_option maxHeartbeats 8000000 in
theorem refGood04_any (A : Option Addr) (c : Nat) (l : List Sg) (G : Foot) (w : World) (z : Bool) (hz : z = true ↔ GoodS l) (hl : nsz l ≤ 100000) (hs : Els 2 rSeg w G A l) :
    Calls Tryz.prog 112 #[.slice A l.length c] w fun e w' => e = .returned (.bool z) ∧ Below w.heap.size w w' := by
  have HS := Lib.hid hs
  have hll := nsz_len l
  by_cases h100 : 100 < l.length
  · have HZf : Hid (z = false) := by
      rw [Hid, ← Bool.not_eq_true, hz]
      intro h
      have := h.2.1
      omega
    have d1 : decide ((100 : Int) < (l.length : Int)) = true := by rw [decide_eq_true_iff]; omega
    clear hz hs
    go_enter Tryz.func112, Tryz.ntmps112
    go_wp2_with fail
    go_ret
    exact ⟨by rw [HZf.out]; rfl, Below.refl _ _⟩
  have d100 : decide ((100 : Int) < (l.length : Int)) = false := by rw [decide_eq_false_iff_not]; omega
  have HNo : Hid (∀ i, i < l.length → ¬ GoodAt l i → z = false) := fun i hi hn => by
    rw [← Bool.not_eq_true, hz]
    exact fun h => hn (good_at h i hi)
  have HYes : Hid ((∀ j, j < l.length → GoodAt l j) → z = true) := fun h => by
    rw [hz]
    exact good_of (by omega) h
  clear hz hs
  go_enter Tryz.func112, Tryz.ntmps112
  go_wp2_with fail
  go_loopw [3, 4] (fun v3 v4 wr => ∃ (i : Nat), i ≤ l.length ∧ v3 = .int .i64 i ∧ (∀ j, j < i → GoodAt l j) ∧ Below w.heap.size w wr) (fun v3 _ _ => l.length - (intOf v3).toNat)
  case atStart => exact ⟨0, by omega, rfl, fun j h => by omega, Below.refl _ _⟩
  case round =>
    obtain ⟨i, hi, rfl, hE, hb⟩ := hrel
    have HE := Lib.hid hE
    have HB := Lib.hid hb
    clear hE hb
    by_cases hlt : i < l.length
    · have hsz := nsz_at hlt
      obtain ⟨b, off, cs, rfl, _, hbl, hrr, hc⟩ := HS.out.at_ keeps_seg hlt
      obtain ⟨A1, c1, rfl, hkw, hA1, hc1, hm1, hu1, hw1⟩ := seg_at hrr
      have HU : Hid (∀ w', Below w.heap.size w w' → w'.cell? ⟨b, off + i * 2, none⟩ = some (.int .i64 l[i].1) ∧ w'.cell? ⟨b, off + i * 2 + 1, none⟩ = some (.slice A1 l[i].2.length c1) ∧ Sn w' G A1 c1 l[i].2) := fun w' hb => ⟨(hb.cell (p := ⟨b, off + i * 2 + 0, none⟩) hbl).trans (hc 0 _ rfl), (hb.cell (p := ⟨b, off + i * 2 + 1, none⟩) hbl).trans (hc 1 _ rfl), ⟨hA1, hc1, hm1, Rg.bel hu1 hb⟩⟩
      have HPrev : Hid (∀ j, i = j + 1 → ∃ t, l[j]? = some t ∧ nsz [t] ≤ 100000 ∧ ∃ A2 c2, wr.cell? ⟨b, off + j * 2, none⟩ = some (.int .i64 t.1) ∧ wr.cell? ⟨b, off + j * 2 + 1, none⟩ = some (.slice A2 t.2.length c2)) := fun j hj => by
        have hjl : j < l.length := by omega
        obtain ⟨b', off', cs', e, _, hbl', hrr', hc'⟩ := HS.out.at_ keeps_seg hjl
        cases e
        obtain ⟨A2, c2, rfl, _⟩ := seg_at hrr'
        have := nsz_at hjl
        exact ⟨l[j], List.getElem?_eq_getElem hjl, by simp [nsz]; omega, A2, c2, (HB.out.cell (p := ⟨b, off + j * 2 + 0, none⟩) hbl').trans (hc' 0 _ rfl), (HB.out.cell (p := ⟨b, off + j * 2 + 1, none⟩) hbl').trans (hc' 1 _ rfl)⟩
      have hi1 : (i : Int) < (l.length : Int) := by omega
      obtain ⟨q0, q1, _⟩ := HU.out wr HB.out
      have HNf : Hid (¬ GoodAt l i → z = false) := HNo.out i hlt
      have HGi : Hid (∀ s, l[i] = s → (1 ≤ s.2.length ∧ s.2.length ≤ 255) → (s.1 = 1 ∨ s.1 = 2) → (s.1 = 1 → setN s.2 = s.2) → (s.1 = 2 → ∀ t, 0 < i → l[i - 1]? = some t → ¬ (t.1 = 2 ∧ t.2.length < 255)) → ∀ j, j < i + 1 → GoodAt l j) := fun s hs h1 h2 h3 h4 j hj => by
        by_cases e : j = i
        · subst e
          intro t ht
          rw [List.getElem?_eq_getElem hlt] at ht
          cases ht
          subst hs
          exact ⟨h1, h2, h3, h4⟩
        · exact HE.out j (by omega)
      have HGs : Hid (l[i]? = some l[i]) := List.getElem?_eq_getElem hlt
      clear hc hrr hbl hkw hA1 hc1 hm1 hu1 hw1
      generalize hsg : l[i] = sg at *
      obtain ⟨kd, ns⟩ := sg
      dsimp only at *
      have HGi := Lib.hid (HGi.out _ rfl)
      clear hsg
      have hnl5 : ns.length ≤ 100000 := by omega
      generalize hnl : ns.length = n1 at *
      have hw : n1 < 1 ∨ (¬ n1 < 1 ∧ 255 < n1) ∨ (¬ n1 < 1 ∧ ¬ 255 < n1 ∧ kd ≠ 1 ∧ kd ≠ 2) ∨ (¬ n1 < 1 ∧ ¬ 255 < n1 ∧ kd = 1) ∨ (¬ n1 < 1 ∧ ¬ 255 < n1 ∧ kd = 2) := by omega
      rcases hw with h | ⟨h, h2⟩ | ⟨h, h2, h3, h4⟩ | ⟨h, h2, h3⟩ | ⟨h, h2, h3⟩
      · have HZf := Lib.hid (HNf.out (fun hg => by have := (hg _ HGs.out).1.1; rw [hnl] at this; omega))
        have d1 : decide ((n1 : Int) < 1) = true := by rw [decide_eq_true_iff]; omega
        go_wp2_with fail
        go_ret
        exact ⟨by rw [HZf.out]; rfl, HB.out⟩
      · have HZf := Lib.hid (HNf.out (fun hg => by have := (hg _ HGs.out).1.2; rw [hnl] at this; omega))
        have d1 : decide ((n1 : Int) < 1) = false := by rw [decide_eq_false_iff_not]; omega
        have d2 : decide ((255 : Int) < (n1 : Int)) = true := by rw [decide_eq_true_iff]; omega
        go_wp2_with fail
        go_ret
        exact ⟨by rw [HZf.out]; rfl, HB.out⟩
      · have HZf := Lib.hid (HNf.out (fun hg => by have := (hg _ HGs.out).2.1; rcases this with e | e; exact h3 e; exact h4 e))
        have d1 : decide ((n1 : Int) < 1) = false := by rw [decide_eq_false_iff_not]; omega
        have d2 : decide ((255 : Int) < (n1 : Int)) = false := by rw [decide_eq_false_iff_not]; omega
        have d3 : (kd == 1) = false := by rw [beq_eq_false_iff_ne]; exact h3
        have d4 : (kd == 2) = false := by rw [beq_eq_false_iff_ne]; exact h4
        have d5 : (kd != 1) = true := by simp [h3]
        have d6 : (kd != 2) = true := by simp [h4]
        go_wp2_with fail
        go_ret
        exact ⟨by rw [HZf.out]; rfl, HB.out⟩
      · subst h3
        have d1 : decide ((n1 : Int) < 1) = false := by rw [decide_eq_false_iff_not]; omega
        have d2 : decide ((255 : Int) < (n1 : Int)) = false := by rw [decide_eq_false_iff_not]; omega
        have HBd : Hid (Below w.heap.size w wr.drew) := HB.out.drew
        have HUd := Lib.hid (HU.out wr.drew HBd.out)
        have HSt : Hid (Calls Tryz.prog 103 #[.slice A1 n1 c1] wr.drew (RetNums (setN ns) wr.drew)) := by
          have := refSet02 A1 c1 ns G wr.drew (by omega) HUd.out.2.2
          rw [hnl] at this
          exact this
        have HSm : Hid (∀ w5 A5 c5, Below w.heap.size w w5 → foot.Own w5 26 1 A5 (setN ns).length c5 (uv (setN ns)) → Calls Tryz.prog 68 #[.slice A5 (setN ns).length c5, .slice A1 n1 c1] w5 fun e w' => e = .returned (.bool (decide (setN ns = ns))) ∧ Below w5.heap.size w5 w') := fun w5 A5 c5 h1 h2 => by
          have h3 := refSame02_any A5 A1 c5 c1 (setN ns) ns (sf A5) G w5 (by have := setN_len ns; omega) h2.rg (HU.out w5 h1).2.2.us
          rw [hnl] at h3
          exact h3
        clear q0 q1
        by_cases hst : setN ns = ns
        · rw [decide_eq_true hst] at HSm
          have HGx := Lib.hid (HGi.out ⟨by omega, by omega⟩ (.inl rfl) (fun _ => hst) (fun e => by cases e))
          generalize setN ns = st at *
          clear hst HNf HGi
          obtain ⟨q0, q1, _⟩ := HU.out wr HB.out
          go_upto_region 9 with fail
          · skip
            refine region_mv (S := fun w' => w'.cell? ⟨b, off + i * 2, none⟩ = some (.int .i64 1) ∧ w'.cell? ⟨b, off + i * 2 + 1, none⟩ = some (.slice A1 n1 c1)) (A := List.range 52) (sq := [.p 0, .p 1, .p 2, .p 3, .p 4, .p 5, .p 6, .p 7, .p 8, .p 9, .p 10, .p 11, .p 13, .p 14, .p 15, .p 16, .p 17, .c 12, .c 18, .p 19, .p 20, .p 21, .p 22, .p 23, .p 24, .p 25, .p 26, .p 27, .p 28, .p 29, .p 30, .p 31, .p 32, .p 33, .p 34, .p 35, .p 36, .p 37, .p 38, .p 39, .p 40, .p 41, .p 42, .p 43, .p 44, .p 45, .p 46, .p 47, .p 48, .p 49, .p 50, .p 51]) (by kernel_rfl) (by kernel_rfl) ?_ (fun hHeld => ?_)
            · exact ⟨HUd.out.1, HUd.out.2.1⟩
            repeat (first
              | ((with_reducible refine mv_at ?_); (first
                | (refine ⟨_, ?_, rfl, Or.inl ⟨by rfl, ?_⟩, ?_⟩; rotate_left; · (intro w hSw; (try dsimp only at hSw); go_simp <;> with_reducible rfl))
                | (refine ⟨_, undef, rfl, Or.inr ⟨by rfl, rfl⟩, ?_⟩)); try simp only [Act.put, List.getElem_toArray, List.getElem_cons_succ, List.getElem_cons_zero, List.setIfInBounds_toArray, List.set_cons_zero, List.set_cons_succ])
              | ((with_reducible refine mv_cu ?_); refine ⟨_, rfl, by rfl, by assumption, ?_⟩; try simp only [Act.put, List.getElem_toArray, List.getElem_cons_succ, List.getElem_cons_zero, List.setIfInBounds_toArray, List.set_cons_zero, List.set_cons_succ]))
            refine mv_c (o := _) rfl (fun K hK => ?_)
            go_simp
            go_at_call 103
            refine HSt.out.mono ?_
            rintro e w5 ⟨A5, c5, rfl, h1, h2, h3⟩
            have HB5 := Lib.hid (HBd.out.trans (h3.mono HBd.out.size))
            have HU5 := Lib.hid (HU.out w5 HB5.out)
            have HSa := Lib.hid (HSm.out w5 A5 c5 HB5.out h1)
            clear h1 h2 h3
            refine hK.out _ _ ?_ (fun hHeld => ?_)
            · exact ⟨HU5.out.1, HU5.out.2.1⟩
            clear hK K
            try simp only [Act.put, List.getElem_toArray, List.getElem_cons_succ, List.getElem_cons_zero, List.setIfInBounds_toArray, List.set_cons_zero, List.set_cons_succ]
            repeat (first
              | ((with_reducible refine mv_at ?_); (first
                | (refine ⟨_, ?_, rfl, Or.inl ⟨by rfl, ?_⟩, ?_⟩; rotate_left; · (intro w hSw; (try dsimp only at hSw); go_simp <;> with_reducible rfl))
                | (refine ⟨_, undef, rfl, Or.inr ⟨by rfl, rfl⟩, ?_⟩)); try simp only [Act.put, List.getElem_toArray, List.getElem_cons_succ, List.getElem_cons_zero, List.setIfInBounds_toArray, List.set_cons_zero, List.set_cons_succ])
              | ((with_reducible refine mv_cu ?_); refine ⟨_, rfl, by rfl, by assumption, ?_⟩; try simp only [Act.put, List.getElem_toArray, List.getElem_cons_succ, List.getElem_cons_zero, List.setIfInBounds_toArray, List.set_cons_zero, List.set_cons_succ]))
            refine mv_c (o := _) rfl (fun K hK => ?_)
            go_simp
            go_at_call 68
            refine HSa.out.mono ?_
            rintro e w6 ⟨rfl, h1⟩
            have HB6 := Lib.hid (HB5.out.trans (h1.mono HB5.out.size))
            have HU6 := Lib.hid (HU.out w6 HB6.out)
            clear h1
            refine hK.out _ _ ?_ (fun hHeld => ?_)
            · exact ⟨HU6.out.1, HU6.out.2.1⟩
            clear hK K
            try simp only [Act.put, List.getElem_toArray, List.getElem_cons_succ, List.getElem_cons_zero, List.setIfInBounds_toArray, List.set_cons_zero, List.set_cons_succ]
            repeat (first
              | ((with_reducible refine mv_at ?_); (first
                | (refine ⟨_, ?_, rfl, Or.inl ⟨by rfl, ?_⟩, ?_⟩; rotate_left; · (intro w hSw; (try dsimp only at hSw); go_simp <;> with_reducible rfl))
                | (refine ⟨_, undef, rfl, Or.inr ⟨by rfl, rfl⟩, ?_⟩)); try simp only [Act.put, List.getElem_toArray, List.getElem_cons_succ, List.getElem_cons_zero, List.setIfInBounds_toArray, List.set_cons_zero, List.set_cons_succ])
              | ((with_reducible refine mv_cu ?_); refine ⟨_, rfl, by rfl, by assumption, ?_⟩; try simp only [Act.put, List.getElem_toArray, List.getElem_cons_succ, List.getElem_cons_zero, List.setIfInBounds_toArray, List.set_cons_zero, List.set_cons_succ]))
            refine mv_end ?_
            go_wp2_with fail
            go_roundw
            case rel => exact ⟨i + 1, by omega, by go_num, HGx.out, HB6.out⟩
            case measure => simp [intOf]; omega
        · rw [decide_eq_false hst] at HSm
          have HZf := Lib.hid (HNf.out (fun hg => hst ((hg _ HGs.out).2.2.1 rfl)))
          generalize setN ns = st at *
          clear hst HNf HGi
          obtain ⟨q0, q1, _⟩ := HU.out wr HB.out
          go_upto_region 9 with fail
          · skip
            refine region_mv (S := fun w' => w'.cell? ⟨b, off + i * 2, none⟩ = some (.int .i64 1) ∧ w'.cell? ⟨b, off + i * 2 + 1, none⟩ = some (.slice A1 n1 c1)) (A := List.range 52) (sq := [.p 0, .p 1, .p 2, .p 3, .p 4, .p 5, .p 6, .p 7, .p 8, .p 9, .p 10, .p 11, .p 13, .p 14, .p 15, .p 16, .p 17, .c 12, .c 18, .p 19, .p 20, .p 21, .p 22, .p 23, .p 24, .p 25, .p 26, .p 27, .p 28, .p 29, .p 30, .p 31, .p 32, .p 33, .p 34, .p 35, .p 36, .p 37, .p 38, .p 39, .p 40, .p 41, .p 42, .p 43, .p 44, .p 45, .p 46, .p 47, .p 48, .p 49, .p 50, .p 51]) (by kernel_rfl) (by kernel_rfl) ?_ (fun hHeld => ?_)
            · exact ⟨HUd.out.1, HUd.out.2.1⟩
            repeat (first
              | ((with_reducible refine mv_at ?_); (first
                | (refine ⟨_, ?_, rfl, Or.inl ⟨by rfl, ?_⟩, ?_⟩; rotate_left; · (intro w hSw; (try dsimp only at hSw); go_simp <;> with_reducible rfl))
                | (refine ⟨_, undef, rfl, Or.inr ⟨by rfl, rfl⟩, ?_⟩)); try simp only [Act.put, List.getElem_toArray, List.getElem_cons_succ, List.getElem_cons_zero, List.setIfInBounds_toArray, List.set_cons_zero, List.set_cons_succ])
              | ((with_reducible refine mv_cu ?_); refine ⟨_, rfl, by rfl, by assumption, ?_⟩; try simp only [Act.put, List.getElem_toArray, List.getElem_cons_succ, List.getElem_cons_zero, List.setIfInBounds_toArray, List.set_cons_zero, List.set_cons_succ]))
            refine mv_c (o := _) rfl (fun K hK => ?_)
            go_simp
            go_at_call 103
            refine HSt.out.mono ?_
            rintro e w5 ⟨A5, c5, rfl, h1, h2, h3⟩
            have HB5 := Lib.hid (HBd.out.trans (h3.mono HBd.out.size))
            have HU5 := Lib.hid (HU.out w5 HB5.out)
            have HSa := Lib.hid (HSm.out w5 A5 c5 HB5.out h1)
            clear h1 h2 h3
            refine hK.out _ _ ?_ (fun hHeld => ?_)
            · exact ⟨HU5.out.1, HU5.out.2.1⟩
            clear hK K
            try simp only [Act.put, List.getElem_toArray, List.getElem_cons_succ, List.getElem_cons_zero, List.setIfInBounds_toArray, List.set_cons_zero, List.set_cons_succ]
            repeat (first
              | ((with_reducible refine mv_at ?_); (first
                | (refine ⟨_, ?_, rfl, Or.inl ⟨by rfl, ?_⟩, ?_⟩; rotate_left; · (intro w hSw; (try dsimp only at hSw); go_simp <;> with_reducible rfl))
                | (refine ⟨_, undef, rfl, Or.inr ⟨by rfl, rfl⟩, ?_⟩)); try simp only [Act.put, List.getElem_toArray, List.getElem_cons_succ, List.getElem_cons_zero, List.setIfInBounds_toArray, List.set_cons_zero, List.set_cons_succ])
              | ((with_reducible refine mv_cu ?_); refine ⟨_, rfl, by rfl, by assumption, ?_⟩; try simp only [Act.put, List.getElem_toArray, List.getElem_cons_succ, List.getElem_cons_zero, List.setIfInBounds_toArray, List.set_cons_zero, List.set_cons_succ]))
            refine mv_c (o := _) rfl (fun K hK => ?_)
            go_simp
            go_at_call 68
            refine HSa.out.mono ?_
            rintro e w6 ⟨rfl, h1⟩
            have HB6 := Lib.hid (HB5.out.trans (h1.mono HB5.out.size))
            have HU6 := Lib.hid (HU.out w6 HB6.out)
            clear h1
            refine hK.out _ _ ?_ (fun hHeld => ?_)
            · exact ⟨HU6.out.1, HU6.out.2.1⟩
            clear hK K
            try simp only [Act.put, List.getElem_toArray, List.getElem_cons_succ, List.getElem_cons_zero, List.setIfInBounds_toArray, List.set_cons_zero, List.set_cons_succ]
            repeat (first
              | ((with_reducible refine mv_at ?_); (first
                | (refine ⟨_, ?_, rfl, Or.inl ⟨by rfl, ?_⟩, ?_⟩; rotate_left; · (intro w hSw; (try dsimp only at hSw); go_simp <;> with_reducible rfl))
                | (refine ⟨_, undef, rfl, Or.inr ⟨by rfl, rfl⟩, ?_⟩)); try simp only [Act.put, List.getElem_toArray, List.getElem_cons_succ, List.getElem_cons_zero, List.setIfInBounds_toArray, List.set_cons_zero, List.set_cons_succ])
              | ((with_reducible refine mv_cu ?_); refine ⟨_, rfl, by rfl, by assumption, ?_⟩; try simp only [Act.put, List.getElem_toArray, List.getElem_cons_succ, List.getElem_cons_zero, List.setIfInBounds_toArray, List.set_cons_zero, List.set_cons_succ]))
            refine mv_end ?_
            go_wp2_with fail
            go_ret
            exact ⟨by rw [HZf.out]; rfl, HB6.out⟩
      · subst h3
        have d1 : decide ((n1 : Int) < 1) = false := by rw [decide_eq_false_iff_not]; omega
        have d2 : decide ((255 : Int) < (n1 : Int)) = false := by rw [decide_eq_false_iff_not]; omega
        rcases Nat.eq_zero_or_pos i with h0 | hpos
        · have HGx := Lib.hid (HGi.out ⟨by omega, by omega⟩ (.inr rfl) (fun e => by cases e) (fun _ t ht => by omega))
          subst h0
          have y0 : wr.cell? ⟨b, off, none⟩ = some (.int .i64 2) := by simpa using q0
          have y1 : wr.cell? ⟨b, off + 1, none⟩ = some (.slice A1 n1 c1) := by simpa using q1
          have hl0 : (0 : Int) < (l.length : Int) := by omega
          clear q0 q1 hi1 HPrev HU HE HNf HGi hsz hi hlt
          go_wp2_with fail
          go_quiet (fail)
          go_wp2_with fail
          go_roundw
          case rel => exact ⟨1, by omega, by go_num, HGx.out, below_drewN HB.out _⟩
          case measure => simp [intOf]; omega
        · obtain ⟨j, rfl⟩ : ∃ j, i = j + 1 := ⟨i - 1, by omega⟩
          obtain ⟨t, htj, hnt, A2, c2, y0, y1⟩ := HPrev.out j rfl
          have HTj := Lib.hid htj
          obtain ⟨kt, nt⟩ := t
          dsimp only at *
          have hnt2 : nt.length ≤ 100000 := by simp [nsz] at hnt; omega
          have hj1 : (j : Int) < (l.length : Int) := by omega
          have d3 : decide ((0 : Int) < (j : Int) + 1) = true := by rw [decide_eq_true_iff]; omega
          clear htj hnt
          generalize hntl : nt.length = n2 at *
          by_cases hk2 : kt = 2
          · subst hk2
            by_cases h255 : n2 < 255
            · have HZf := Lib.hid (HNf.out (fun hg => (hg _ HGs.out).2.2.2 rfl _ (by omega) (by rw [Nat.add_sub_cancel]; exact HTj.out) ⟨rfl, by rw [hntl]; exact h255⟩))
              have d5 : decide ((n2 : Int) < 255) = true := by rw [decide_eq_true_iff]; omega
              go_wp2_with fail
              go_quiet (fail)
              go_wp2_with fail
              go_ret
              exact ⟨by rw [HZf.out]; rfl, below_drewN HB.out _⟩
            · have HGx := Lib.hid (HGi.out ⟨by omega, by omega⟩ (.inr rfl) (fun e => by cases e) (fun _ t ht h1 h2 => by rw [Nat.add_sub_cancel, HTj.out] at h1; cases h1; dsimp only at h2; omega))
              have d5 : decide ((n2 : Int) < 255) = false := by rw [decide_eq_false_iff_not]; omega
              go_wp2_with fail
              go_quiet (fail)
              go_wp2_with fail
              go_roundw
              case rel => exact ⟨j + 1 + 1, by omega, by go_num, HGx.out, below_drewN HB.out _⟩
              case measure => simp [intOf]; omega
          · have HGx := Lib.hid (HGi.out ⟨by omega, by omega⟩ (.inr rfl) (fun e => by cases e) (fun _ t ht h1 h2 => by rw [Nat.add_sub_cancel, HTj.out] at h1; cases h1; exact hk2 h2.1))
            have d5 : (kt == 2) = false := by rw [beq_eq_false_iff_ne]; exact hk2
            go_wp2_with fail
            go_quiet (fail)
            go_wp2_with fail
            go_roundw
            case rel => exact ⟨j + 1 + 1, by omega, by go_num, HGx.out, below_drewN HB.out _⟩
            case measure => simp [intOf]; omega
    · obtain rfl : i = l.length := by omega
      have HZt := Lib.hid (HYes.out HE.out)
      go_wp2_with fail
      go_ret
      exact ⟨by rw [HZt.out]; rfl, HB.out⟩
end Go.Proofs.YtaeeeinpelfppaaGreat.attr
