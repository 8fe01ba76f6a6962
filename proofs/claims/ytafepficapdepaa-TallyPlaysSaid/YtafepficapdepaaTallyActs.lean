/- What tally's Turn, Drop and Keys return and leave. -/
import Derived.Test.YtafepficapdepaaTallySum
import Derived.Test.YtafepficapdepaaUKeys
namespace Go.Proofs.Ytafepficapdepaa.tally
open Go.RowKit Go.Proofs.Ytafepficapdepaa.flt Go.Proofs.Ytafepficapdepaa.kit Go.Proofs.Ytafepficapdepaa.mem Go.Proofs.Ytafepficapdepaa.foot Go.Proofs.Ytafepficapdepaa.maps Go.Proofs.Ytafepficapdepaa.nums
set_option linter.unusedVariables false
set_option linter.unusedSimpArgs false
theorem isF_one : IsF 4607182418800017408 1 2200 := by
  have h := of_int 1 (by omega)
  have e : floatOfInt .f64 1 = 4607182418800017408 := by decide +kernel
  rw [e] at h
  exact h
theorem without_len (rs : List TR) (k : Int) : (without rs k).length ≤ rs.length := List.length_filter_le _ _
theorem without_none {rs : List TR} {k : Int} (h : (rs.any fun r => r.1 == k) = false) : without rs k = rs := by
  unfold without
  rw [List.filter_eq_self]
  intro r hr
  have := List.any_eq_false.1 h r hr
  simpa using this
/-- what turning leaves -/
def turned (rs : List TR) (k : Int) (p : Nat × Nat) : List TR := if (rs.any fun r => r.1 == k) = true then (k, p, ((valOf rs k).2, (valOf rs k).1)) :: without rs k else rs

set_option maxRecDepth 100000 in
set_option maxHeartbeats 1000000 in
theorem Turn_any {F : Foot} {t : Nat} {rs : List TR} (k : Int) (w : World) (hk : (Lit.int .u32 k).wf = true) (hn : rs.length < 10000) (h : Tl w F t rs) :
    Calls Try.prog 20 #[.pointer (some ⟨t, 0, none⟩), .int .u32 k] w fun e w' => e = .returned (.tuple #[]) ∧ (∃ p, Tl w' F t (turned rs k p)) ∧ Chg F w w' := by
  obtain ⟨b, hb, l1, l2, hre, him, z1, z2, z3, z4⟩ := h.look hk
  have hlt := h.lt
  have hb0 := hb.cell 0
  simp at hb0
  have hneg := negFloat_exact him
  obtain ⟨re, im, hm, hre2, him2⟩ := cmul_exact hre hneg isF_zero isF_one (by omega) (by omega) (by omega) (by omega) (by omega) (by omega) (by omega) (by omega)
  have m1 := fun w => run_complex_mul (P := Try.prog) w 112 _ _ _ _ re im hm
  rw [show (valOf rs k).1 * 0 - -(valOf rs k).2 * 1 = (valOf rs k).2 from by omega] at hre2
  rw [show (valOf rs k).1 * 1 + -(valOf rs k).2 * 0 = (valOf rs k).1 from by omega] at him2
  have hng : ∀ (x : Nat) (w : World), (Op.unary .neg (.float .f64 x)).run Try.prog w = .ok (.float .f64 (Op.negFloat .f64 x)) w := fun _ _ => rfl
  have hmp : Mp cE Try.prog 22 .u32 w b rs.length (raw rs) ∧ F b ∧ t ≠ b := by
    obtain ⟨⟨b', n, h1, h2, h3, h4⟩, _⟩ := h
    have e := h1.symm.trans hb
    simp [Bk] at e
    subst e
    have := h2.tight
    simp only [raw, List.length_map] at this
    exact ⟨this, h3, h4⟩
  have HMp := Lib.hid hmp
  have HFin : Hid (∀ w', Mp cE Try.prog 22 .u32 w' b (rs.length + 1) (put (raw rs) k (re, im)) → Chg (fun j => j = b) w w' → Tl w' F t ((k, (re, im), ((valOf rs k).2, (valOf rs k).1)) :: without rs k) ∧ Chg F w w') := fun w' g1 g2 => by
    have hFb := hmp.2.1
    refine ⟨⟨⟨b, _, hb.chg g2 hmp.2.2, by rw [raw_put (v := ((valOf rs k).2, (valOf rs k).1))] at g1; exact g1, hFb, hmp.2.2⟩, h.mem, fun j hj => Nat.lt_of_lt_of_le (hlt j hj) g2.size, fun r hr => ?_⟩, g2.mono fun i _ e => by rw [e]; exact hFb⟩
    rcases List.mem_cons.1 hr with rfl | hr
    · exact ⟨hre2, him2, ⟨z2, z1⟩, ⟨z4, z3⟩⟩
    · exact h.sound r (List.mem_filter.1 hr).1
  have HK := Lib.hid hk
  have HH := Lib.hid h
  have HT : Hid (∀ p, turned rs k p = if (rs.any fun r => r.1 == k) = true then (k, p, ((valOf rs k).2, (valOf rs k).1)) :: without rs k else rs) := fun _ => rfl
  generalize turned rs k = T at *
  clear hb hre him z1 z2 z3 z4 hre2 him2 hm h hlt hk hmp hneg
  generalize bitsOf rs k = p0 at *
  rcases hany : (rs.any fun r => r.1 == k) with _ | _
  all_goals
    rw [hany] at HT l2
    clear hany
    go_enter Try.func20, Try.ntmps20
    go_wp2_with (at_mapUpdate; (refine wpList_put (E := cE) rfl (.tmp 21) (.tmp 22) (.tmp 29) _ rfl 112 Try.underlying22 Try.underlying109 b rs.length (raw rs) rfl HMp.out.1 (by unfold maxLen; omega) k (re, im) HK.out (by rfl) (by rfl) ?_); intro w1 g1 g2; have HE := Lib.hid (HFin.out w1 g1 g2); clear g1 g2)
  · go_end0
    exact ⟨rfl, ⟨(0, 0), by rw [HT.out]; exact HH.out⟩, Chg.refl _ _⟩
  · go_end0
    exact ⟨rfl, ⟨re, im, by rw [HT.out]; exact HE.out.1⟩, HE.out.2⟩

set_option maxRecDepth 100000 in
set_option maxHeartbeats 1000000 in
theorem Drop_any {F : Foot} {t : Nat} {rs : List TR} (k : Int) (w : World) (hk : (Lit.int .u32 k).wf = true) (h : Tl w F t rs) :
    Calls Try.prog 21 #[.pointer (some ⟨t, 0, none⟩), .int .u32 k] w fun e w' => e = .returned (.bool (rs.any fun r => r.1 == k)) ∧ Tl w' F t (without rs k) ∧ Chg F w w' := by
  obtain ⟨b, hb, l1, l2, _⟩ := h.look hk
  have hlt := h.lt
  have hb0 := hb.cell 0
  simp at hb0
  have hmp : Mp cE Try.prog 22 .u32 w b rs.length (raw rs) ∧ F b ∧ t ≠ b := by
    obtain ⟨⟨b', n, h1, h2, h3, h4⟩, _⟩ := h
    have e := h1.symm.trans hb
    simp [Bk] at e
    subst e
    have := h2.tight
    simp only [raw, List.length_map] at this
    exact ⟨this, h3, h4⟩
  have HMp := Lib.hid hmp
  have HFin : Hid (∀ w', Mp cE Try.prog 22 .u32 w' b rs.length (cut (raw rs) k) → Chg (fun j => j = b) w w' → Tl w' F t (without rs k) ∧ Chg F w w') := fun w' g1 g2 => by
    have hFb := hmp.2.1
    exact ⟨⟨⟨b, _, hb.chg g2 hmp.2.2, by rw [raw_cut] at g1; exact g1, hFb, hmp.2.2⟩, h.mem, fun j hj => Nat.lt_of_lt_of_le (hlt j hj) g2.size, fun r hr => h.sound r (List.mem_filter.1 hr).1⟩, g2.mono fun i _ e => by rw [e]; exact hFb⟩
  have HK := Lib.hid hk
  clear hb h hlt hk hmp
  generalize bitsOf rs k = p0 at *
  generalize (rs.any fun r => r.1 == k) = ok at *
  go_enter Try.func21, Try.ntmps21
  go_wp2_with (at_delete; (refine wpList_drop (E := cE) rfl (.tmp 21) (.tmp 22) _ rfl 112 Try.underlying22 Try.underlying109 b rs.length (raw rs) (by rfl) HMp.out.1 k HK.out (by rfl) ?_); intro w1 g1 g2; have HE := Lib.hid (HFin.out w1 g1 g2); clear g1 g2)
  go_ret
  exact ⟨rfl, HE.out⟩

/-- the keys of a tally, rising -/
def KeysP (rs : List TR) (w : World) (e : Ending) (w' : World) : Prop := ∃ L : List Nat, (L.map fun n : Nat => (n : Int)).Perm (rs.map (·.1)) ∧ L.Pairwise (· ≤ ·) ∧ RetNums L w e w'
theorem keys_any {F : Foot} {t : Nat} {rs : List TR} (w : World) (hn : rs.length ≤ 10000) (h0 : ∀ r ∈ rs, 0 ≤ r.1) (h : Tl w F t rs) :
    Calls Try.prog 56 #[.pointer (some ⟨t, 0, none⟩)] w (KeysP rs w) := by
  obtain ⟨⟨b, n, hb, hmp, hFb, htb⟩, hFt, hlt, hs⟩ := h
  have hb0 := hb.cell 0
  simp at hb0
  have HS := Lib.hid (sortedU_any w.heap.size (w.alloc (.cells #[.map (some b)] 109)) (by simp [raw]; exact hn) (by rw [World.size_alloc]; omega) (by rw [(Bk.new w 109 #[.map (some b)]).cell 0]; rfl) (hmp.bel ((Below.refl _ _).alloc (Nat.le_refl _) _)) (by
    intro p hp
    simp only [raw, List.mem_map] at hp
    obtain ⟨r, hr, rfl⟩ := hp
    exact h0 r hr))
  have HF : Hid (∀ e w', (∃ L : List Nat, (L.map fun n : Nat => (n : Int)).Perm ((raw rs).map (·.1)) ∧ L.Pairwise (· ≤ ·) ∧ RetNums L (w.alloc (.cells #[.map (some b)] 109)) e w') → KeysP rs w e w' ∧ ∃ A n c, e = .returned (.slice A n c)) := fun e w' => by
    rintro ⟨L, h1, h2, A, c, rfl, h3, h4, h5⟩
    rw [World.size_alloc] at h4
    refine ⟨⟨L, by simp only [raw, List.map_map, Function.comp_def] at h1; exact h1, h2, A, c, rfl, h3, fun k hk => by have := h4 k hk; omega, ((Below.refl _ _).alloc (Nat.le_refl _) _).trans (h5.mono (by rw [World.size_alloc]; omega))⟩, A, _, c, rfl⟩
  clear hb hmp hlt hs hn h0
  obtain ⟨Q, hQ⟩ : ∃ Q, Q = KeysP rs w := ⟨_, rfl⟩
  rw [← hQ] at HF ⊢
  clear hQ
  go_enter Try.func56, Try.ntmps56
  go_wp2_with (first
    | (go_at_call 96; refine (mapsKeysU_any _ _).mono ?_; rintro e w' ⟨rfl, rfl⟩)
    | (go_at_call 95; refine HS.out.mono ?_; rintro e w' hp; go_must (obtain ⟨hp, A, n, c, rfl⟩ := HF.out e w' hp); have HP := Lib.hid hp; clear hp))
  exact HP.out
theorem Keys_any {F : Foot} {t : Nat} {rs : List TR} (w : World) (hn : rs.length ≤ 10000) (h0 : ∀ r ∈ rs, 0 ≤ r.1) (h : Tl w F t rs) :
    Calls Try.prog 26 #[.pointer (some ⟨t, 0, none⟩)] w (KeysP rs w) := by
  have HA := Lib.hid (keys_any w hn h0 h)
  have HF : Hid (∀ e w', KeysP rs w e w' → ∃ A n c, e = .returned (.slice A n c)) := fun e w' => by
    rintro ⟨L, h1, h2, A, c, rfl, _⟩
    exact ⟨A, _, c, rfl⟩
  clear hn h0 h
  obtain ⟨Q, hQ⟩ : ∃ Q, Q = KeysP rs w := ⟨_, rfl⟩
  rw [← hQ] at HA HF ⊢
  clear hQ
  go_enter Try.func26, Try.ntmps26
  go_wp2_with (go_at_call 56; refine HA.out.mono ?_; rintro e w' hp; go_must (obtain ⟨A, n, c, rfl⟩ := HF.out e w' hp); have HP := Lib.hid hp; clear hp)
  exact HP.out
end Go.Proofs.Ytafepficapdepaa.tally
