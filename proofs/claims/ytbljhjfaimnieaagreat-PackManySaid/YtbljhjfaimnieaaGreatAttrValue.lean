/- What attr.value returns. Condition: at most 10^5 pieces and numbers together. -/
import Derived.Test.YtbljhjfaimnieaaGreatAttrEnc
namespace Go.Proofs.YtbljhjfaimnieaaGreat.attr
open Go.RowKit Go.Proofs.YtbljhjfaimnieaaGreat.kit Go.Proofs.YtbljhjfaimnieaaGreat.mem Go.Proofs.YtbljhjfaimnieaaGreat.foot Go.Proofs.YtbljhjfaimnieaaGreat.nums Go.Proofs.YtbljhjfaimnieaaGreat.asn Go.Proofs.YtbljhjfaimnieaaGreat.pth Go.Proofs.YtbljhjfaimnieaaGreat.octet
set_option linter.unusedVariables false
set_option linter.unusedSimpArgs false
theorem valB_len {a : Atr} {k : Nat} (hp : nsz a.path ≤ 100000) (hc : a.comms.length ≤ 100000) : (valB a k).length ≤ 400000 := by
  have h1 := pathB_len a.path
  have h2 := n4s_len a.comms
  have h4 : ∀ n : Int, (be4 n).length = 4 := fun _ => rfl
  unfold valB
  split <;> simp [h4] <;> omega
/-- the world behind the head: the argument's block, the writer -/
structure VX (w : World) (a : Atr) (Ap : Option Addr) (cp : Nat) (Ac : Option Addr) (cc : Nat) (w1 : World) : Prop where
  bk : Bk w1 w.heap.size 26 (atc a Ap cp Ac cc).toArray
  wr : Wtr w1 (w.heap.size + 1) (w.heap.size + 1) []
  bel : Below w.heap.size w w1
theorem VX.new (w : World) (a : Atr) (Ap : Option Addr) (cp : Nat) (Ac : Option Addr) (cc : Nat) : VX w a Ap cp Ac cc ((w.alloc (.cells (atc a Ap cp Ac cc).toArray 26)).alloc (.cells #[.slice none 0 0] 127)) := by
  refine ⟨(Bk.new w _ _).alloc _, ?_, ((Below.refl _ _).alloc (Nat.le_refl _) _).alloc (by simp) _⟩
  have := wtr_new (w.alloc (.cells (atc a Ap cp Ac cc).toArray 26))
  rwa [World.size_alloc] at this
theorem VX.cell {w : World} {a : Atr} {Ap Ac : Option Addr} {cp cc : Nat} {w1 w' : World} (h : VX w a Ap cp Ac cc w1) (hb : Below (w.heap.size + 1) w1 w') (j : Nat) {u : Value} (hu : (atc a Ap cp Ac cc)[j]? = some u) : w'.cell? ⟨w.heap.size, j, none⟩ = some u := by
  rw [hb.cell (p := ⟨w.heap.size, j, none⟩) (show w.heap.size < w.heap.size + 1 by omega), h.bk.cell]
  simpa using hu
section
variable (w : World) (a : Atr) (Ap Ac : Option Addr) (cp cc : Nat) (G : Foot)
set_option maxRecDepth 100000 in
set_option maxHeartbeats 2000000 in
theorem value_1 (hm : Am w G a Ap cp Ac cc) : Calls Tryz.prog 119 #[.agg (atc a Ap cp Ac cc).toArray, .int .i64 1] w (RetB ([octet.byteOf a.orig]) w) := by
  have HX := Lib.hid (VX.new w a Ap cp Ac cc)
  have HBy : Hid (∀ (w' : World) (l : List UInt8), Wtr w' (w.heap.size + 1) (w.heap.size + 1) l → l.length ≤ 400000 → Below w.heap.size w w' → Calls Tryz.prog 124 #[.pointer (some ⟨w.heap.size + 1, 0, none⟩)] w' fun e w2 => RetB l w e w2) := fun w' l h1 h2 h3 => (BytesB_any _ _ l w' h1 (by omega)).mono fun e w2 h => h.up h3
  obtain ⟨w1, hw1⟩ : ∃ w1, w1 = (w.alloc (.cells (atc a Ap cp Ac cc).toArray 26)).alloc (.cells #[.slice none 0 0] 127) := ⟨_, rfl⟩
  rw [← hw1] at HX
  have HF : Hid (∀ e w', RetB ([octet.byteOf a.orig]) w e w' → ∃ A n c, e = .returned (.slice A n c)) := fun e w' => by
    rintro ⟨A, c, h, _⟩
    exact ⟨A, _, c, h⟩
  obtain ⟨Q, hQ⟩ : ∃ Q, Q = RetB ([octet.byteOf a.orig]) w := ⟨_, rfl⟩
  have HQ : Hid (∀ e w', RetB ([octet.byteOf a.orig]) w e w' → Q e w') := fun e w' h => by rw [hQ]; exact h
  rw [← hQ]
  clear hQ
  have q1 : w1.cell? ⟨w.heap.size, 1, none⟩ = some (.int .i64 a.orig) := HX.out.cell (Below.refl _ _) 1 rfl
  have HU := Lib.hid (U8_any _ _ [] a.orig w1 HX.out.wr (by simp))
  rw [List.nil_append] at HU
  clear hm
  generalize atc a Ap cp Ac cc = cs at *
  go_enter Tryz.func119, Tryz.ntmps119
  go_upto_region 4 with fail
  rw [← hw1]
  clear hw1
  go_wp2_with (first
    | (go_at_call 120; refine HU.out.mono ?_; rintro e w2 ⟨rfl, h1, h2⟩; have HByx := Lib.hid (HBy.out w2 _ h1 (by simp [be4]) (HX.out.bel.trans ((HX.out.wr.only h2).mono (Nat.le_succ _)))); clear h1 h2)
    | (go_at_call 124; refine HByx.out.mono ?_; rintro e w9 hp; go_must (obtain ⟨A', n', c', rfl⟩ := HF.out e w9 hp); have HP := Lib.hid (HQ.out _ _ hp); clear hp))
  exact HP.out
set_option maxRecDepth 100000 in
set_option maxHeartbeats 2000000 in
theorem value_3 (hm : Am w G a Ap cp Ac cc) : Calls Tryz.prog 119 #[.agg (atc a Ap cp Ac cc).toArray, .int .i64 3] w (RetB (be4 a.hop) w) := by
  have HX := Lib.hid (VX.new w a Ap cp Ac cc)
  have HBy : Hid (∀ (w' : World) (l : List UInt8), Wtr w' (w.heap.size + 1) (w.heap.size + 1) l → l.length ≤ 400000 → Below w.heap.size w w' → Calls Tryz.prog 124 #[.pointer (some ⟨w.heap.size + 1, 0, none⟩)] w' fun e w2 => RetB l w e w2) := fun w' l h1 h2 h3 => (BytesB_any _ _ l w' h1 (by omega)).mono fun e w2 h => h.up h3
  obtain ⟨w1, hw1⟩ : ∃ w1, w1 = (w.alloc (.cells (atc a Ap cp Ac cc).toArray 26)).alloc (.cells #[.slice none 0 0] 127) := ⟨_, rfl⟩
  rw [← hw1] at HX
  have HF : Hid (∀ e w', RetB (be4 a.hop) w e w' → ∃ A n c, e = .returned (.slice A n c)) := fun e w' => by
    rintro ⟨A, c, h, _⟩
    exact ⟨A, _, c, h⟩
  obtain ⟨Q, hQ⟩ : ∃ Q, Q = RetB (be4 a.hop) w := ⟨_, rfl⟩
  have HQ : Hid (∀ e w', RetB (be4 a.hop) w e w' → Q e w') := fun e w' h => by rw [hQ]; exact h
  rw [← hQ]
  clear hQ
  have q1 : w1.cell? ⟨w.heap.size, 3, none⟩ = some (.int .u32 a.hop) := HX.out.cell (Below.refl _ _) 3 rfl
  have hwf := wf_u32 hm.wf.hop
  have HU := Lib.hid (U32_any _ _ [] a.hop w1 HX.out.wr (by simp) hwf.1 hwf.2)
  clear hwf
  rw [List.nil_append] at HU
  clear hm
  generalize atc a Ap cp Ac cc = cs at *
  go_enter Tryz.func119, Tryz.ntmps119
  go_upto_region 13 with fail
  rw [← hw1]
  clear hw1
  go_wp2_with (first
    | (go_at_call 139; refine HU.out.mono ?_; rintro e w2 ⟨rfl, h1, h2⟩; have HByx := Lib.hid (HBy.out w2 _ h1 (by simp [be4]) (HX.out.bel.trans ((HX.out.wr.only h2).mono (Nat.le_succ _)))); clear h1 h2)
    | (go_at_call 124; refine HByx.out.mono ?_; rintro e w9 hp; go_must (obtain ⟨A', n', c', rfl⟩ := HF.out e w9 hp); have HP := Lib.hid (HQ.out _ _ hp); clear hp))
  exact HP.out
set_option maxRecDepth 100000 in
set_option maxHeartbeats 2000000 in
theorem value_4 (hm : Am w G a Ap cp Ac cc) : Calls Tryz.prog 119 #[.agg (atc a Ap cp Ac cc).toArray, .int .i64 4] w (RetB (be4 a.med) w) := by
  have HX := Lib.hid (VX.new w a Ap cp Ac cc)
  have HBy : Hid (∀ (w' : World) (l : List UInt8), Wtr w' (w.heap.size + 1) (w.heap.size + 1) l → l.length ≤ 400000 → Below w.heap.size w w' → Calls Tryz.prog 124 #[.pointer (some ⟨w.heap.size + 1, 0, none⟩)] w' fun e w2 => RetB l w e w2) := fun w' l h1 h2 h3 => (BytesB_any _ _ l w' h1 (by omega)).mono fun e w2 h => h.up h3
  obtain ⟨w1, hw1⟩ : ∃ w1, w1 = (w.alloc (.cells (atc a Ap cp Ac cc).toArray 26)).alloc (.cells #[.slice none 0 0] 127) := ⟨_, rfl⟩
  rw [← hw1] at HX
  have HF : Hid (∀ e w', RetB (be4 a.med) w e w' → ∃ A n c, e = .returned (.slice A n c)) := fun e w' => by
    rintro ⟨A, c, h, _⟩
    exact ⟨A, _, c, h⟩
  obtain ⟨Q, hQ⟩ : ∃ Q, Q = RetB (be4 a.med) w := ⟨_, rfl⟩
  have HQ : Hid (∀ e w', RetB (be4 a.med) w e w' → Q e w') := fun e w' h => by rw [hQ]; exact h
  rw [← hQ]
  clear hQ
  have q1 : w1.cell? ⟨w.heap.size, 4, none⟩ = some (.int .u32 a.med) := HX.out.cell (Below.refl _ _) 4 rfl
  have hwf := wf_u32 hm.wf.med
  have HU := Lib.hid (U32_any _ _ [] a.med w1 HX.out.wr (by simp) hwf.1 hwf.2)
  clear hwf
  rw [List.nil_append] at HU
  clear hm
  generalize atc a Ap cp Ac cc = cs at *
  go_enter Tryz.func119, Tryz.ntmps119
  go_upto_region 15 with fail
  rw [← hw1]
  clear hw1
  go_wp2_with (first
    | (go_at_call 139; refine HU.out.mono ?_; rintro e w2 ⟨rfl, h1, h2⟩; have HByx := Lib.hid (HBy.out w2 _ h1 (by simp [be4]) (HX.out.bel.trans ((HX.out.wr.only h2).mono (Nat.le_succ _)))); clear h1 h2)
    | (go_at_call 124; refine HByx.out.mono ?_; rintro e w9 hp; go_must (obtain ⟨A', n', c', rfl⟩ := HF.out e w9 hp); have HP := Lib.hid (HQ.out _ _ hp); clear hp))
  exact HP.out
set_option maxRecDepth 100000 in
set_option maxHeartbeats 2000000 in
theorem value_5 (hm : Am w G a Ap cp Ac cc) : Calls Tryz.prog 119 #[.agg (atc a Ap cp Ac cc).toArray, .int .i64 5] w (RetB (be4 a.pref) w) := by
  have HX := Lib.hid (VX.new w a Ap cp Ac cc)
  have HBy : Hid (∀ (w' : World) (l : List UInt8), Wtr w' (w.heap.size + 1) (w.heap.size + 1) l → l.length ≤ 400000 → Below w.heap.size w w' → Calls Tryz.prog 124 #[.pointer (some ⟨w.heap.size + 1, 0, none⟩)] w' fun e w2 => RetB l w e w2) := fun w' l h1 h2 h3 => (BytesB_any _ _ l w' h1 (by omega)).mono fun e w2 h => h.up h3
  obtain ⟨w1, hw1⟩ : ∃ w1, w1 = (w.alloc (.cells (atc a Ap cp Ac cc).toArray 26)).alloc (.cells #[.slice none 0 0] 127) := ⟨_, rfl⟩
  rw [← hw1] at HX
  have HF : Hid (∀ e w', RetB (be4 a.pref) w e w' → ∃ A n c, e = .returned (.slice A n c)) := fun e w' => by
    rintro ⟨A, c, h, _⟩
    exact ⟨A, _, c, h⟩
  obtain ⟨Q, hQ⟩ : ∃ Q, Q = RetB (be4 a.pref) w := ⟨_, rfl⟩
  have HQ : Hid (∀ e w', RetB (be4 a.pref) w e w' → Q e w') := fun e w' h => by rw [hQ]; exact h
  rw [← hQ]
  clear hQ
  have q1 : w1.cell? ⟨w.heap.size, 5, none⟩ = some (.int .u32 a.pref) := HX.out.cell (Below.refl _ _) 5 rfl
  have hwf := wf_u32 hm.wf.pref
  have HU := Lib.hid (U32_any _ _ [] a.pref w1 HX.out.wr (by simp) hwf.1 hwf.2)
  clear hwf
  rw [List.nil_append] at HU
  clear hm
  generalize atc a Ap cp Ac cc = cs at *
  go_enter Tryz.func119, Tryz.ntmps119
  go_upto_region 17 with fail
  rw [← hw1]
  clear hw1
  go_wp2_with (first
    | (go_at_call 139; refine HU.out.mono ?_; rintro e w2 ⟨rfl, h1, h2⟩; have HByx := Lib.hid (HBy.out w2 _ h1 (by simp [be4]) (HX.out.bel.trans ((HX.out.wr.only h2).mono (Nat.le_succ _)))); clear h1 h2)
    | (go_at_call 124; refine HByx.out.mono ?_; rintro e w9 hp; go_must (obtain ⟨A', n', c', rfl⟩ := HF.out e w9 hp); have HP := Lib.hid (HQ.out _ _ hp); clear hp))
  exact HP.out
set_option maxRecDepth 100000 in
set_option maxHeartbeats 2000000 in
theorem value_7 (hm : Am w G a Ap cp Ac cc) : Calls Tryz.prog 119 #[.agg (atc a Ap cp Ac cc).toArray, .int .i64 7] w (RetB (be4 a.aas ++ be4 a.aid) w) := by
  have HX := Lib.hid (VX.new w a Ap cp Ac cc)
  have HBy : Hid (∀ (w' : World) (l : List UInt8), Wtr w' (w.heap.size + 1) (w.heap.size + 1) l → l.length ≤ 400000 → Below w.heap.size w w' → Calls Tryz.prog 124 #[.pointer (some ⟨w.heap.size + 1, 0, none⟩)] w' fun e w2 => RetB l w e w2) := fun w' l h1 h2 h3 => (BytesB_any _ _ l w' h1 (by omega)).mono fun e w2 h => h.up h3
  obtain ⟨w1, hw1⟩ : ∃ w1, w1 = (w.alloc (.cells (atc a Ap cp Ac cc).toArray 26)).alloc (.cells #[.slice none 0 0] 127) := ⟨_, rfl⟩
  rw [← hw1] at HX
  have HF : Hid (∀ e w', RetB (be4 a.aas ++ be4 a.aid) w e w' → ∃ A n c, e = .returned (.slice A n c)) := fun e w' => by
    rintro ⟨A, c, h, _⟩
    exact ⟨A, _, c, h⟩
  obtain ⟨Q, hQ⟩ : ∃ Q, Q = RetB (be4 a.aas ++ be4 a.aid) w := ⟨_, rfl⟩
  have HQ : Hid (∀ e w', RetB (be4 a.aas ++ be4 a.aid) w e w' → Q e w') := fun e w' h => by rw [hQ]; exact h
  rw [← hQ]
  clear hQ
  have HC : Hid (∀ w', Below (w.heap.size + 1) w1 w' → w'.cell? ⟨w.heap.size, 6, none⟩ = some (.int .u32 a.aas) ∧ w'.cell? ⟨w.heap.size, 7, none⟩ = some (.int .u32 a.aid)) := fun w' hb => ⟨HX.out.cell hb 6 rfl, HX.out.cell hb 7 rfl⟩
  have hwf := wf_u32 hm.wf.aas
  have hwg := wf_u32 hm.wf.aid
  have HWd : Hid (Wtr w1.drew (w.heap.size + 1) (w.heap.size + 1) []) := HX.out.wr.below (Below.refl _ _).drew
  have HU := Lib.hid (U32_any _ _ [] a.aas w1.drew HWd.out (by simp) hwf.1 hwf.2)
  have HU2 : Hid (∀ w', Wtr w' (w.heap.size + 1) (w.heap.size + 1) (be4 a.aas) → Calls Tryz.prog 139 #[.pointer (some ⟨w.heap.size + 1, 0, none⟩), .int .u32 a.aid] w' fun e w2 => e = .returned (.pointer (some ⟨w.heap.size + 1, 0, none⟩)) ∧ Wtr w2 (w.heap.size + 1) (w.heap.size + 1) (be4 a.aas ++ be4 a.aid) ∧ Below (w.heap.size + 1) w' w2) := fun w' h => by
    refine (U32_any _ _ (be4 a.aas) a.aid w' h (by simp [be4]) hwg.1 hwg.2).mono ?_
    rintro e w2 ⟨rfl, h1, h2⟩
    exact ⟨rfl, h1, h.only h2⟩
  rw [List.nil_append] at HU
  obtain ⟨q6, q7⟩ := HC.out w1 (Below.refl _ _)
  have HS0 : Hid (w1.cell? ⟨w.heap.size, 6, none⟩ = some (.int .u32 a.aas) ∧ w1.cell? ⟨w.heap.size, 7, none⟩ = some (.int .u32 a.aid)) := ⟨q6, q7⟩
  have HSd := Lib.hid (HC.out w1.drew (Below.refl _ _).drew)
  clear hm hwf hwg
  generalize atc a Ap cp Ac cc = cs at *
  go_enter Tryz.func119, Tryz.ntmps119
  go_upto_region 19 with fail
  rw [← hw1]
  clear hw1
  go_region_held3 (fun w' => w'.cell? ⟨w.heap.size, 6, none⟩ = some (.int .u32 a.aas) ∧ w'.cell? ⟨w.heap.size, 7, none⟩ = some (.int .u32 a.aid)) (first | exact HS4.out | exact HS3.out | exact HSd.out | exact HS0.out) (first
    | (go_at_call 139; (with_reducible refine HU.out.mono ?_); rintro e w3 ⟨rfl, h1, h2⟩; go_must (have HB3 := Lib.hid ((Below.refl (w.heap.size + 1) w1).drew.trans (HWd.out.only h2))); go_must (have HS3 := Lib.hid (HC.out w3 HB3.out)); go_must (have HUx := Lib.hid (HU2.out w3 h1)); clear h1 h2)
    | (go_at_call 139; (with_reducible refine HUx.out.mono ?_); rintro e w4 ⟨rfl, h1, h2⟩; go_must (have HB4 := Lib.hid (HB3.out.trans h2)); go_must (have HS4 := Lib.hid (HC.out w4 HB4.out)); go_must (have HByx := Lib.hid (HBy.out w4 _ h1 (by simp [be4]) (HX.out.bel.trans (HB4.out.mono (Nat.le_succ _))))); clear h1 h2))
  go_wp2_with (go_at_call 124; refine HByx.out.mono ?_; rintro e w9 hp; go_must (obtain ⟨A', n', c', rfl⟩ := HF.out e w9 hp); have HP := Lib.hid (HQ.out _ _ hp); clear hp)
  exact HP.out
set_option maxRecDepth 100000 in
set_option maxHeartbeats 2000000 in
theorem value_8 (hm : Am w G a Ap cp Ac cc) (hc : a.comms.length ≤ 100000) : Calls Tryz.prog 119 #[.agg (atc a Ap cp Ac cc).toArray, .int .i64 8] w (RetB (n4s a.comms) w) := by
  have HX := Lib.hid (VX.new w a Ap cp Ac cc)
  have HBy : Hid (∀ (w' : World) (l : List UInt8), Wtr w' (w.heap.size + 1) (w.heap.size + 1) l → l.length ≤ 400000 → Below w.heap.size w w' → Calls Tryz.prog 124 #[.pointer (some ⟨w.heap.size + 1, 0, none⟩)] w' fun e w2 => RetB l w e w2) := fun w' l h1 h2 h3 => (BytesB_any _ _ l w' h1 (by omega)).mono fun e w2 h => h.up h3
  obtain ⟨w1, hw1⟩ : ∃ w1, w1 = (w.alloc (.cells (atc a Ap cp Ac cc).toArray 26)).alloc (.cells #[.slice none 0 0] 127) := ⟨_, rfl⟩
  rw [← hw1] at HX
  have HF : Hid (∀ e w', RetB (n4s a.comms) w e w' → ∃ A n c, e = .returned (.slice A n c)) := fun e w' => by
    rintro ⟨A, c, h, _⟩
    exact ⟨A, _, c, h⟩
  obtain ⟨Q, hQ⟩ : ∃ Q, Q = RetB (n4s a.comms) w := ⟨_, rfl⟩
  have HQ : Hid (∀ e w', RetB (n4s a.comms) w e w' → Q e w') := fun e w' h => by rw [hQ]; exact h
  rw [← hQ]
  clear hQ
  have q1 : w1.cell? ⟨w.heap.size, 8, none⟩ = some (.slice Ac a.comms.length cc) := HX.out.cell (Below.refl _ _) 8 rfl
  have hm' := (hm.mono (H := fun k => k < w.heap.size) fun k hk _ => hk).bel HX.out.bel
  have HU := Lib.hid (numbers_any _ _ [] Ac cc a.comms _ w1 HX.out.wr (by simp; omega) hm'.w32 hm'.sn (fun k hk => Nat.lt_succ_of_lt hk))
  rw [List.nil_append] at HU
  have hnl : (n4s a.comms).length ≤ 400000 := by rw [n4s_len]; omega
  clear hm hm'
  generalize n4s a.comms = ns at *
  generalize atc a Ap cp Ac cc = cs at *
  go_enter Tryz.func119, Tryz.ntmps119
  go_upto_region 21 with fail
  rw [← hw1]
  clear hw1
  go_wp2_with (first
    | (go_at_call 138; refine HU.out.mono ?_; rintro e w2 ⟨rfl, h1, h2⟩; have HByx := Lib.hid (HBy.out w2 _ h1 hnl (HX.out.bel.trans (h2.mono (Nat.le_succ _)))); clear h1 h2)
    | (go_at_call 124; refine HByx.out.mono ?_; rintro e w9 hp; go_must (obtain ⟨A', n', c', rfl⟩ := HF.out e w9 hp); have HP := Lib.hid (HQ.out _ _ hp); clear hp))
  exact HP.out
set_option maxRecDepth 100000 in
set_option maxHeartbeats 2000000 in
theorem value_6 : Calls Tryz.prog 119 #[.agg (atc a Ap cp Ac cc).toArray, .int .i64 6] w (RetB [] w) := by
  have HX := Lib.hid (VX.new w a Ap cp Ac cc)
  have HBy : Hid (∀ (w' : World) (l : List UInt8), Wtr w' (w.heap.size + 1) (w.heap.size + 1) l → l.length ≤ 400000 → Below w.heap.size w w' → Calls Tryz.prog 124 #[.pointer (some ⟨w.heap.size + 1, 0, none⟩)] w' fun e w2 => RetB l w e w2) := fun w' l h1 h2 h3 => (BytesB_any _ _ l w' h1 (by omega)).mono fun e w2 h => h.up h3
  obtain ⟨w1, hw1⟩ : ∃ w1, w1 = (w.alloc (.cells (atc a Ap cp Ac cc).toArray 26)).alloc (.cells #[.slice none 0 0] 127) := ⟨_, rfl⟩
  rw [← hw1] at HX
  have HF : Hid (∀ e w', RetB (([] : List UInt8)) w e w' → ∃ A n c, e = .returned (.slice A n c)) := fun e w' => by
    rintro ⟨A, c, h, _⟩
    exact ⟨A, _, c, h⟩
  obtain ⟨Q, hQ⟩ : ∃ Q, Q = RetB (([] : List UInt8)) w := ⟨_, rfl⟩
  have HQ : Hid (∀ e w', RetB (([] : List UInt8)) w e w' → Q e w') := fun e w' h => by rw [hQ]; exact h
  rw [← hQ]
  clear hQ
  have HByx := Lib.hid (HBy.out w1 [] HX.out.wr (by simp) HX.out.bel)
  generalize atc a Ap cp Ac cc = cs at *
  go_enter Tryz.func119, Tryz.ntmps119
  go_upto_region 22 with fail
  rw [← hw1]
  clear hw1
  go_wp2_with (go_at_call 124; refine HByx.out.mono ?_; rintro e w9 hp; go_must (obtain ⟨A', n', c', rfl⟩ := HF.out e w9 hp); have HP := Lib.hid (HQ.out _ _ hp); clear hp)
  exact HP.out
set_option maxRecDepth 100000 in
set_option maxHeartbeats 4000000 in
theorem value_2 (hm : Am w G a Ap cp Ac cc) (hp : nsz a.path ≤ 100000) : Calls Tryz.prog 119 #[.agg (atc a Ap cp Ac cc).toArray, .int .i64 2] w (RetB (pathB a.path) w) := by
  have HX := Lib.hid (VX.new w a Ap cp Ac cc)
  have HBy : Hid (∀ (w' : World) (l : List UInt8), Wtr w' (w.heap.size + 1) (w.heap.size + 1) l → l.length ≤ 400000 → Below w.heap.size w w' → Calls Tryz.prog 124 #[.pointer (some ⟨w.heap.size + 1, 0, none⟩)] w' fun e w2 => RetB l w e w2) := fun w' l h1 h2 h3 => (BytesB_any _ _ l w' h1 (by omega)).mono fun e w2 h => h.up h3
  obtain ⟨w1, hw1⟩ : ∃ w1, w1 = (w.alloc (.cells (atc a Ap cp Ac cc).toArray 26)).alloc (.cells #[.slice none 0 0] 127) := ⟨_, rfl⟩
  rw [← hw1] at HX
  have HF : Hid (∀ e w', RetB (pathB a.path) w e w' → ∃ A n c, e = .returned (.slice A n c)) := fun e w' => by
    rintro ⟨A, c, h, _⟩
    exact ⟨A, _, c, h⟩
  obtain ⟨Q, hQ⟩ : ∃ Q, Q = RetB (pathB a.path) w := ⟨_, rfl⟩
  have HQ : Hid (∀ e w', RetB (pathB a.path) w e w' → Q e w') := fun e w' h => by rw [hQ]; exact h
  rw [← hQ]
  clear hQ
  have q1 : w1.cell? ⟨w.heap.size, 2, none⟩ = some (.slice Ap a.path.length cp) := HX.out.cell (Below.refl _ _) 2 rfl
  have hm' := (hm.mono (H := fun k => k < w.heap.size) fun k hk _ => hk).bel HX.out.bel
  have HE := Lib.hid hm'.sp.els
  have hll := nsz_len a.path
  have hpb := pathB_len a.path
  clear hm hm'
  generalize a.path = l at *
  generalize atc a Ap cp Ac cc = cs at *
  go_enter Tryz.func119, Tryz.ntmps119
  go_upto_region 6 with fail
  rw [← hw1]
  clear hw1
  go_wp2_with fail
  go_loopw [22] (fun v22 wr => ∃ i : Nat, i ≤ l.length ∧ v22 = .int .i64 i ∧ Wtr wr (w.heap.size + 1) (w.heap.size + 1) (pathB (l.take i)) ∧ Below (w.heap.size + 1) w1 wr) (fun v22 _ => l.length - (intOf v22).toNat)
  case atStart => exact ⟨0, by omega, rfl, HX.out.wr, Below.refl _ _⟩
  case round =>
    obtain ⟨i, hi, rfl, hwr, hb⟩ := hrel
    have HWr := Lib.hid hwr
    have HB := Lib.hid hb
    clear hwr hb
    by_cases hlt : i < l.length
    · have hn := nsz_at hlt
      obtain ⟨b, off, cs2, rfl, hgb, hbl, hrr, hc⟩ := HE.out.at_ keeps_seg hlt
      obtain ⟨A1, c1, rfl, hkw, hA1, hc1, hm1, hu1, hw1⟩ := seg_at hrr
      have q2 := (HB.out.cell (p := ⟨b, off + i * 2 + 0, none⟩) (Nat.lt_succ_of_lt hgb)).trans (hc 0 _ rfl)
      have q3 := (HB.out.cell (p := ⟨b, off + i * 2 + 1, none⟩) (Nat.lt_succ_of_lt hgb)).trans (hc 1 _ rfl)
      rw [Nat.add_zero] at q2
      have hi1 : (i : Int) < (l.length : Int) := by omega
      have hbs : (pathB (l.take i)).length + 4 * (1 + l[i].2.length) ≤ 4 * nsz l := by have := pathB_len (l.take i); omega
      have HNe : Hid (pathB (l.take i) ++ [octet.byteOf l[i].1] ++ [octet.byteOf (l[i].2.length : Int)] ++ n4s l[i].2 = pathB (l.take (i + 1))) := by
        rw [Hid, List.take_succ_eq_append_getElem hlt, pathB_app]
        simp [pathB, segB]
      obtain ⟨wa, hwa⟩ : ∃ wa, wa = wr.alloc (.cells #[.int .i64 l[i].1, .slice A1 l[i].2.length c1] 67) := ⟨_, rfl⟩
      have HBa : Hid (Below (w.heap.size + 1) w1 wa) := by rw [hwa]; exact HB.out.alloc HWr.out.base _
      have HWa : Hid (Wtr wa (w.heap.size + 1) (w.heap.size + 1) (pathB (l.take i))) := by rw [hwa]; exact HWr.out.alloc _
      have HKa : Hid (Bk wa wr.heap.size 67 #[.int .i64 l[i].1, .slice A1 l[i].2.length c1]) := by rw [hwa]; exact Bk.new wr _ _
      have HSep : Hid (∀ w2, Only wa.drew w2 (w.heap.size + 1) → w2.cell? ⟨wr.heap.size, 0, none⟩ = some (.int .i64 l[i].1) ∧ w2.cell? ⟨wr.heap.size, 1, none⟩ = some (.slice A1 l[i].2.length c1)) := fun w2 ho => by
        have hs : Sep wa.drew (w.heap.size + 1) wr.heap.size := HWr.out.sep (Nat.le_refl _) (by rw [hwa]; exact ((Below.refl _ _).alloc (Nat.le_refl _) _).drew)
        have hk : Bk w2 wr.heap.size 67 #[.int .i64 l[i].1, .slice A1 l[i].2.length c1] := (ho.block _ HKa.out.lt hs).1.trans HKa.out
        exact ⟨(hk.cell 0).trans rfl, (hk.cell 1).trans rfl⟩
      have HWd : Hid (Wtr wa.drew (w.heap.size + 1) (w.heap.size + 1) (pathB (l.take i))) := HWa.out.below (Below.refl _ _).drew
      have HU1 := Lib.hid (U8_any _ _ (pathB (l.take i)) l[i].1 wa.drew HWd.out (by omega))
      have HU2 : Hid (∀ w', Wtr w' (w.heap.size + 1) (w.heap.size + 1) (pathB (l.take i) ++ [octet.byteOf l[i].1]) → Calls Tryz.prog 120 #[.pointer (some ⟨w.heap.size + 1, 0, none⟩), .int .i64 (l[i].2.length : Int)] w' fun e w2 => e = .returned (.pointer (some ⟨w.heap.size + 1, 0, none⟩)) ∧ Wtr w2 (w.heap.size + 1) (w.heap.size + 1) (pathB (l.take i) ++ [octet.byteOf l[i].1] ++ [octet.byteOf (l[i].2.length : Int)]) ∧ Only w' w2 (w.heap.size + 1)) := fun w' h => U8_any _ _ _ _ w' h (by simp; omega)
      have HNu : Hid (∀ w', Below (w.heap.size + 1) w1 w' → Wtr w' (w.heap.size + 1) (w.heap.size + 1) (pathB (l.take i) ++ [octet.byteOf l[i].1] ++ [octet.byteOf (l[i].2.length : Int)]) → Calls Tryz.prog 138 #[.pointer (some ⟨w.heap.size + 1, 0, none⟩), .slice A1 l[i].2.length c1] w' fun e w2 => e = .returned (.tuple #[]) ∧ Wtr w2 (w.heap.size + 1) (w.heap.size + 1) (pathB (l.take i) ++ [octet.byteOf l[i].1] ++ [octet.byteOf (l[i].2.length : Int)] ++ n4s l[i].2) ∧ Below (w.heap.size + 1) w' w2) := fun w' hb h => numbers_any _ _ _ A1 c1 l[i].2 (fun k => k < w.heap.size) w' h (by simp; omega) hw1 ⟨hA1, hc1, hm1, Rg.chg (F := fun k => w.heap.size + 1 ≤ k) hu1 ⟨hb.os, hb.tape, hb.output, hb.size, fun k _ hk => hb.block k (by omega)⟩ (fun k _ hk => by omega)⟩ (fun k hk => Nat.lt_succ_of_lt hk)
      have HS0 : Hid (wa.cell? ⟨wr.heap.size, 0, none⟩ = some (.int .i64 l[i].1) ∧ wa.cell? ⟨wr.heap.size, 1, none⟩ = some (.slice A1 l[i].2.length c1)) := ⟨(HKa.out.cell 0).trans rfl, (HKa.out.cell 1).trans rfl⟩
      have HSd : Hid (wa.drew.cell? ⟨wr.heap.size, 0, none⟩ = some (.int .i64 l[i].1) ∧ wa.drew.cell? ⟨wr.heap.size, 1, none⟩ = some (.slice A1 l[i].2.length c1)) := HS0.out
      clear hc hrr hgb hbl hkw hA1 hc1 hm1 hu1 hw1 hbs
      generalize pathB (l.take i) = pb at *
      generalize n4s l[i].2 = nb at *
      generalize l[i].1 = kd at *
      generalize l[i].2.length = n1 at *
      go_upto_region 9 with fail
      rw [← hwa]
      clear hwa
      go_region_held3 (fun w' => w'.cell? ⟨wr.heap.size, 0, none⟩ = some (.int .i64 kd) ∧ w'.cell? ⟨wr.heap.size, 1, none⟩ = some (.slice A1 n1 c1)) (first | exact HS4.out | exact HS3.out | exact HSd.out | exact HS0.out) (first
        | (go_at_call 120; (with_reducible refine HU1.out.mono ?_); rintro e w3 ⟨rfl, h1, h2⟩; go_must (have HO3 := Lib.hid h2); go_must (have HS3 := Lib.hid (HSep.out w3 h2)); go_must (have HUx := Lib.hid (HU2.out w3 h1)); go_must (have HB3 := Lib.hid (HBa.out.drew.trans (HWd.out.only h2))); go_must (have HW3 := Lib.hid h1); clear h1 h2)
        | (go_at_call 120; (with_reducible refine HUx.out.mono ?_); rintro e w4 ⟨rfl, h1, h2⟩; go_must (have HS4 := Lib.hid (HSep.out w4 (HO3.out.trans h2))); go_must (have HB4 := Lib.hid (HB3.out.trans (HW3.out.only h2))); go_must (have HNx := Lib.hid (HNu.out w4 HB4.out h1)); clear h1 h2))
      obtain ⟨z0, z1⟩ := HS4.out
      go_wp2_with (go_at_call 138; refine HNx.out.mono ?_; rintro e w5 ⟨rfl, h1, h2⟩; have HW5 := Lib.hid h1; have HB5 := Lib.hid (HB4.out.trans h2); clear h1 h2)
      go_roundw
      case rel => exact ⟨i + 1, by omega, by go_num, by rw [← HNe.out]; exact HW5.out, HB5.out⟩
      case measure => simp [intOf]; omega
    · obtain rfl : i = l.length := by omega
      rw [List.take_length] at HWr
      have HByx := Lib.hid (HBy.out wr _ HWr.out (by omega) (HX.out.bel.trans (HB.out.mono (Nat.le_succ _))))
      go_wp2_with (go_at_call 124; refine HByx.out.mono ?_; rintro e w9 hp; go_must (obtain ⟨A', n', c', rfl⟩ := HF.out e w9 hp); have HP := Lib.hid (HQ.out _ _ hp); clear hp)
      exact HP.out
end
theorem value_any (a : Atr) (Ap Ac : Option Addr) (cp cc : Nat) (G : Foot) (k : Nat) (h1 : 1 ≤ k) (h8 : k ≤ 8) (w : World) (hm : Am w G a Ap cp Ac cc) (hp : nsz a.path ≤ 100000) (hc : a.comms.length ≤ 100000) :
    Calls Tryz.prog 119 #[.agg (atc a Ap cp Ac cc).toArray, .int .i64 (k : Int)] w (RetB (valB a k) w) := by
  have h : k = 1 ∨ k = 2 ∨ k = 3 ∨ k = 4 ∨ k = 5 ∨ k = 6 ∨ k = 7 ∨ k = 8 := by omega
  rcases h with rfl | rfl | rfl | rfl | rfl | rfl | rfl | rfl
  · exact value_1 w a Ap Ac cp cc G hm
  · exact value_2 w a Ap Ac cp cc G hm hp
  · exact value_3 w a Ap Ac cp cc G hm
  · exact value_4 w a Ap Ac cp cc G hm
  · exact value_5 w a Ap Ac cp cc G hm
  · exact value_6 w a Ap Ac cp cc
  · exact value_7 w a Ap Ac cp cc G hm
  · exact value_8 w a Ap Ac cp cc G hm hc
end Go.Proofs.YtbljhjfaimnieaaGreat.attr
