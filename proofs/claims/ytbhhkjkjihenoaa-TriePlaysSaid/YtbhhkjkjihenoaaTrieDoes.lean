/- What confluencelaw14.does returns: true, and tree and rows are of the same again. Condition: at most a thousand keys. -/
import Derived.Test.YtbhhkjkjihenoaaTrieRefAny
import Derived.Test.YtbhhkjkjihenoaaPfxRef0
namespace Go.Proofs.Ytbhhkjkjihenoaa.tri
open T
open Go.RowKit Go.Proofs.Ytbhhkjkjihenoaa.kit Go.Proofs.Ytbhhkjkjihenoaa.mem Go.Proofs.Ytbhhkjkjihenoaa.foot Go.Proofs.Ytbhhkjkjihenoaa.pfx
set_option linter.unusedVariables false
set_option linter.unusedSimpArgs false

section
variable {w w1 : World} {g k : Nat} {t : TypeId} {a b x y : Value} {cs : Array Value}
theorem Doe.second (w : World) (o : Obj) (t : TypeId) (cs : Array Value) : Bk ((w.alloc o).alloc (.cells cs t)) (w.heap.size + 1) t cs := by have := Bk.new (w.alloc o) t cs; rwa [World.size_alloc] at this
end
/-- done: true was told, both are of the same -/
def DoesP (B tr : Nat) (t : T) (w : World) (e : Ending) (w' : World) : Prop := ∃ t' A' c', e = .returned (.tuple #[.slice A' t'.rows.length c', .bool true]) ∧ Play B w' tr t' A' c' ∧ t'.cnt ≤ t.cnt + 1 ∧ Below B w w'

set_option maxRecDepth 100000 in
set_option maxHeartbeats 4000000 in
theorem does_any (B tr : Nat) (t : T) (A : Option Addr) (c : Nat) (kind v : Int) (pa : Nat) (pn : Int) (w : World) (hP : Play B w tr t A c) (hB : B ≤ w.heap.size) (hc : t.cnt ≤ 1000) (ha : pa < 4294967296) (hv0 : -9223372036854775808 ≤ v) (hv1 : v ≤ 9223372036854775807) :
    Calls Try.prog 15 #[.pointer (some ⟨tr, 0, none⟩), .slice A t.rows.length c, .agg #[.int .i64 kind, .int .i64 v, .int .u32 pa, .int .i64 pn]] w (DoesP B tr t w) := by
  have HB := Lib.hid hB
  have HA := Lib.hid ha
  have HC := Lib.hid hc
  have HP := Lib.hid hP
  obtain ⟨n, hn⟩ : ∃ n, n = t.rows.length := ⟨_, rfl⟩
  have hnle : n ≤ 1000 := by rw [hn]; exact hc
  have HN := Lib.hid hn
  rw [← hn]
  clear hP hB hc ha hn
  generalize hQ : DoesP B tr t w = Q at *
  have HQ := Lib.hid hQ
  clear hQ
  go_enter Try.func15, Try.ntmps15
  have h5 : (kind = 2 ∧ n ≠ 0 ∧ 0 ≤ v) ∨ (kind = 2 ∧ n ≠ 0 ∧ ¬ 0 ≤ v) ∨ (kind = 2 ∧ n = 0) ∨ kind = 1 ∨ (kind ≠ 2 ∧ kind ≠ 1) := by omega
  rcases h5 with ⟨rfl, hn0, hvn⟩ | ⟨rfl, hn0, hvn⟩ | ⟨rfl, rfl⟩ | rfl | ⟨hk2, hk1⟩
  case' inl =>
    obtain ⟨j, hj⟩ : ∃ j : Nat, (j : Int) = v % (n : Int) := ⟨(v % (n : Int)).toNat, by have := Int.emod_nonneg v (show (n : Int) ≠ 0 by omega); omega⟩
    have hjn : j < n := by have := Int.emod_lt_of_pos v (show 0 < (n : Int) by omega); omega
    have hjr : v % (n : Int) = (j : Int) := hj.symm
    have hjl : j < t.rows.length := by rw [← HN.out]; exact hjn
    obtain ⟨x0, x1, x2⟩ := rv_at t.rows j hjl
    obtain ⟨b, off, rfl, hb, _, c0⟩ := HP.out.row.cell hjl (by omega) x0
    obtain ⟨b', off', e', _, _, c1⟩ := HP.out.row.cell hjl (by omega) x1
    cases e'
    have hji : (j : Int) < (n : Int) := by omega
    have hsh := HP.out.short t.rows[j] (List.getElem_mem hjl)
    clear x0 x1 x2 hj
    have q0 : w.cell? ⟨b, off + j * 3, none⟩ = some (.int .u32 (adr t.rows[j].1 : Int)) := c0
    have q1 : w.cell? ⟨b, off + j * 3 + 1, none⟩ = some (.int .i64 (t.rows[j].1.length : Int)) := c1
    clear c0 c1
    generalize t.rows[j].1 = kj at *
    go_wp2_with fail
    generalize (some ⟨b, off, none⟩ : Option Addr) = A at *
    obtain ⟨w2, hw2⟩ : ∃ w2, w2 = ((w.alloc (.cells #[.int .i64 2, .int .i64 v, .int .u32 (pa : Int), .int .i64 pn] 32)).alloc (.cells #[.int .u32 (adr kj : Int), .int .i64 (kj.length : Int)] 30)) := ⟨_, rfl⟩
    rw [← hw2]
    have HBw : Hid (Below w.heap.size w w2) := by rw [hw2]; exact (Go.Joins.below_alloc2 w _ _)
    have KA : Hid (Bk w2 w.heap.size 32 #[.int .i64 2, .int .i64 v, .int .u32 (pa : Int), .int .i64 pn]) := by rw [hw2]; exact ((Bk.new w _ _).alloc _)
    have KP : Hid (Bk w2 (w.heap.size + 1) 30 #[.int .u32 (((adr kj) : Nat) : Int), .int .i64 (kj.length : Int)]) := by rw [hw2]; exact (Doe.second w _ _ _)
    obtain ⟨qa, hqa⟩ : ∃ qa : Nat, qa = (adr kj) := ⟨_, rfl⟩
    obtain ⟨qn, hqn⟩ : ∃ qn : Int, qn = (kj.length : Int) := ⟨_, rfl⟩
    have HA' : Hid (qa < 4294967296) := by rw [hqa]; exact adr_lt hsh
    rw [← hqa, ← hqn] at KP ⊢
    clear hw2 hqa hqn
  case' inr.inl =>
    have hvd : decide ((0 : Int) ≤ v) = false := by simp; omega
    go_wp2_with fail
    obtain ⟨w2, hw2⟩ : ∃ w2, w2 = ((w.alloc (.cells #[.int .i64 2, .int .i64 v, .int .u32 (pa : Int), .int .i64 pn] 32)).alloc (.cells #[.int .u32 (pa : Int), .int .i64 pn] 30)) := ⟨_, rfl⟩
    rw [← hw2]
    have HBw : Hid (Below w.heap.size w w2) := by rw [hw2]; exact (Go.Joins.below_alloc2 w _ _)
    have KA : Hid (Bk w2 w.heap.size 32 #[.int .i64 2, .int .i64 v, .int .u32 (pa : Int), .int .i64 pn]) := by rw [hw2]; exact ((Bk.new w _ _).alloc _)
    have KP : Hid (Bk w2 (w.heap.size + 1) 30 #[.int .u32 ((pa : Nat) : Int), .int .i64 pn]) := by rw [hw2]; exact (Doe.second w _ _ _)
    obtain ⟨qa, hqa⟩ : ∃ qa : Nat, qa = pa := ⟨_, rfl⟩
    obtain ⟨qn, hqn⟩ : ∃ qn : Int, qn = pn := ⟨_, rfl⟩
    have HA' : Hid (qa < 4294967296) := by rw [hqa]; exact HA.out
    rw [← hqa, ← hqn] at KP ⊢
    clear hw2 hqa hqn
  case' inr.inr.inl =>
    go_wp2_with fail
    obtain ⟨w2, hw2⟩ : ∃ w2, w2 = ((w.alloc (.cells #[.int .i64 2, .int .i64 v, .int .u32 (pa : Int), .int .i64 pn] 32)).alloc (.cells #[.int .u32 (pa : Int), .int .i64 pn] 30)) := ⟨_, rfl⟩
    rw [← hw2]
    have HBw : Hid (Below w.heap.size w w2) := by rw [hw2]; exact (Go.Joins.below_alloc2 w _ _)
    have KA : Hid (Bk w2 w.heap.size 32 #[.int .i64 2, .int .i64 v, .int .u32 (pa : Int), .int .i64 pn]) := by rw [hw2]; exact ((Bk.new w _ _).alloc _)
    have KP : Hid (Bk w2 (w.heap.size + 1) 30 #[.int .u32 ((pa : Nat) : Int), .int .i64 pn]) := by rw [hw2]; exact (Doe.second w _ _ _)
    obtain ⟨qa, hqa⟩ : ∃ qa : Nat, qa = pa := ⟨_, rfl⟩
    obtain ⟨qn, hqn⟩ : ∃ qn : Int, qn = pn := ⟨_, rfl⟩
    have HA' : Hid (qa < 4294967296) := by rw [hqa]; exact HA.out
    rw [← hqa, ← hqn] at KP ⊢
    clear hw2 hqa hqn
  case' inr.inr.inr.inl =>
    go_wp2_with fail
    obtain ⟨w2, hw2⟩ : ∃ w2, w2 = ((w.alloc (.cells #[.int .i64 1, .int .i64 v, .int .u32 (pa : Int), .int .i64 pn] 32)).alloc (.cells #[.int .u32 (pa : Int), .int .i64 pn] 30)) := ⟨_, rfl⟩
    rw [← hw2]
    have HBw : Hid (Below w.heap.size w w2) := by rw [hw2]; exact (Go.Joins.below_alloc2 w _ _)
    have KA : Hid (Bk w2 w.heap.size 32 #[.int .i64 1, .int .i64 v, .int .u32 (pa : Int), .int .i64 pn]) := by rw [hw2]; exact ((Bk.new w _ _).alloc _)
    have KP : Hid (Bk w2 (w.heap.size + 1) 30 #[.int .u32 ((pa : Nat) : Int), .int .i64 pn]) := by rw [hw2]; exact (Doe.second w _ _ _)
    obtain ⟨qa, hqa⟩ : ∃ qa : Nat, qa = pa := ⟨_, rfl⟩
    obtain ⟨qn, hqn⟩ : ∃ qn : Int, qn = pn := ⟨_, rfl⟩
    have HA' : Hid (qa < 4294967296) := by rw [hqa]; exact HA.out
    rw [← hqa, ← hqn] at KP ⊢
    clear hw2 hqa hqn
  case' inr.inr.inr.inr =>
    have hkk : (kind == (2 : Int)) = false := by simpa using hk2
    have hkk1 : (kind == (1 : Int)) = false := by simpa using hk1
    go_wp2_with fail
    obtain ⟨w2, hw2⟩ : ∃ w2, w2 = ((w.alloc (.cells #[.int .i64 kind, .int .i64 v, .int .u32 (pa : Int), .int .i64 pn] 32)).alloc (.cells #[.int .u32 (pa : Int), .int .i64 pn] 30)) := ⟨_, rfl⟩
    rw [← hw2]
    have HBw : Hid (Below w.heap.size w w2) := by rw [hw2]; exact (Go.Joins.below_alloc2 w _ _)
    have KA : Hid (Bk w2 w.heap.size 32 #[.int .i64 kind, .int .i64 v, .int .u32 (pa : Int), .int .i64 pn]) := by rw [hw2]; exact ((Bk.new w _ _).alloc _)
    have KP : Hid (Bk w2 (w.heap.size + 1) 30 #[.int .u32 ((pa : Nat) : Int), .int .i64 pn]) := by rw [hw2]; exact (Doe.second w _ _ _)
    obtain ⟨qa, hqa⟩ : ∃ qa : Nat, qa = pa := ⟨_, rfl⟩
    obtain ⟨qn, hqn⟩ : ∃ qn : Int, qn = pn := ⟨_, rfl⟩
    have HA' : Hid (qa < 4294967296) := by rw [hqa]; exact HA.out
    rw [← hqa, ← hqn] at KP ⊢
    clear hw2 hqa hqn
  all_goals
    have HB2 : Hid (B ≤ w2.heap.size) := Nat.le_trans HB.out HBw.out.size
    have HP2 := Lib.hid (HP.out.bel HBw.out)
    obtain ⟨o, ho⟩ : ∃ o, o = kyOf qa qn := ⟨_, rfl⟩
    have HO := Lib.hid ho
    obtain ⟨z, hz⟩ : ∃ z, z = atI t.rows o := ⟨_, rfl⟩
    have HAt := Lib.hid (At_any B t.rows A c qa qn o z w2 (by have := HN.out; omega) HP2.out.short HA'.out ho hz HP2.out.row)
    rw [← HN.out] at HAt
    have HT := Lib.hid (at_tells HP2.out.wf o)
    rw [← hz] at HT
    have p0 := KP.out.cell 0
    have p1 := KP.out.cell 1
    simp at p0 p1
    clear ho hz
    refine HAt.out.mono ?_; rintro e w3 ⟨rfl, hb⟩
    have HBw3 : Hid (Below w.heap.size w w3) := HBw.out.trans (hb.mono HBw.out.size)
    have KA3 := Lib.hid (KA.out.below hb KA.out.lt)
    have KP3 := Lib.hid (KP.out.below hb KP.out.lt)
    have HP3 := Lib.hid (HP2.out.bel hb)
    have p0 := KP3.out.cell 0
    have p1 := KP3.out.cell 1
    have k0 := KA3.out.cell 0
    have k1 := KA3.out.cell 1
    simp at p0 p1 k0 k1
    have lA := KA3.out.lt
    have lP := KP3.out.lt
    clear hb HAt HP2 HB2 KA KP HP3
    obtain ⟨F, hT3, hSt⟩ := HP.out.tree2 HBw3.out HB.out
    have HSt := Lib.hid hSt
    have HT3 := Lib.hid hT3
    have HB3 : Hid (B ≤ w3.heap.size) := Nat.le_trans HB.out HBw3.out.size
    clear hSt hT3
  case inr.inr.inr.inr =>
    have HPt := Lib.hid (PutX qa qn v o w3 HA'.out HO.out HT3.out HP.out.wf (by have := HC.out; omega))
    have HGd := Lib.hid (fun w => ref_Good qa qn HA'.out w)
    rcases o with _ | p
    · rcases HT.out with ⟨rfl, hh, hw⟩ | ⟨i, hi, e, hh, hw⟩
      · have hg := kyOf_none HO.out.symm
        simp only [hg] at HGd
        rw [hh, hw] at HPt
        clear hg hh hw
        go_wp2_with fail
        refine HPt.out.mono ?_; rintro e w4 ⟨rfl, hS⟩
        obtain ⟨hBl, hR4, hK4, hfin⟩ := HSt.out _ _ hS
        have HB4 : Hid (B ≤ w4.heap.size) := by have := HB3.out; have := hBl.size; rw [Hid]; omega
        have HBl := Lib.hid hBl
        have HR4 := Lib.hid hR4
        have HF4 := Lib.hid hfin
        have KP4 := Lib.hid (hK4 _ _ _ (Nat.le_succ _) KP3.out)
        have p0 := KP4.out.cell 0
        have p1 := KP4.out.cell 1
        simp at p0 p1
        have lP4 := KP4.out.lt
        clear hS hBl hR4 hK4 hfin
        go_wp2_with fail
        refine (HGd.out _).mono ?_; rintro e w5 ⟨rfl, hb5⟩
        have HD : Hid (DoesP B tr t w (.returned (.tuple #[.slice A n c, .bool true])) w5) := ⟨t, A, c, by rw [HN.out], HF4.out _ _ _ HP.out.wf hb5 (HR4.out.bel hb5) (fun x hx => .inl hx), Nat.le_succ _, (HBw3.out.mono HB.out).trans (HBl.out.trans (hb5.mono HB4.out))⟩
        rw [HQ.out] at HD
        clear hb5
        go_wp2_with fail
        exact HD.out
      · cases hh
    · obtain ⟨hg, hp, rfl, rfl⟩ := kyOf_some HA'.out HO.out.symm
      simp only [hg] at HGd
      rcases HT.out with ⟨rfl, hh, hw⟩ | ⟨i, hi, rfl, hh, hw⟩
      case' inr =>
        have hij := hi
        rw [← HN.out] at hij
        have hii := Int.ofNat_lt.2 hij
        obtain ⟨_, _, x2⟩ := rv_at t.rows i hi
        obtain ⟨bb, oo, rfl, hb, _, c2⟩ := (HP.out.row.bel HBw3.out).cell hi (by omega) x2
        have hsp : Hid (wasX t (some p) = t.rows[i].2) := hw
        clear x2 hw
        generalize t.rows[i].2 = x at *
        have hw := hsp.out
      all_goals
        rw [hh, hw] at HPt
        clear hh hw hg
        go_wp2_with fail
        refine HPt.out.mono ?_; rintro e w4 ⟨rfl, hS⟩
        obtain ⟨hBl, hR4, hK4, hfin⟩ := HSt.out _ _ hS
        have HB4 : Hid (B ≤ w4.heap.size) := by have := HB3.out; have := hBl.size; rw [Hid]; omega
        have HBl := Lib.hid hBl
        have HR4 := Lib.hid hR4
        have HF4 := Lib.hid hfin
        have KP4 := Lib.hid (hK4 _ _ _ (Nat.le_succ _) KP3.out)
        have KA4 := Lib.hid (hK4 _ _ _ (Nat.le_refl _) KA3.out)
        have p0 := KP4.out.cell 0
        have p1 := KP4.out.cell 1
        simp at p0 p1
        have lP4 := KP4.out.lt
        clear hS hBl hR4 hK4 hfin
        go_wp2_with fail
        refine (HGd.out _).mono ?_; rintro e w5 ⟨rfl, hb5⟩
        have KP5 := Lib.hid (KP4.out.below hb5 KP4.out.lt)
        have KA5 := Lib.hid (KA4.out.below hb5 KA4.out.lt)
        have HR5 := Lib.hid (HR4.out.bel hb5)
        have HB5 : Hid (B ≤ w5.heap.size) := Nat.le_trans HB4.out hb5.size
        have HRp := Lib.hid (refPut_any B t.rows _ c p v w5 (by have := HN.out; omega) HP.out.short (rows_sorted HP.out.wf) hp HR5.out HB5.out)
        rw [← put_rows HP.out.wf, ← HN.out] at HRp
        have p0 := KP5.out.cell 0
        have p1 := KP5.out.cell 1
        have k1 := KA5.out.cell 1
        simp at p0 p1 k1
        have lP5 := KP5.out.lt
        have lA5 := KA5.out.lt
        have HB45 := Lib.hid hb5
        clear hb5
        go_wp2_with fail
        refine HRp.out.mono ?_; rintro e w6 ⟨A', c', rfl, hr6, hx6, hb6⟩
        have HD : Hid (DoesP B tr t w (.returned (.tuple #[.slice A' (putX t (some p) v).rows.length c', .bool true])) w6) := ⟨putX t (some p) v, A', c', rfl, HF4.out _ _ _ (putX_wf HP.out.wf _ _) (HB45.out.trans (hb6.mono HB45.out.size)) hr6 (fun x hx => (hx6 x hx).imp id fun e => by have := HB45.out.size; omega), putX_cnt t _ v, (HBw3.out.mono HB.out).trans (HBl.out.trans ((HB45.out.trans (hb6.mono HB45.out.size)).mono HB4.out))⟩
        rw [HQ.out] at HD
        clear hr6 hx6 hb6
        go_wp2_with fail
        exact HD.out
  all_goals
    have HCt := Lib.hid (CutX qa qn o w3 HA'.out HO.out HT3.out HP.out.wf (by have := HC.out; omega))
    rcases HT.out with ⟨rfl, hh, hw⟩ | ⟨i, hi, rfl, hh, hw⟩
    case' inr =>
      have hij := hi
      rw [← HN.out] at hij
      first
        | exact absurd hij (Nat.not_lt_zero _)
        | (have hii := Int.ofNat_lt.2 hij
           obtain ⟨_, _, x2⟩ := rv_at t.rows i hi
           obtain ⟨bb, oo, rfl, hb, _, c2⟩ := (HP.out.row.bel HBw3.out).cell hi (by omega) x2
           have hsp : Hid (wasX t o = t.rows[i].2) := hw
           clear x2 hw
           generalize t.rows[i].2 = x at *
           have hw := hsp.out)
    all_goals
      rw [hh, hw] at HCt
      clear hh hw
      go_wp2_with fail
      refine HCt.out.mono ?_; rintro e w4 ⟨rfl, hS⟩
      obtain ⟨hBl, hR4, hK4, hfin⟩ := HSt.out _ _ hS
      have HB4 : Hid (B ≤ w4.heap.size) := by have := HB3.out; have := hBl.size; rw [Hid]; omega
      have HBl := Lib.hid hBl
      have HR4 := Lib.hid hR4
      have HF4 := Lib.hid hfin
      have KP4 := Lib.hid (hK4 _ _ _ (Nat.le_succ _) KP3.out)
      have HRc := Lib.hid (refCut_any B t.rows _ c qa qn o w4 (by have := HN.out; omega) HP.out.short HA'.out HO.out hR4 HB4.out)
      rw [← cut_rows HP.out.wf, ← HN.out] at HRc
      have p0 := KP4.out.cell 0
      have p1 := KP4.out.cell 1
      simp at p0 p1
      have lP4 := KP4.out.lt
      clear hS hBl hR4 hK4 hfin
      go_wp2_with fail
      refine HRc.out.mono ?_; rintro e w5 ⟨A', c', rfl, hr5, hx5, hb5⟩
      have HD : Hid (DoesP B tr t w (.returned (.tuple #[.slice A' (cutX t o).rows.length c', .bool true])) w5) := ⟨cutX t o, A', c', rfl, HF4.out _ _ _ (cutX_wf HP.out.wf _) hb5 hr5 hx5, Nat.le_trans (cutX_cnt t o) (Nat.le_succ _), (HBw3.out.mono HB.out).trans (HBl.out.trans (hb5.mono HB4.out))⟩
      rw [HQ.out] at HD
      clear hr5 hx5 hb5
      go_wp2_with fail
      exact HD.out
end Go.Proofs.Ytbhhkjkjihenoaa.tri
