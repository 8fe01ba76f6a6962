/- What fsm's Run returns (the walk). Condition: at most ten events. -/
import Derived.Test.YtbhhkjkjihenoaaFsmRunL
import Derived.OwnWalk
namespace Go.Proofs.Ytbhhkjkjihenoaa.fsm
open Go.RowKit Go.Proofs.Ytbhhkjkjihenoaa.kit Go.Proofs.Ytbhhkjkjihenoaa.mem Go.Proofs.Ytbhhkjkjihenoaa.foot
set_option linter.unusedVariables false
set_option linter.unusedSimpArgs false

theorem flat_at : ∀ (l : List (List Value)) (i j : Nat) (e : List Value) (u : Value), (∀ x ∈ l, x.length = 23) → l[i]? = some e → e[j]? = some u → l.flatten[i * 23 + j]? = some u
  | x :: l, 0, j, e, u, hl, hi, hj => by
    cases hi
    rw [List.flatten_cons, Nat.zero_mul, Nat.zero_add, List.getElem?_append_left (List.getElem?_eq_some_iff.1 hj).1]
    exact hj
  | x :: l, i + 1, j, e, u, hl, hi, hj => by
    have hx := hl x (by simp)
    rw [List.flatten_cons, List.getElem?_append_right (by omega)]
    have := flat_at l i j e u (fun y hy => hl y (by simp [hy])) (by simpa using hi) hj
    rw [← this]
    congr 1
    omega
theorem row_at {w : World} {G : Foot} {A : Option Addr} {n : Nat} {l : List (List Value)} (h : Rg w G 23 A n l.flatten) (hn : 0 < n) (hl : ∀ x ∈ l, x.length = 23) : ∃ b off, A = some ⟨b, off, none⟩ ∧ b < w.heap.size ∧ ∀ i e, l[i]? = some e → w.rangeAt b (off + i * 23) e := by
  obtain ⟨b, off, e, _, hlt, hc⟩ := h.2 hn
  refine ⟨b, off, e, hlt, fun i e he j u hu => ?_⟩
  rw [Nat.add_assoc]
  exact hc _ _ (flat_at l i j e u hl he hu)
theorem range_bel {w w' : World} {b o : Nat} {cs : List Value} (h : w.rangeAt b o cs) (hb : Below w.heap.size w w') (hlt : b < w.heap.size) : w'.rangeAt b o cs := fun j v hj => by
  rw [hb.cell (p := ⟨b, o + j, none⟩) hlt]
  exact h j v hj
theorem Runs.split {s : Sd} {f f' : Fs} {e : List Value} {l : List (List Value)} {os : List Ot} (h : Runs s f (e :: l) f' os) : ∃ f1 o X os', os = o :: os' ∧ MStep s f e f1 o X ∧ e.length = 23 ∧ (∀ u ∈ e, u.oneCell' = true) ∧ Runs s f1 l f' os' := by
  cases h with
  | cons h1 h2 h3 h4 => exact ⟨_, _, _, _, rfl, h1, h2, h3, h4⟩
theorem Runs.all {s : Sd} {f f' : Fs} {l : List (List Value)} {os : List Ot} (h : Runs s f l f' os) : ∀ x ∈ l, x.length = 23 := by
  induction h with
  | nil => intro x hx; cases hx
  | cons h1 h2 h3 h4 ih =>
    intro x hx
    rcases List.mem_cons.1 hx with rfl | hx
    · exact h2
    · exact ih x hx

theorem run_handed {w wr : World} {s : Sd} {gs gf g6 n c : Nat} {f : Fs} {A : Option Addr} {xs V : List Value} (h : RI w s gs gf g6 f A n c xs wr) (hV : V.length = 9) :
    (stores wr g6 0 V).heap[g6]? = some (.cells V.toArray 70 (0, 0)) ∧ Own (stores wr g6 0 V) 76 5 A n c xs ∧ Below w.heap.size w (stores wr g6 0 V) := by
  have c1 := stores_chg (g := g6) V 0 wr
  exact ⟨stores_all V h.b6 hV, h.own.chg c1 fun k _ hk e => (h.low k hk).2.2.2 e, h.bel.trans (c1.below (fun k e => by rw [e]; exact h.ne.2.2.2) h.bel.size)⟩

set_option maxRecDepth 100000 in
set_option maxHeartbeats 2000000 in
theorem Run_any {G : Foot} {s : Sd} {f f' : Fs} {l : List (List Value)} {os : List Ot} (hR : Runs s f l f' os) (hn : l.length ≤ 10) (w : World) (A : Option Addr) (c : Nat) (hrg : Rg w G 23 A l.length l.flatten) :
    Calls Try.prog 33 #[.agg (sdV s).toArray, .agg (fsV f).toArray, .slice A l.length c] w fun r w' => ∃ A' c' xs, r = .returned (.tuple #[.agg (fsV f').toArray, .slice A' l.length c']) ∧ Own w' 76 5 A' l.length c' xs ∧ OutRows os xs ∧ (∀ k, sf A' k → w.heap.size ≤ k) ∧ Below w.heap.size w w' := by
  have hall := hR.all
  obtain ⟨w3, hw3⟩ : ∃ w3, w3 = ((w.alloc (.cells (sdV s).toArray 53)).alloc (.cells (fsV f).toArray 70)).alloc (.cells (fsV (f0 0)).toArray 70) := ⟨_, rfl⟩
  have hB3 : Below w.heap.size w w3 := by rw [hw3]; exact (((Below.refl _ _).alloc (Nat.le_refl _) _).alloc (by simp) _).alloc (by simp; omega) _
  have hk0 : Bk w3 w.heap.size 53 (sdV s).toArray := by
    rw [hw3]
    exact (Bk.new w 53 (sdV s).toArray).below (((Below.refl _ _).alloc (Nat.le_refl _) (.cells (fsV f).toArray 70)).alloc (by simp) (.cells (fsV (f0 0)).toArray 70)) (by simp)
  have hk1 : Bk w3 (w.heap.size + 1) 70 (fsV f).toArray := by
    rw [hw3]
    have h := (Bk.new (w.alloc (.cells (sdV s).toArray 53)) 70 (fsV f).toArray).below ((Below.refl _ _).alloc (Nat.le_refl _) (.cells (fsV (f0 0)).toArray 70)) (by simp)
    simpa using h
  have hk2 : Bk w3 (w.heap.size + 1 + 1) 70 (fsV (f0 0)).toArray := by
    rw [hw3]
    have h := Bk.new ((w.alloc (.cells (sdV s).toArray 53)).alloc (.cells (fsV f).toArray 70)) 70 (fsV (f0 0)).toArray
    simpa using h
  have HR0 : Hid (RI w s w.heap.size (w.heap.size + 1) (w.heap.size + 1 + 1) f none 0 0 [] w3) := ⟨hk0, hk1, hk2, Own.none_ _ _ _, fun k hk => absurd hk (sf_none k), hB3, by omega, by omega, by omega, by omega⟩
  have HRow : Hid (∀ i e, l[i]? = some e → ∃ b off, A = some ⟨b, off, none⟩ ∧ b < w.heap.size ∧ w.rangeAt b (off + i * 23) e) := fun i e he => by
    have hp : 0 < l.length := Nat.lt_of_le_of_lt (Nat.zero_le i) (List.getElem?_eq_some_iff.1 he).1
    obtain ⟨b, off, h1, h2, h3⟩ := row_at hrg hp hall
    exact ⟨b, off, h1, h2, h3 i e he⟩
  have HRun := Lib.hid hR
  obtain ⟨N, hN⟩ : ∃ N, N = l.length := ⟨_, rfl⟩
  have HN := Lib.hid hN
  have hN10 : N ≤ 10 := by omega
  rw [← hN]
  clear hR hn hrg hall hB3 hk0 hk1 hk2 hN
  obtain ⟨gf, hgf⟩ : ∃ gf, gf = w.heap.size + 1 := ⟨_, rfl⟩
  obtain ⟨g6, hg6⟩ : ∃ g6, g6 = w.heap.size + 1 + 1 := ⟨_, rfl⟩
  rw [← hg6, ← hgf] at HR0
  have hs3 : sdV s = [.int .u32 s.num, .int .u32 s.own, .int .u32 s.peer, .int .i64 s.hold, .int .i64 s.retry, .bool s.pas] := rfl
  have hf3 : fsV f = [.int .i64 f.st, .int .i64 f.hold, .int .i64 f.hl, .int .i64 f.kl, .int .i64 f.rl, .int .u32 f.p0, .int .i64 f.p1, .int .u32 f.p2, .bool f.p3] := rfl
  have hz3 : fsV (f0 0) = [.int .i64 0, .int .i64 0, .int .i64 0, .int .i64 0, .int .i64 0, .int .u32 0, .int .i64 0, .int .u32 0, .bool false] := rfl
  rw [hs3, hf3, hz3] at hw3
  rw [hs3, hf3]
  clear hs3 hf3 hz3
  go_enter Try.func33, Try.ntmps33
  go_wp2_with fail
  rw [← hw3]
  rw [← hg6, ← hgf]
  clear hw3 hg6 hgf
  have HE : Hid ((Try.prog.info? 68).map (·.size) = some 23) := info_ev
  go_loopw [8, 10, 11, 14] (fun v8 v10 v11 v14 wr => ∃ (i : Nat) (fi : Fs) (A' : Option Addr) (c' : Nat) (xs : List Value) (os1 os2 : List Ot), i ≤ N ∧ v14 = .int .i64 i ∧ v8 = .slice A' i c' ∧ os = os1 ++ os2 ∧ os1.length = i ∧ Runs s fi (l.drop i) f' os2 ∧ OutRows os1 xs ∧ RI w s w.heap.size gf g6 fi A' i c' xs wr) (fun _ _ _ v14 _ => N - (intOf v14).toNat)
  case atStart => exact ⟨0, f, none, 0, [], [], os, Nat.zero_le _, rfl, rfl, rfl, rfl, by simpa using HRun.out, OutRows.nil, HR0.out⟩
  case round =>
    obtain ⟨i, fi, A1, c1, xs, os1, os2, hi, rfl, rfl, hos, hol, hru, hor, hri⟩ := hrel
    have HRI := Lib.hid hri
    have HOr := Lib.hid hor
    have HRu := Lib.hid hru
    have HOs := Lib.hid (And.intro hos hol)
    clear hri hor hru hos hol HRun HR0
    by_cases hlt : i < N
    · obtain ⟨e, he⟩ : ∃ e, l[i]? = some e := ⟨l[i]'(by rw [← HN.out]; exact hlt), List.getElem?_eq_getElem _⟩
      have hdr : l.drop i = e :: l.drop (i + 1) := by
        obtain ⟨h1, h2⟩ := List.getElem?_eq_some_iff.1 he
        rw [List.drop_eq_getElem_cons h1, h2]
      have hru := HRu.out
      rw [hdr] at hru
      obtain ⟨f1, o1, X, os3, hos3, hM, hel, hone, hru1⟩ := hru.split
      obtain ⟨b, off, rfl, hbl, hra⟩ := HRow.out i e he
      have HRa := Lib.hid (range_bel (w' := wr) hra HRI.out.bel hbl)
      have HM := Lib.hid (fun w => step_any hel hM w)
      have HRu1 := Lib.hid hru1
      have HOs3 := Lib.hid hos3
      have HEl := Lib.hid hel
      have HOne := Lib.hid hone
      have hbs := HRI.out.bs
      have hbf := HRI.out.bf
      have ks := fun i => hbs.cell i
      have kf := fun i => hbf.cell i
      have ks1 := hbs.lt
      have kf1 := hbf.lt
      simp only [sdV] at ks
      simp only [fsV] at kf
      clear hbs hbf hru hru1 hdr hM hel hone hra hos3 he
      have HSz : Hid ((Try.prog.info? 68).map (·.size) = some e.length) := by rw [HEl.out]; exact info_ev
      have HZ : Hid (∀ w : World, Bk (w.alloc (.cells #[.int .i64 0, .int .i64 0, .int .u32 0, .int .i64 0, .int .u32 0, .bool false, .slice none 0 0, .int .i64 0, .int .i64 0, .slice none 0 0, .int .u32 0, .int .u32 0, .int .u32 0, .int .u32 0, .int .u32 0, .slice none 0 0, .slice none 0 0, .int .i64 0, .int .i64 0, .slice none 0 0, .int .i64 0, .int .i64 0, .slice none 0 0] 68)) w.heap.size 68 #[.int .i64 0, .int .i64 0, .int .u32 0, .int .i64 0, .int .u32 0, .bool false, .slice none 0 0, .int .i64 0, .int .i64 0, .slice none 0 0, .int .u32 0, .int .u32 0, .int .u32 0, .int .u32 0, .int .u32 0, .slice none 0 0, .slice none 0 0, .int .i64 0, .int .i64 0, .slice none 0 0, .int .i64 0, .int .i64 0, .slice none 0 0]) := fun w => Bk.new w _ _
      have hsa : (#[.int .i64 0, .int .i64 0, .int .u32 0, .int .i64 0, .int .u32 0, .bool false, .slice none 0 0, .int .i64 0, .int .i64 0, .slice none 0 0, .int .u32 0, .int .u32 0, .int .u32 0, .int .u32 0, .int .u32 0, .slice none 0 0, .slice none 0 0, .int .i64 0, .int .i64 0, .slice none 0 0, .int .i64 0, .int .i64 0, .slice none 0 0] : Array Value).size = e.toArray.size := (show (23 : Nat) = e.toArray.size from by rw [List.size_toArray, HEl.out])
      have HSa := Lib.hid hsa
      clear hsa
      have HAl : Hid (e.toArray.toList.all (·.oneCell') = true) := by rw [List.toList_toArray]; exact List.all_eq_true.2 HOne.out
      have HSz2 : Hid ((Try.prog.info? 68).map (·.size) = some e.toArray.size) := by rw [List.size_toArray]; exact HSz.out
      go_wp2_with (first
        | (refine wpList_load_mid rfl 68 (.tmp 16) rfl b (off + i * 23) (by rfl) e _ HRa.out Try.underlying68 (by rfl) HSz.out ?_)
        | (refine wpList_storeBk rfl 68 (.tmp 10) (.tmp 17) rfl wr.heap.size (by rfl) e.toArray (by rfl) 68 #[.int .i64 0, .int .i64 0, .int .u32 0, .int .i64 0, .int .u32 0, .bool false, .slice none 0 0, .int .i64 0, .int .i64 0, .slice none 0 0, .int .u32 0, .int .u32 0, .int .u32 0, .int .u32 0, .int .u32 0, .slice none 0 0, .slice none 0 0, .int .i64 0, .int .i64 0, .slice none 0 0, .int .i64 0, .int .i64 0, .slice none 0 0] (HZ.out wr) HSz2.out HSa.out HAl.out ?_; intro w5 h5 hc5 hs5; have hb5 : Below wr.heap.size wr w5 := ((Below.refl _ _).alloc (Nat.le_refl _) _).trans (hc5.below (fun k e => by rw [e]; exact Nat.le_refl _) (by simp)); have hri5 := HRI.out.belw hb5; have H5 := Lib.hid (And.intro h5 hb5); have hbs5 := hri5.bs; have hbf5 := hri5.bf; clear ks kf ks1 kf1; have ks := fun i => hbs5.cell i; have kf := fun i => hbf5.cell i; have ks1 := hbs5.lt; have kf1 := hbf5.lt; simp only [sdV] at ks; simp only [fsV] at kf; clear h5 hc5 hs5 hb5 hri5 hbs5 hbf5)
        | (refine wpList_loadBk rfl 68 (.tmp 10) rfl wr.heap.size (by rfl) 68 e.toArray _ (H5.out.1.below ((Below.refl _ _).alloc (Nat.le_refl _) _) H5.out.1.lt) Try.underlying68 (by rfl) HSz2.out ?_))
      refine (HM.out _).mono ?_
      rintro r w7 ⟨A7, n7, c7, rfl, _, _, hb7⟩
      have hbw : Below wr.heap.size wr w7 := (H5.out.2.alloc H5.out.2.size _).trans (hb7.mono (by have := H5.out.2.size; simp; omega))
      have hri7 := HRI.out.belw hbw
      have ho7 : Bk w7 w5.heap.size 76 #[.slice none 0 0, .bool false, .bool false, .bool false, .bool false] := (Bk.new w5 _ _).below hb7 (by simp)
      have hmid := HRI.out.mid (f1 := f1) (V := otV A7 n7 c7 o1) hbw H5.out.2.size
      have HMid := Lib.hid hmid
      have hbf7 := hri7.bf
      clear ks kf ks1 kf1
      have kf := fun i => hbf7.cell i
      have kf1 := hbf7.lt
      have kf2 := fun i => hbf7.free i
      have ko := fun i => ho7.cell i
      have ko1 := ho7.lt
      have ko2 := fun i => ho7.free i
      have hne : gf ≠ w5.heap.size := by have := HRI.out.bf.lt; have := H5.out.2.size; omega
      simp only [fsV] at kf
      clear hbw hri7 ho7 hmid hbf7 hb7 H5 HSz HZ HSa HAl HSz2 HM HRa
      simp only [fsV, otV]
      have HW8 : Hid (RI w s w.heap.size gf g6 f1 A1 i c1 xs ((stores (stores w7 gf 0 (fsV f1)) w5.heap.size 0 (otV A7 n7 c7 o1)).alloc (.cells (otV A7 n7 c7 o1).toArray 76))) := HMid.out.belw ((Below.refl _ _).alloc (Nat.le_refl _) _)
      have HO8 : Hid (Own ((stores (stores w7 gf 0 (fsV f1)) w5.heap.size 0 (otV A7 n7 c7 o1)).alloc (.cells (otV A7 n7 c7 o1).toArray 76)) 76 5 A1 i c1 xs) := HW8.out.own
      have HG8 : Hid (Rg ((stores (stores w7 gf 0 (fsV f1)) w5.heap.size 0 (otV A7 n7 c7 o1)).alloc (.cells (otV A7 n7 c7 o1).toArray 76)) (fun k => k = w7.heap.size) 5 (some ⟨w7.heap.size, 0, none⟩) 1 (otV A7 n7 c7 o1)) := by
        have h := Rg.new (stores (stores w7 gf 0 (fsV f1)) w5.heap.size 0 (otV A7 n7 c7 o1)) 76 5 1 (otV A7 n7 c7 o1).toArray rfl
        have e : (stores (stores w7 gf 0 (fsV f1)) w5.heap.size 0 (otV A7 n7 c7 o1)).heap.size = w7.heap.size := by simp [stores, fsV, otV]
        rw [e] at h
        exact h
      have HOn : Hid (∀ u ∈ [Value.slice A7 n7 c7, .bool o1.con, .bool o1.cls, .bool o1.up, .bool o1.lost], u.oneCell' = true) := fun u hu => List.all_eq_true.1 (by rfl) u hu
      obtain ⟨i0, hi0, hz0, hz1, hz2⟩ := info_parts info_o
      have Hi := Lib.hid hi0
      have Hz0 := Lib.hid hz0
      have Hz1 := Lib.hid hz1
      have Hz2 := Lib.hid hz2
      clear hi0 hz0 hz1 hz2 HMid
      have eqw : ((stores (stores w7 gf 0 (fsV f1)) w5.heap.size 0 (otV A7 n7 c7 o1)).alloc (.cells (otV A7 n7 c7 o1).toArray 76)) = ((stores (stores w7 gf 0 (fsV f1)) w5.heap.size 0 (otV A7 n7 c7 o1)).alloc (.cells (otV A7 n7 c7 o1).toArray 76)) := rfl
      simp only [fsV, otV, stores, Nat.zero_add, Nat.reduceAdd] at HW8 HO8 HG8
      clear eqw
      go_wp2_with (at_builtin; refine wpList_app _ rfl (.tmp 25) (.tmp 27) _ rfl 76 i0 _ 5 32 Try.underlying71 Hi.out Hz0.out Hz1.out Hz2.out rfl (by omega) A1 i c1 xs (by rfl) HO8.out _ (some ⟨w7.heap.size, 0, none⟩) 1 1 (by intro h; cases h) [.slice A7 n7 c7, .bool o1.con, .bool o1.cls, .bool o1.up, .bool o1.lost] (by rfl) HG8.out HOn.out (by unfold maxLen; omega) (by omega) ?_; intro A4 c4 w9 ho9 hc9 hf9; have H9 := Lib.hid (And.intro (HW8.out.app ho9 hc9 hf9) ho9); clear ho9 hc9 hf9)
      go_roundw
      case rel =>
        obtain ⟨h1, h2⟩ := HOs.out
        exact ⟨i + 1, f1, A4, c4, xs ++ otV A7 n7 c7 o1, os1 ++ [o1], os3, by omega, by go_num, rfl, by rw [h1, HOs3.out]; simp, by simp [h2], HRu1.out, HOr.out.app A7 n7 c7 o1, H9.out.1⟩
      case measure => simp [intOf]; omega
    · obtain rfl : i = N := by omega
      have hru := HRu.out
      rw [List.drop_eq_nil_of_le (by rw [← HN.out]; exact Nat.le_refl _)] at hru
      obtain ⟨rfl, rfl⟩ : fi = f' ∧ os2 = [] := by cases hru; exact ⟨rfl, rfl⟩
      have hbf := HRI.out.bf
      have hb6 := HRI.out.b6
      have kf := fun i => hbf.cell i
      have k6 := fun i => hb6.cell i
      have kf1 := hbf.lt
      have k61 := hb6.lt
      have k62 := fun i => hb6.free i
      simp only [fsV] at kf
      simp only [fsV, f0] at k6
      clear hbf hb6 hru
      go_wp2_with fail
      obtain ⟨h1, h2⟩ := HOs.out
      obtain ⟨q1, q2, q3⟩ := run_handed (V := fsV fi) HRI.out rfl
      refine bodyPost_ret (res_cv rfl _ _ g6 70 (.slice A1 i c1) (fsV fi).toArray (0, 0) _ rfl rfl q1 Try.underlying70 rfl info_fs) rfl ?_
      rw [h1, List.append_nil]
      exact ⟨A1, c1, xs, rfl, q2, HOr.out, fun k hk => (HRI.out.low k hk).1, q3⟩
end Go.Proofs.Ytbhhkjkjihenoaa.fsm
