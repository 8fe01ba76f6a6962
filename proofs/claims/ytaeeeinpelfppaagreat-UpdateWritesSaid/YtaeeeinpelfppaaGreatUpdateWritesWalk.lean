/- The walk of the law UpdateWrites: the Go text returns true and writes nothing that was there. No condition. -/
import Derived.Test.YtaeeeinpelfppaaGreatUpdOpen
import Derived.Test.YtaeeeinpelfppaaGreatUpdLives
import Derived.Test.YtaeeeinpelfppaaGreatUpdSame
import Derived.Test.YtaeeeinpelfppaaGreatUpdRefGood
import Derived.Test.YtaeeeinpelfppaaGreatRefAttr
namespace Go.Proofs.YtaeeeinpelfppaaGreat.updateWrites
open Go.RowKit Go.Proofs.YtaeeeinpelfppaaGreat.kit Go.Proofs.YtaeeeinpelfppaaGreat.mem Go.Proofs.YtaeeeinpelfppaaGreat.foot Go.Proofs.YtaeeeinpelfppaaGreat.nums Go.Proofs.YtaeeeinpelfppaaGreat.asn Go.Proofs.YtaeeeinpelfppaaGreat.pth Go.Proofs.YtaeeeinpelfppaaGreat.octet Go.Proofs.YtaeeeinpelfppaaGreat.attr Go.Proofs.YtaeeeinpelfppaaGreat.upd Go.Proofs.YtaeeeinpelfppaaGreat.mv
set_option linter.unusedVariables false
set_option linter.unusedSimpArgs false
/-- a whole block read, behind a guard -/
theorem wpList_loadG {P : Program} {ops : Array Oper} {rest : List Oper} {o : Oper} {a : Act} {w : World} {Q : Exit → Act → World → Prop} (hw : Region.wanted o (yielded ops a.tmps) = true) (ty : TypeId) (x : Operand) (ho : o.op = .load ty x)
    (g : Nat) (hx : a.eval x = .pointer (some ⟨g, 0, none⟩)) (t : TypeId) (cs : Array Value) (d : TypeDesc) (hg : Bk w g t cs)
    (hu : P.underlying ty = some d) (hd : (match d with | .struct _ | .array _ _ => true | _ => false) = true) (hi : (P.info? ty).map (·.size) = some cs.size)
    (h : wpList P ops Q rest (a.put o.dst (.agg cs)) w) : wpList P ops Q (o :: rest) a w :=
  wpList_step fun K hK => by
    rw [if_pos hw]
    exact wp_load_row ty x ho g hx t cs (0, 0) d hg hu hd hi (hK _ _ h)
set_option maxRecDepth 100000 in
set_option maxHeartbeats 8000000 in
theorem core (u v : Upd) (A1 : Option Addr) (Aa : Nat) (Ap : Option Addr) (Aq : Nat) (Ar : Option Addr) (As : Nat) (A2 : Option Addr) (Ab : Nat) (V1 : Option Addr) (Va : Nat) (Vp : Option Addr) (Vq : Nat) (Vr : Option Addr) (Vs : Nat) (V2 : Option Addr) (Vb : Nat) (G : Foot) (W : World) (hm : Um W G u A1 Aa Ap Aq Ar As A2 Ab) (hn : Um W G v V1 Va Vp Vq Vr Vs V2 Vb)
    (hu1 : ∀ q ∈ u.gone, q.1 < 4294967296) (hu2 : ∀ q ∈ u.here, q.1 < 4294967296) (hv1 : ∀ q ∈ v.gone, q.1 < 4294967296) (hv2 : ∀ q ∈ v.here, q.1 < 4294967296) :
    Calls Tryz.prog 4 #[.agg (upc A1 u.gone.length Aa (atc u.a Ap Aq Ar As) A2 u.here.length Ab).toArray, .agg (upc V1 v.gone.length Va (atc v.a Vp Vq Vr Vs) V2 v.here.length Vb).toArray] W fun e w' => e = .returned (.bool true) ∧ Below W.heap.size W w' := by
  have HSu : Hid ((Tryz.prog.info? 31).map (·.size) = some 11) := info_upd
  have HSn : Hid ((Tryz.prog.info? 33).map (·.size) = some 3) := info_ntc
  obtain ⟨i0, hi, hz0, hz1, hz2⟩ := info_parts info_u8
  have Hi := Lib.hid hi
  have Hz0 := Lib.hid hz0
  have Hz1 := Lib.hid hz1
  have Hz2 := Lib.hid hz2
  have hub := ub_few hu1 hu2
  have hvb := ub_few hv1 hv2
  have hgn := gone_few u
  have hfu := fewU_twice u
  have hfv := fewU_twice v
  obtain ⟨h1, h2, h3⟩ := heads W (upc A1 u.gone.length Aa (atc u.a Ap Aq Ar As) A2 u.here.length Ab) (upc V1 v.gone.length Va (atc v.a Vp Vq Vr Vs) V2 v.here.length Vb) 31 31
  have HCu : Hid (∀ w', Below W.heap.size W w' → Calls Tryz.prog 11 #[.agg (upc A1 u.gone.length Aa (atc u.a Ap Aq Ar As) A2 u.here.length Ab).toArray] w' (RetU (fewU u) w')) := fun w' h => Few10_any u A1 Aa Ap Aq Ar As A2 Ab G w' (hm.bel h)
  have HCv : Hid (∀ w', Below W.heap.size W w' → Calls Tryz.prog 11 #[.agg (upc V1 v.gone.length Va (atc v.a Vp Vq Vr Vs) V2 v.here.length Vb).toArray] w' (RetU (fewU v) w')) := fun w' h => Few10_any v V1 Va Vp Vq Vr Vs V2 Vb G w' (hn.bel h)
  have HLi := Lib.hid upd.lives_any
  have HC0 : Hid ((upc A1 u.gone.length Aa (atc u.a Ap Aq Ar As) A2 u.here.length Ab).length = 11) := rfl
  have HD0 : Hid ((upc V1 v.gone.length Va (atc v.a Vp Vq Vr Vs) V2 v.here.length Vb).length = 11) := rfl
  obtain ⟨g, hg⟩ : ∃ g, g = W.heap.size := ⟨_, rfl⟩
  obtain ⟨w1, hw1⟩ : ∃ w1, w1 = (W.alloc (.cells (upc A1 u.gone.length Aa (atc u.a Ap Aq Ar As) A2 u.here.length Ab).toArray 31)).alloc (.cells (upc V1 v.gone.length Va (atc v.a Vp Vq Vr Vs) V2 v.here.length Vb).toArray 31) := ⟨_, rfl⟩
  rw [← hw1] at h1 h2 h3
  rw [← hg] at h2 h3
  have HB1 := Lib.hid h1
  have HK1 := Lib.hid h2
  have HK2 := Lib.hid h3
  have HG := Lib.hid hg
  have HL1 : Hid (g + 1 < w1.heap.size) := h3.lt
  clear h1 h2 h3 hm hn hi hz0 hz1 hz2 hu1 hu2 hv1 hv2
  generalize hf : fewU u = f at *
  generalize hk : fewU v = k at *
  clear hf hk
  have HF : Hid (∀ (w' : World) (X1 : Option Addr) (Xa : Nat) (Xp : Option Addr) (Xq : Nat) (Xr : Option Addr) (Xs : Nat) (X2 : Option Addr) (Xb : Nat) (E : Foot), Um w' E f X1 Xa Xp Xq Xr Xs X2 Xb → Calls Tryz.prog 11 #[.agg (upc X1 f.gone.length Xa (atc f.a Xp Xq Xr Xs) X2 f.here.length Xb).toArray] w' (RetU f w')) := fun w' X1 Xa Xp Xq Xr Xs X2 Xb E h => by have := Few10_any f X1 Xa Xp Xq Xr Xs X2 Xb E w' h; rwa [hfu] at this
  have HF2 : Hid (∀ (w' : World) (X1 : Option Addr) (Xa : Nat) (Xp : Option Addr) (Xq : Nat) (Xr : Option Addr) (Xs : Nat) (X2 : Option Addr) (Xb : Nat) (E : Foot), Um w' E k X1 Xa Xp Xq Xr Xs X2 Xb → Calls Tryz.prog 11 #[.agg (upc X1 k.gone.length Xa (atc k.a Xp Xq Xr Xs) X2 k.here.length Xb).toArray] w' (RetU k w')) := fun w' X1 Xa Xp Xq Xr Xs X2 Xb E h => by have := Few10_any k X1 Xa Xp Xq Xr Xs X2 Xb E w' h; rwa [hfv] at this
  obtain ⟨z, hz⟩ := bool_of (GoodU f)
  obtain ⟨zs, hzs⟩ := bool_of (f = k)
  have HEn := Lib.hid (fun (w' : World) (X1 : Option Addr) (Xa : Nat) (Xp : Option Addr) (Xq : Nat) (Xr : Option Addr) (Xs : Nat) (X2 : Option Addr) (Xb : Nat) (E : Foot) (h : Um w' E f X1 Xa Xp Xq Xr Xs X2 Xb) => (upd.Encode_any f X1 Xa Xp Xq Xr Xs X2 Xb E w' h hub).mono fun _ _ h => RetEnc.forms h)
  have HGd := Lib.hid (fun (w' : World) (X1 : Option Addr) (Xa : Nat) (Xp : Option Addr) (Xq : Nat) (Xr : Option Addr) (Xs : Nat) (X2 : Option Addr) (Xb : Nat) (E : Foot) (h : Um w' E f X1 Xa Xp Xq Xr Xs X2 Xb) => upd.Good_any f X1 Xa Xp Xq Xr Xs X2 Xb E w' z hz h hub)
  have HGr := Lib.hid (fun (w' : World) (X1 : Option Addr) (Xa : Nat) (Xp : Option Addr) (Xq : Nat) (Xr : Option Addr) (Xs : Nat) (X2 : Option Addr) (Xb : Nat) (E : Foot) (h : Um w' E f X1 Xa Xp Xq Xr Xs X2 Xb) => upd.refGood10_any f X1 Xa Xp Xq Xr Xs X2 Xb E w' z hz h hub)
  have HSm := Lib.hid (fun (w' : World) (X1 : Option Addr) (Xa : Nat) (Xp : Option Addr) (Xq : Nat) (Xr : Option Addr) (Xs : Nat) (X2 : Option Addr) (Xb : Nat) (Y1 : Option Addr) (Ya : Nat) (Yp : Option Addr) (Yq : Nat) (Yr : Option Addr) (Ys : Nat) (Y2 : Option Addr) (Yb : Nat) (E F : Foot) (h : Um w' E f X1 Xa Xp Xq Xr Xs X2 Xb) (h2 : Um w' F k Y1 Ya Yp Yq Yr Ys Y2 Yb) => upd.Same_any f k X1 Xa Xp Xq Xr Xs X2 Xb Y1 Ya Yp Yq Yr Ys Y2 Yb E F w' zs hzs h h2 (by have := hub.gl; omega) (by have := hub.hl; omega) (by have := hvb.gl; omega) (by have := hvb.hl; omega) (by have := hub.pl; omega) (by have := hvb.pl; omega) (by have := hub.cl; omega) (by have := hvb.cl; omega))
  have HSr := Lib.hid (fun (w' : World) (X1 : Option Addr) (Xa : Nat) (Xp : Option Addr) (Xq : Nat) (Xr : Option Addr) (Xs : Nat) (X2 : Option Addr) (Xb : Nat) (Y1 : Option Addr) (Ya : Nat) (Yp : Option Addr) (Yq : Nat) (Yr : Option Addr) (Ys : Nat) (Y2 : Option Addr) (Yb : Nat) (E F : Foot) (h : Um w' E f X1 Xa Xp Xq Xr Xs X2 Xb) (h2 : Um w' F k Y1 Ya Yp Yq Yr Ys Y2 Yb) => upd.refSame10_any f k X1 Xa Xp Xq Xr Xs X2 Xb Y1 Ya Yp Yq Yr Ys Y2 Yb E F w' zs hzs h h2 (by have := hub.gl; omega) (by have := hub.hl; omega) (by have := hvb.gl; omega) (by have := hvb.hl; omega) (by have := hub.pl; omega) (by have := hvb.pl; omega) (by have := hub.cl; omega) (by have := hvb.cl; omega))
  have HSs := Lib.hid (fun (w' : World) (X1 : Option Addr) (Xa : Nat) (Xp : Option Addr) (Xq : Nat) (Xr : Option Addr) (Xs : Nat) (X2 : Option Addr) (Xb : Nat) (Y1 : Option Addr) (Ya : Nat) (Yp : Option Addr) (Yq : Nat) (Yr : Option Addr) (Ys : Nat) (Y2 : Option Addr) (Yb : Nat) (E F : Foot) (h : Um w' E f X1 Xa Xp Xq Xr Xs X2 Xb) (h2 : Um w' F f Y1 Ya Yp Yq Yr Ys Y2 Yb) => upd.refSame10_any f f X1 Xa Xp Xq Xr Xs X2 Xb Y1 Ya Yp Yq Yr Ys Y2 Yb E F w' true (by simp) h h2 (by have := hub.gl; omega) (by have := hub.hl; omega) (by have := hub.gl; omega) (by have := hub.hl; omega) (by have := hub.pl; omega) (by have := hub.pl; omega) (by have := hub.cl; omega) (by have := hub.cl; omega))
  have HSi := Lib.hid (fun (n : Nat) (hn : (GoodU f → n = (encUp f).length) ∧ (¬ GoodU f → n = 0)) (w' : World) (X1 : Option Addr) (Xa : Nat) (Xp : Option Addr) (Xq : Nat) (Xr : Option Addr) (Xs : Nat) (X2 : Option Addr) (Xb : Nat) (E : Foot) (h : Um w' E f X1 Xa Xp Xq Xr Xs X2 Xb) => upd.Size_any f X1 Xa Xp Xq Xr Xs X2 Xb E w' n hn h hub)
  have HRe := Lib.hid (fun (hg : GoodU f) (w' : World) (X1 : Option Addr) (Xa : Nat) (Xp : Option Addr) (Xq : Nat) (Xr : Option Addr) (Xs : Nat) (X2 : Option Addr) (Xb : Nat) (E : Foot) (h : Um w' E f X1 Xa Xp Xq Xr Xs X2 Xb) => upd.refEncode10_any f X1 Xa Xp Xq Xr Xs X2 Xb E w' h hub hg.1 hg.2.1)
  have HDf : Hid (GoodU f → (encUp f).length ≤ 50000 → Gw f.a → ∀ (A : Option Addr) (c : Nat) (w' : World), (A = none → c = 0) → Bs w' w'.heap.size A (encUp f) → Calls Tryz.prog 6 #[.slice A (encUp f).length c] w' fun e w2 => ∃ X1 Xa Xp Xq Xr Xs X2 Xb nA nc, e = .returned (.tuple #[.agg (upc X1 f.gone.length Xa (atc f.a Xp Xq Xr Xs) X2 f.here.length Xb).toArray, .agg #[.int .i64 0, .int .i64 0, .slice nA 0 nc]]) ∧ Um w2 (fun k => w'.heap.size ≤ k) f X1 Xa Xp Xq Xr Xs X2 Xb ∧ Bn w2 (fun k => w'.heap.size ≤ k) nA nc [] ∧ Below w'.heap.size w' w2) := fun hg hl hw A c w' hA hs => by
    have h := upd.Decode_any A c (encUp f) w' hl hA hs
    rw [upd_back hg hw hub hgn] at h
    exact h
  have HTd : Hid (∀ (w' : World) (A : Option Addr) (c : Nat) (E : Foot), Bn w' E A c [] → Calls Tryz.prog 9 #[.agg #[.int .i64 0, .int .i64 0, .slice A 0 c], .agg #[.int .i64 0, .int .i64 0, .slice none 0 0]] w' fun e w2 => e = .returned (.bool true) ∧ Below w'.heap.size w' w2) := fun w' A c E h => refTold_yes 0 0 A none [] c 0 w' h.bs (Bn.nil_ w' (fun _ => True)).bs
  have HZ := Lib.hid hz
  clear hub hvb hgn hfu hfv hz hzs hg
  generalize hcu : upc A1 u.gone.length Aa (atc u.a Ap Aq Ar As) A2 u.here.length Ab = cu at *
  generalize hcv : upc V1 v.gone.length Va (atc v.a Vp Vq Vr Vs) V2 v.here.length Vb = cv at *
  clear hcu hcv
  go_enter Tryz.func4, Tryz.ntmps4
  go_upto_region 1 with fail
  rw [← hw1, ← HG.out]
  have HX1 : Hid (Below w1.heap.size w1 w1.drew) := (Below.refl _ _).drew
  clear hw1
  have HU1 : Hid (∀ w', Below w1.heap.size w1 w' → Bk w' g 31 cu.toArray ∧ Bk w' (g + 1) 31 cv.toArray) := fun w' h => ⟨HK1.out.below h (by have := HL1.out; omega), HK2.out.below h HL1.out⟩
  refine region_mv (S := fun w' => Bk w' g 31 cu.toArray ∧ Bk w' (g + 1) 31 cv.toArray) (A := List.range 4) (sq := [.p 0, .p 2, .c 1, .c 3, .d 4, .d 5]) (by kernel_rfl) (by kernel_rfl) ?_ (fun hHeld => ?_)
  · exact HU1.out _ HX1.out
  repeat ((with_reducible refine mv_at ?_); (first
    | (refine ⟨_, .agg cu.toArray, rfl, yieldsIf_load_mid (by rfl) 31 (.tmp 2) rfl g 0 (by rfl) cu _ (fun w h => (h.1).all) Tryz.underlying31 (by rfl) (by rw [HC0.out]; exact HSu.out), ?_⟩)
    | (refine ⟨_, .agg cv.toArray, rfl, yieldsIf_load_mid (by rfl) 31 (.tmp 3) rfl (g + 1) 0 (by rfl) cv _ (fun w h => (h.2).all) Tryz.underlying31 (by rfl) (by rw [HD0.out]; exact HSu.out), ?_⟩)
    | (refine ⟨_, ?_, rfl, Or.inl ⟨by rfl, ?_⟩, ?_⟩; rotate_left; · (intro w hSw; (try dsimp only at hSw); go_simp <;> with_reducible rfl))
    | (refine ⟨_, undef, rfl, Or.inr ⟨by rfl, rfl⟩, ?_⟩)); try simp only [Act.put, List.getElem_toArray, List.getElem_cons_succ, List.getElem_cons_zero, List.setIfInBounds_toArray, List.set_cons_zero, List.set_cons_succ])
  refine mv_c (o := _) rfl (fun K hK => ?_)
  go_simp
  go_at_call 11
  refine (HCu.out _ HB1.out.drew).mono ?_
  rintro e w2 ⟨C1, Ca, Cp, Cq, Cr, Cs, C2, Cb, rfl, h1, h2⟩
  have HX2 := Lib.hid (HX1.out.trans (h2.mono HX1.out.size))
  have HM2 : Hid (Um w2 (fun j => g + 1 < j) f C1 Ca Cp Cq Cr Cs C2 Cb) := h1.mono fun j _ hj => Nat.lt_of_lt_of_le HL1.out hj
  have HW2 := Lib.hid (HB1.out.trans (HX2.out.mono HB1.out.size))
  clear h1 h2
  refine hK.out _ _ ?_ (fun hHeld => ?_)
  · exact HU1.out _ HX2.out
  clear hK K
  try simp only [Act.put, List.getElem_toArray, List.getElem_cons_succ, List.getElem_cons_zero, List.setIfInBounds_toArray, List.set_cons_zero, List.set_cons_succ]
  refine mv_c (o := _) rfl (fun K hK => ?_)
  go_simp
  go_at_call 11
  refine (HCv.out _ HW2.out).mono ?_
  rintro e w3 ⟨D1, Da, Dp, Dq, Dr, Ds, D2, Db, rfl, h1, h2⟩
  have HX3 := Lib.hid (HX2.out.trans (h2.mono HX2.out.size))
  have HN3 : Hid (Um w3 (fun j => g + 1 < j) k D1 Da Dp Dq Dr Ds D2 Db) := h1.mono fun j _ hj => Nat.lt_of_lt_of_le HL1.out (Nat.le_trans HX2.out.size hj)
  have HM3 := Lib.hid (HM2.out.bel h2)
  have HW3 := Lib.hid (HB1.out.trans (HX3.out.mono HB1.out.size))
  clear h1 h2
  refine hK.out _ _ ?_ (fun hHeld => ?_)
  · exact HU1.out _ HX3.out
  clear hK K
  try simp only [Act.put, List.getElem_toArray, List.getElem_cons_succ, List.getElem_cons_zero, List.setIfInBounds_toArray, List.set_cons_zero, List.set_cons_succ]
  refine mv_d (o := _) rfl (fun K hK => ?_)
  refine wp_storeBk 31 (.tmp 2) (.tmp 11) rfl g (by rfl) (upc C1 f.gone.length Ca (atc f.a Cp Cq Cr Cs) C2 f.here.length Cb).toArray (by rfl) 31 cu.toArray ((HU1.out _ HX3.out).1) HSu.out (by rw [List.size_toArray, HC0.out]; rfl) (by rfl) ?_
  intro w4 kw4 fw4 lw4
  refine hK.out _ _ ?_
  clear hK K
  try simp only [Act.put, List.getElem_toArray, List.getElem_cons_succ, List.getElem_cons_zero, List.setIfInBounds_toArray, List.set_cons_zero, List.set_cons_succ]
  refine mv_d (o := _) rfl (fun K hK => ?_)
  refine wp_storeBk 31 (.tmp 3) (.tmp 13) rfl (g + 1) (by rfl) (upc D1 k.gone.length Da (atc k.a Dp Dq Dr Ds) D2 k.here.length Db).toArray (by rfl) 31 cv.toArray (((HU1.out _ HX3.out).2).chg fw4 (by omega)) HSu.out (by rw [List.size_toArray, HD0.out]; rfl) (by rfl) ?_
  intro w5 kw5 fw5 lw5
  refine hK.out _ _ ?_
  clear hK K
  try simp only [Act.put, List.getElem_toArray, List.getElem_cons_succ, List.getElem_cons_zero, List.setIfInBounds_toArray, List.set_cons_zero, List.set_cons_succ]
  refine mv_end ?_
  have K1 := Lib.hid (kw4.chg fw5 (by omega))
  have K2 := Lib.hid kw5
  have HM5 := Lib.hid ((HM3.out.chg fw4 fun j _ hj e => by omega).chg fw5 fun j _ hj e => by omega)
  have HN5 := Lib.hid ((HN3.out.chg fw4 fun j _ hj e => by omega).chg fw5 fun j _ hj e => by omega)
  have HW4 := HW3.out.trans (fw4.below (fun j e => by rw [e, HG.out]; exact Nat.le_refl _) HW3.out.size)
  have HW5 := Lib.hid (HW4.trans (fw5.below (fun j e => by have := HG.out; omega) HW4.size))
  have HL5 : Hid (g + 1 < w5.heap.size) := K2.out.lt
  have HGw := Lib.hid HM5.out.at_.gw
  have HU : Hid (∀ w', Below w5.heap.size w5 w' → Bk w' g 31 (upc C1 f.gone.length Ca (atc f.a Cp Cq Cr Cs) C2 f.here.length Cb).toArray ∧ Bk w' (g + 1) 31 (upc D1 k.gone.length Da (atc k.a Dp Dq Dr Ds) D2 k.here.length Db).toArray) := fun w' h => ⟨K1.out.below h (by have := HL5.out; omega), K2.out.below h HL5.out⟩
  clear kw4 fw4 lw4 kw5 fw5 lw5 HW4 HCu HCv HU1 HX1 HX2 HX3 HM2 HM3 HN3 HW2 HW3 HK1 HK2 HL1 HB1 HC0 HD0
  have HFu : Hid (∀ w', Below w5.heap.size w5 w' → Calls Tryz.prog 11 #[.agg (upc C1 f.gone.length Ca (atc f.a Cp Cq Cr Cs) C2 f.here.length Cb).toArray] w' (RetU f w')) := fun w' h => HF.out w' C1 Ca Cp Cq Cr Cs C2 Cb _ (HM5.out.bel h)
  have HFv : Hid (∀ w', Below w5.heap.size w5 w' → Calls Tryz.prog 11 #[.agg (upc D1 k.gone.length Da (atc k.a Dp Dq Dr Ds) D2 k.here.length Db).toArray] w' (RetU k w')) := fun w' h => HF2.out w' D1 Da Dp Dq Dr Ds D2 Db _ (HN5.out.bel h)
  have HGu : Hid (∀ w', Below w5.heap.size w5 w' → Calls Tryz.prog 14 #[.agg (upc C1 f.gone.length Ca (atc f.a Cp Cq Cr Cs) C2 f.here.length Cb).toArray] w' fun e w2 => e = .returned (.bool z) ∧ Below w'.heap.size w' w2) := fun w' h => HGr.out w' C1 Ca Cp Cq Cr Cs C2 Cb _ (HM5.out.bel h)
  have HRu : Hid (GoodU f → ∀ w', Below w5.heap.size w5 w' → Calls Tryz.prog 17 #[.agg (upc C1 f.gone.length Ca (atc f.a Cp Cq Cr Cs) C2 f.here.length Cb).toArray] w' (RetB (encUp f) w')) := fun hg w' h => HRe.out hg w' C1 Ca Cp Cq Cr Cs C2 Cb _ (HM5.out.bel h)
  have HSx : Hid (∀ w', Below w5.heap.size w5 w' → Calls Tryz.prog 8 #[.agg (upc C1 f.gone.length Ca (atc f.a Cp Cq Cr Cs) C2 f.here.length Cb).toArray, .agg (upc D1 k.gone.length Da (atc k.a Dp Dq Dr Ds) D2 k.here.length Db).toArray] w' fun e w2 => e = .returned (.bool zs) ∧ Below w'.heap.size w' w2) := fun w' h => HSr.out w' C1 Ca Cp Cq Cr Cs C2 Cb D1 Da Dp Dq Dr Ds D2 Db _ _ (HM5.out.bel h) (HN5.out.bel h)
  have HSy : Hid (∀ w' X1 Xa Xp Xq Xr Xs X2 Xb E, Below w5.heap.size w5 w' → Um w' E f X1 Xa Xp Xq Xr Xs X2 Xb → Calls Tryz.prog 8 #[.agg (upc X1 f.gone.length Xa (atc f.a Xp Xq Xr Xs) X2 f.here.length Xb).toArray, .agg (upc C1 f.gone.length Ca (atc f.a Cp Cq Cr Cs) C2 f.here.length Cb).toArray] w' fun e w2 => e = .returned (.bool true) ∧ Below w'.heap.size w' w2) := fun w' X1 Xa Xp Xq Xr Xs X2 Xb E h h2 => HSs.out w' X1 Xa Xp Xq Xr Xs X2 Xb C1 Ca Cp Cq Cr Cs C2 Cb E _ h2 (HM5.out.bel h)
  have HCf : Hid ((upc C1 f.gone.length Ca (atc f.a Cp Cq Cr Cs) C2 f.here.length Cb).length = 11) := rfl
  have HCk : Hid ((upc D1 k.gone.length Da (atc k.a Dp Dq Dr Ds) D2 k.here.length Db).length = 11) := rfl
  clear K1 K2 HM5 HN5 HF HF2 HGr HRe HSr HSs
  generalize hcf : upc C1 f.gone.length Ca (atc f.a Cp Cq Cr Cs) C2 f.here.length Cb = cf at *
  generalize hck : upc D1 k.gone.length Da (atc k.a Dp Dq Dr Ds) D2 k.here.length Db = ck at *
  clear hcf hck
  have HX5 := Lib.hid (Below.refl w5.heap.size w5)
  go_upto_region 3 with (first
    | (refine wpList_loadBk rfl 31 (.tmp 2) rfl g (by rfl) 31 cf.toArray _ (HU.out _ HX5.out).1 Tryz.underlying31 (by rfl) (by rw [List.size_toArray, HCf.out]; exact HSu.out) ?_)
    | (go_at_call 11; refine (HFu.out w5 HX5.out).mono ?_; rintro e w6 ⟨X1, Xa, Xp, Xq, Xr, Xs, X2, Xb, rfl, h1, h2⟩; have HX6 := Lib.hid (HX5.out.trans (h2.mono HX5.out.size)); have HE6 := Lib.hid (HEn.out w6 X1 Xa Xp Xq Xr Xs X2 Xb _ h1); clear h1 h2)
    | (go_at_call 12; refine HE6.out.mono ?_; rintro e w7 ⟨bA, bn, bc, ev, rfl, h1, h2⟩; have HX7 := Lib.hid (HX6.out.trans (h1.mono HX6.out.size)); have HV := Lib.hid h2; clear h1 h2))
  have HT : Hid (∀ w', Below w7.heap.size w7 w' → Below w5.heap.size w5 w') := fun w' h => HX7.out.trans (h.mono HX7.out.size)
  have HX8 : Hid (Below w7.heap.size w7 w7.drew) := (Below.refl _ _).drew
  refine region_mv (S := fun w' => Bk w' g 31 cf.toArray ∧ Bk w' (g + 1) 31 ck.toArray) (A := List.range 17) (sq := [.p 0, .p 3, .c 1, .c 2, .c 4, .p 5, .p 6, .p 7, .p 9, .p 12, .p 13, .c 8, .c 10, .c 11, .c 14, .p 15, .p 16]) (by kernel_rfl) (by kernel_rfl) ?_ (fun hHeld => ?_)
  · exact HU.out _ (HT.out _ HX8.out)
  repeat ((with_reducible refine mv_at ?_); (first
    | (refine ⟨_, .agg cf.toArray, rfl, yieldsIf_load_mid (by rfl) 31 (.tmp 2) rfl g 0 (by rfl) cf _ (fun w h => (h.1).all) Tryz.underlying31 (by rfl) (by rw [HCf.out]; exact HSu.out), ?_⟩)
    | (refine ⟨_, .agg ck.toArray, rfl, yieldsIf_load_mid (by rfl) 31 (.tmp 3) rfl (g + 1) 0 (by rfl) ck _ (fun w h => (h.2).all) Tryz.underlying31 (by rfl) (by rw [HCk.out]; exact HSu.out), ?_⟩)
    | (refine ⟨_, ?_, rfl, Or.inl ⟨by rfl, ?_⟩, ?_⟩; rotate_left; · (intro w hSw; (try dsimp only at hSw); go_simp <;> with_reducible rfl))
    | (refine ⟨_, undef, rfl, Or.inr ⟨by rfl, rfl⟩, ?_⟩)); try simp only [Act.put, List.getElem_toArray, List.getElem_cons_succ, List.getElem_cons_zero, List.setIfInBounds_toArray, List.set_cons_zero, List.set_cons_succ])
  refine mv_c (o := _) rfl (fun K hK => ?_)
  go_simp
  go_at_call 11
  refine (HFu.out _ (HT.out _ HX8.out)).mono ?_
  rintro e w9 ⟨R1, Ra, Rp, Rq, Rr, Rs, R2, Rb, rfl, h1, h2⟩
  have HX9 := Lib.hid (HX8.out.trans (h2.mono HX8.out.size))
  have HMw9 := Lib.hid h1
  clear h1 h2
  refine hK.out _ _ ?_ (fun hHeld => ?_)
  · exact HU.out _ (HT.out _ HX9.out)
  clear hK K
  try simp only [Act.put, List.getElem_toArray, List.getElem_cons_succ, List.getElem_cons_zero, List.setIfInBounds_toArray, List.set_cons_zero, List.set_cons_succ]
  refine mv_c (o := _) rfl (fun K hK => ?_)
  go_simp
  go_at_call 13
  refine (HGd.out w9 R1 Ra Rp Rq Rr Rs R2 Rb _ HMw9.out).mono ?_
  rintro e w10 ⟨rfl, h2⟩
  have HX10 := Lib.hid (HX9.out.trans (h2.mono HX9.out.size))
  refine hK.out _ _ ?_ (fun hHeld => ?_)
  · exact HU.out _ (HT.out _ HX10.out)
  clear hK K
  try simp only [Act.put, List.getElem_toArray, List.getElem_cons_succ, List.getElem_cons_zero, List.setIfInBounds_toArray, List.set_cons_zero, List.set_cons_succ]
  refine mv_c (o := _) rfl (fun K hK => ?_)
  go_simp
  go_at_call 14
  refine (HGu.out w10 (HT.out _ HX10.out)).mono ?_
  rintro e w11 ⟨rfl, h2⟩
  have HX11 := Lib.hid (HX10.out.trans (h2.mono HX10.out.size))
  refine hK.out _ _ ?_ (fun hHeld => ?_)
  · exact HU.out _ (HT.out _ HX11.out)
  clear hK K
  try simp only [Act.put, List.getElem_toArray, List.getElem_cons_succ, List.getElem_cons_zero, List.setIfInBounds_toArray, List.set_cons_zero, List.set_cons_succ]
  repeat ((with_reducible refine mv_at ?_); (first
    | (refine ⟨_, .agg cf.toArray, rfl, yieldsIf_load_mid (by rfl) 31 (.tmp 2) rfl g 0 (by rfl) cf _ (fun w h => (h.1).all) Tryz.underlying31 (by rfl) (by rw [HCf.out]; exact HSu.out), ?_⟩)
    | (refine ⟨_, .agg ck.toArray, rfl, yieldsIf_load_mid (by rfl) 31 (.tmp 3) rfl (g + 1) 0 (by rfl) ck _ (fun w h => (h.2).all) Tryz.underlying31 (by rfl) (by rw [HCk.out]; exact HSu.out), ?_⟩)
    | (refine ⟨_, ?_, rfl, Or.inl ⟨by rfl, ?_⟩, ?_⟩; rotate_left; · (intro w hSw; (try dsimp only at hSw); go_simp <;> with_reducible rfl))
    | (refine ⟨_, undef, rfl, Or.inr ⟨by rfl, rfl⟩, ?_⟩)); try simp only [Act.put, List.getElem_toArray, List.getElem_cons_succ, List.getElem_cons_zero, List.setIfInBounds_toArray, List.set_cons_zero, List.set_cons_succ])
  refine mv_c (o := _) rfl (fun K hK => ?_)
  go_simp
  go_at_call 11
  refine (HFu.out w11 (HT.out _ HX11.out)).mono ?_
  rintro e w12 ⟨S1, Sa, Sp, Sq, Sr, Ss, S2, Sb, rfl, h1, h2⟩
  have HX12 := Lib.hid (HX11.out.trans (h2.mono HX11.out.size))
  have HMw12 := Lib.hid h1
  clear h1 h2
  refine hK.out _ _ ?_ (fun hHeld => ?_)
  · exact HU.out _ (HT.out _ HX12.out)
  clear hK K
  try simp only [Act.put, List.getElem_toArray, List.getElem_cons_succ, List.getElem_cons_zero, List.setIfInBounds_toArray, List.set_cons_zero, List.set_cons_succ]
  refine mv_c (o := _) rfl (fun K hK => ?_)
  go_simp
  go_at_call 11
  refine (HFv.out w12 (HT.out _ HX12.out)).mono ?_
  rintro e w13 ⟨T1, Ta, Tp, Tq, Tr, Ts, T2, Tb, rfl, h1, h2⟩
  have HX13 := Lib.hid (HX12.out.trans (h2.mono HX12.out.size))
  have HMw13 := Lib.hid h1
  have HN13 := Lib.hid (HMw12.out.bel h2)
  clear h1 h2
  refine hK.out _ _ ?_ (fun hHeld => ?_)
  · exact HU.out _ (HT.out _ HX13.out)
  clear hK K
  try simp only [Act.put, List.getElem_toArray, List.getElem_cons_succ, List.getElem_cons_zero, List.setIfInBounds_toArray, List.set_cons_zero, List.set_cons_succ]
  refine mv_c (o := _) rfl (fun K hK => ?_)
  go_simp
  go_at_call 15
  refine (HSm.out w13 S1 Sa Sp Sq Sr Ss S2 Sb T1 Ta Tp Tq Tr Ts T2 Tb _ _ HN13.out HMw13.out).mono ?_
  rintro e w14 ⟨rfl, h2⟩
  have HX14 := Lib.hid (HX13.out.trans (h2.mono HX13.out.size))
  refine hK.out _ _ ?_ (fun hHeld => ?_)
  · exact HU.out _ (HT.out _ HX14.out)
  clear hK K
  try simp only [Act.put, List.getElem_toArray, List.getElem_cons_succ, List.getElem_cons_zero, List.setIfInBounds_toArray, List.set_cons_zero, List.set_cons_succ]
  refine mv_c (o := _) rfl (fun K hK => ?_)
  go_simp
  go_at_call 8
  refine (HSx.out w14 (HT.out _ HX14.out)).mono ?_
  rintro e w15 ⟨rfl, h2⟩
  have HX15 := Lib.hid (HX14.out.trans (h2.mono HX14.out.size))
  refine hK.out _ _ ?_ (fun hHeld => ?_)
  · exact HU.out _ (HT.out _ HX15.out)
  clear hK K
  try simp only [Act.put, List.getElem_toArray, List.getElem_cons_succ, List.getElem_cons_zero, List.setIfInBounds_toArray, List.set_cons_zero, List.set_cons_succ]
  repeat ((with_reducible refine mv_at ?_); (first
    | (refine ⟨_, .agg cf.toArray, rfl, yieldsIf_load_mid (by rfl) 31 (.tmp 2) rfl g 0 (by rfl) cf _ (fun w h => (h.1).all) Tryz.underlying31 (by rfl) (by rw [HCf.out]; exact HSu.out), ?_⟩)
    | (refine ⟨_, .agg ck.toArray, rfl, yieldsIf_load_mid (by rfl) 31 (.tmp 3) rfl (g + 1) 0 (by rfl) ck _ (fun w h => (h.2).all) Tryz.underlying31 (by rfl) (by rw [HCk.out]; exact HSu.out), ?_⟩)
    | (refine ⟨_, ?_, rfl, Or.inl ⟨by rfl, ?_⟩, ?_⟩; rotate_left; · (intro w hSw; (try dsimp only at hSw); go_simp <;> with_reducible rfl))
    | (refine ⟨_, undef, rfl, Or.inr ⟨by rfl, rfl⟩, ?_⟩)); try simp only [Act.put, List.getElem_toArray, List.getElem_cons_succ, List.getElem_cons_zero, List.setIfInBounds_toArray, List.set_cons_zero, List.set_cons_succ])
  refine mv_end ?_
  clear HX5 HX6 HE6 HX8 HX9 HX10 HX11 HX12 HX13 HX14 HMw9 HMw12 HMw13 HN13 HGd HSm HSx HFv HEn
  have HWe : Hid (∀ w', Below w7.heap.size w7 w' → Below W.heap.size W w') := fun w' h => HW5.out.trans ((HT.out _ h).mono HW5.out.size)
  rcases HV.out with ⟨hg, hl, rfl, rfl, hbn⟩ | ⟨hg, hl, rfl, rfl⟩ | ⟨hg, rfl, rfl⟩
  · obtain rfl : z = true := HZ.out.2 hg
    have HSz := Lib.hid (HSi.out (encUp f).length ⟨fun _ => rfl, fun h => absurd hg h⟩)
    have HRe := Lib.hid (HRu.out hg)
    have HDc := Lib.hid (HDf.out hg (by omega) HGw.out)
    have HO15 := Lib.hid (hbn.bel HX15.out)
    clear HV HZ hg hbn HSi HRu HDf HGw
    generalize encUp f = E at *
    have d1 : ¬ (4077 : Int) < (E.length : Int) := by omega
    go_upto_region 7 with (first
      | (refine wpList_loadBk rfl 31 (.tmp 2) rfl g (by rfl) 31 cf.toArray _ (by first | exact (HU.out _ (HT.out _ HX15.out)).1) Tryz.underlying31 (by rfl) (by rw [List.size_toArray, HCf.out]; exact HSu.out) ?_)
      | (go_at_call 14; refine (HGu.out w15 (HT.out _ HX15.out)).mono ?_; rintro e w16 ⟨rfl, h2⟩; have HX16 := Lib.hid (HX15.out.trans (h2.mono HX15.out.size)); have HO16 := Lib.hid (HO15.out.bel h2); clear h2))
    go_upto_region 8 with (first
      | (refine wpList_loadBk rfl 31 (.tmp 2) rfl g (by rfl) 31 cf.toArray _ (by first | exact (HU.out _ (HT.out _ HX16.out)).1) Tryz.underlying31 (by rfl) (by rw [List.size_toArray, HCf.out]; exact HSu.out) ?_)
      | (go_at_call 17; refine (HRe.out w16 (HT.out _ HX16.out)).mono ?_; rintro e w17 ⟨eA, ec, rfl, h1, h2, h3⟩; have HX17 := Lib.hid (HX16.out.trans (h3.mono HX16.out.size)); have HN17 := Lib.hid (Bn.of_own h1); have HO17 := Lib.hid (HO16.out.bel h3); clear h1 h2 h3))
    go_upto_region 10 with (first
      | (refine wpList_loadBk rfl 31 (.tmp 2) rfl g (by rfl) 31 cf.toArray _ (by first | exact (HU.out _ (HT.out _ HX17.out)).1) Tryz.underlying31 (by rfl) (by rw [List.size_toArray, HCf.out]; exact HSu.out) ?_)
      | (go_at_call 11; refine (HFu.out w17 (HT.out _ HX17.out)).mono ?_; rintro e w18 ⟨P1, Pa, Pp, Pq, Pr, Ps, P2, Pb, rfl, h1, h2⟩; have HX18 := Lib.hid (HX17.out.trans (h2.mono HX17.out.size)); have HM18 := Lib.hid h1; have HO18 := Lib.hid (HO17.out.bel h2); have HN18 := Lib.hid (HN17.out.bel h2); clear h1 h2)
      | (go_at_call 16; refine (HSz.out w18 P1 Pa Pp Pq Pr Ps P2 Pb _ HM18.out).mono ?_; rintro e w19 ⟨rfl, h2⟩; have HX19 := Lib.hid (HX18.out.trans (h2.mono HX18.out.size)); have HO19 := Lib.hid (HO18.out.bel h2); have HN19 := Lib.hid (HN18.out.bel h2); have HN19a := Lib.hid (HN19.out.bel ((Below.refl w19.heap.size w19).alloc (Nat.le_refl _) (.cells #[] 5))); clear h2))
    go_upto_region 13 with (first
      | (at_builtin; refine wpList_app _ rfl (.tmp 78) (.tmp 79) _ rfl 5 i0 _ 1 1 Tryz.underlying22 Hi.out Hz0.out Hz1.out Hz2.out rfl (by omega) (some ⟨w19.heap.size, 0, none⟩) 0 0 [] rfl (foot.Own.empty (Bk.new w19 _ _)) _ eA E.length ec HN19.out.nil (bv E) rfl HN19a.out.rg (bv_one _) (by unfold maxLen; omega) (by omega) ?_; intro A3 c3 w20 ho hc hf; rw [Nat.zero_add] at ho ⊢; have HD20 : Hid (Bn w20 (sf A3) A3 c3 E) := Bn.of_own ho; have h8 : Below w19.heap.size w19 w20 := (((Below.refl _ _).alloc (Nat.le_refl _) _).trans (hc.below (fun j hj => by rw [sf_some] at hj; exact Nat.le_of_eq hj) (by simp))); have HX20 := Lib.hid (HX19.out.trans (h8.mono HX19.out.size)); have HO20 := Lib.hid (HO19.out.bel h8); have HN20 := Lib.hid (HN19.out.bel h8); clear ho hc hf h8)
      | (go_at_call 6; refine (HDc.out A3 c3 w20 HD20.out.nil HD20.out.bs).mono ?_; rintro e w21 ⟨Q1, Qa, Qp, Qq, Qr, Qs, Q2, Qb, nA, nc, rfl, h1, h2, h3⟩; have HX21 := Lib.hid (HX20.out.trans (h3.mono HX20.out.size)); have HO21 := Lib.hid (HO20.out.bel h3); have HN21 := Lib.hid (HN20.out.bel h3); have HA21 := Lib.hid h1; have HT21 := Lib.hid h2; have HK0 := Lib.hid (Bk.new w21 31 zeroUC.toArray); clear h1 h2 h3)
      | (refine wpList_storeBk rfl 31 (.tmp 8) (.tmp 82) rfl w21.heap.size (by rfl) (upc Q1 f.gone.length Qa (atc f.a Qp Qq Qr Qs) Q2 f.here.length Qb).toArray (by rfl) 31 zeroUC.toArray (HK0.out.alloc _) HSu.out rfl (by rfl) ?_; intro w22 h5 h6 h7; have K22 := Lib.hid h5; have C22 := Lib.hid h6; clear h5 h6 h7)
      | (refine wpList_storeBk rfl 33 (.tmp 9) (.tmp 83) rfl (w21.heap.size + 1) (by rfl) #[.int .i64 0, .int .i64 0, .slice nA 0 nc] (by rfl) 33 zeroN.toArray (Bk.chg (by have := Bk.new (w21.alloc (.cells zeroUC.toArray 31)) 33 zeroN.toArray; rwa [World.size_alloc] at this) C22.out (by omega)) HSn.out rfl (by rfl) ?_; intro w23 h5 h6 h7; have N23 := Lib.hid h5; have C23 := Lib.hid h6; clear h5 h6 h7))
    have HB23 : Hid (Below w21.heap.size w21 w23) := by
      have h1 := (heads w21 zeroUC zeroN 31 33).1
      have h2 := h1.trans (C22.out.below (fun k e => by omega) h1.size)
      exact h2.trans (C23.out.below (fun k e => by omega) h2.size)
    have K23 := Lib.hid (K22.out.chg C23.out (by omega))
    have HX23 := Lib.hid (HX21.out.trans (HB23.out.mono HX21.out.size))
    have cv1 := run_str (c := bc) (HO21.out.bel HB23.out).bs
    have cv2 := run_str (c := ec) (HN21.out.bel HB23.out).bs
    have HSz2 := Lib.hid (HSy.out w23 Q1 Qa Qp Qq Qr Qs Q2 Qb _ (HT.out _ HX23.out) (HA21.out.bel HB23.out))
    have HT23 := Lib.hid (HT21.out.bel HB23.out)
    have HCq : Hid ((upc Q1 f.gone.length Qa (atc f.a Qp Qq Qr Qs) Q2 f.here.length Qb).length = 11) := rfl
    generalize upc Q1 f.gone.length Qa (atc f.a Qp Qq Qr Qs) Q2 f.here.length Qb = cq at *
    obtain ⟨gq, hgq⟩ : ∃ gq, gq = w21.heap.size := ⟨_, rfl⟩
    rw [← hgq] at K23 N23 ⊢
    clear hgq HK0 K22 C22 C23 HB23 HX16 HX17 HX18 HX19 HX20 HX21
    go_wp2_with (first
      | (refine wpList_loadG (by rfl) 31 (.tmp 8) rfl gq (by rfl) 31 cq.toArray _ K23.out Tryz.underlying31 (by rfl) (by rw [List.size_toArray, HCq.out]; exact HSu.out) ?_)
      | (refine wpList_loadG (by rfl) 31 (.tmp 2) rfl g (by rfl) 31 cf.toArray _ (HU.out _ (HT.out _ HX23.out)).1 Tryz.underlying31 (by rfl) (by rw [List.size_toArray, HCf.out]; exact HSu.out) ?_)
      | (go_at_call 8; refine HSz2.out.mono ?_; rintro e w24 ⟨rfl, h2⟩; have HX24 := Lib.hid (HX23.out.trans (h2.mono HX23.out.size)); have V4 := N23.out.below h2 N23.out.lt; have v0 := V4.cell 0; have v1 := V4.cell 1; have v2 := V4.cell 2; simp at v0 v1 v2; have HTx := Lib.hid (HTd.out w24 nA nc _ (HT23.out.bel h2)); clear h2 V4)
      | (go_at_call 9; refine HTx.out.mono ?_; rintro e w25 ⟨rfl, h2⟩; have HX25 := Lib.hid (HX24.out.trans (h2.mono HX24.out.size)); clear h2)
      | (go_at_call 10; refine (HLi.out _).mono ?_; rintro e w26 ⟨rfl, h2⟩; have HX26 := Lib.hid (HX25.out.trans (h2.mono HX25.out.size)); clear h2))
    go_ret
    exact ⟨rfl, HWe.out _ HX26.out⟩
  · obtain rfl : z = true := HZ.out.2 hg
    have HSz := Lib.hid (HSi.out (encUp f).length ⟨fun _ => rfl, fun h => absurd hg h⟩)
    have HRe := Lib.hid (HRu.out hg)
    clear HV HZ hg HSi HRu HDf HGw
    generalize encUp f = E at *
    have d1 : (4077 : Int) < (E.length : Int) := by omega
    go_upto_region 7 with (first
      | (refine wpList_loadBk rfl 31 (.tmp 2) rfl g (by rfl) 31 cf.toArray _ (by first | exact (HU.out _ (HT.out _ HX15.out)).1) Tryz.underlying31 (by rfl) (by rw [List.size_toArray, HCf.out]; exact HSu.out) ?_)
      | (go_at_call 14; refine (HGu.out w15 (HT.out _ HX15.out)).mono ?_; rintro e w16 ⟨rfl, h2⟩; have HX16 := Lib.hid (HX15.out.trans (h2.mono HX15.out.size)); clear h2))
    go_upto_region 8 with (first
      | (refine wpList_loadBk rfl 31 (.tmp 2) rfl g (by rfl) 31 cf.toArray _ (by first | exact (HU.out _ (HT.out _ HX16.out)).1) Tryz.underlying31 (by rfl) (by rw [List.size_toArray, HCf.out]; exact HSu.out) ?_)
      | (go_at_call 17; refine (HRe.out w16 (HT.out _ HX16.out)).mono ?_; rintro e w17 ⟨eA, ec, rfl, h1, h2, h3⟩; have HX17 := Lib.hid (HX16.out.trans (h3.mono HX16.out.size)); clear h1 h2 h3))
    go_wp2_with (first
      | (refine wpList_loadBk rfl 31 (.tmp 2) rfl g (by rfl) 31 cf.toArray _ (by first | exact (HU.out _ (HT.out _ HX17.out)).1) Tryz.underlying31 (by rfl) (by rw [List.size_toArray, HCf.out]; exact HSu.out) ?_)
      | (go_at_call 11; refine (HFu.out w17 (HT.out _ HX17.out)).mono ?_; rintro e w18 ⟨P1, Pa, Pp, Pq, Pr, Ps, P2, Pb, rfl, h1, h2⟩; have HX18 := Lib.hid (HX17.out.trans (h2.mono HX17.out.size)); have HM18 := Lib.hid h1; clear h1 h2)
      | (go_at_call 16; refine (HSz.out w18 P1 Pa Pp Pq Pr Ps P2 Pb _ HM18.out).mono ?_; rintro e w19 ⟨rfl, h2⟩; have HX19 := Lib.hid (HX18.out.trans (h2.mono HX18.out.size)); clear h2)
      | (go_at_call 10; refine (HLi.out _).mono ?_; rintro e w20 ⟨rfl, h2⟩; have HX20 := Lib.hid (HX19.out.trans (h2.mono HX19.out.size)); clear h2))
    go_ret
    exact ⟨rfl, HWe.out _ HX20.out⟩
  · have hz : z = false := by
      cases z
      · rfl
      · exact absurd (HZ.out.1 rfl) hg
    subst hz
    have HSz : Hid (∀ (w' : World) (X1 : Option Addr) (Xa : Nat) (Xp : Option Addr) (Xq : Nat) (Xr : Option Addr) (Xs : Nat) (X2 : Option Addr) (Xb : Nat) (E : Foot), Um w' E f X1 Xa Xp Xq Xr Xs X2 Xb → Calls Tryz.prog 16 #[.agg (upc X1 f.gone.length Xa (atc f.a Xp Xq Xr Xs) X2 f.here.length Xb).toArray] w' fun e w2 => e = .returned (.int .i64 0) ∧ Below w'.heap.size w' w2) := HSi.out 0 ⟨fun h => absurd h hg, fun _ => rfl⟩
    clear HV HZ hg HSi HRu HDf HGw
    go_upto_region 6 with (first
      | (refine wpList_loadBk rfl 31 (.tmp 2) rfl g (by rfl) 31 cf.toArray _ (by first | exact (HU.out _ (HT.out _ HX15.out)).1) Tryz.underlying31 (by rfl) (by rw [List.size_toArray, HCf.out]; exact HSu.out) ?_)
      | (go_at_call 14; refine (HGu.out w15 (HT.out _ HX15.out)).mono ?_; rintro e w16 ⟨rfl, h2⟩; have HX16 := Lib.hid (HX15.out.trans (h2.mono HX15.out.size)); clear h2))
    go_wp2_with (first
      | (refine wpList_loadG (by rfl) 31 (.tmp 2) rfl g (by rfl) 31 cf.toArray _ (by first | exact (HU.out _ (HT.out _ HX16.out)).1) Tryz.underlying31 (by rfl) (by rw [List.size_toArray, HCf.out]; exact HSu.out) ?_)
      | (go_at_call 11; refine (HFu.out w16 (HT.out _ HX16.out)).mono ?_; rintro e w17 ⟨P1, Pa, Pp, Pq, Pr, Ps, P2, Pb, rfl, h1, h2⟩; have HX17 := Lib.hid (HX16.out.trans (h2.mono HX16.out.size)); have HM17 := Lib.hid h1; clear h1 h2)
      | (go_at_call 16; refine (HSz.out w17 P1 Pa Pp Pq Pr Ps P2 Pb _ HM17.out).mono ?_; rintro e w18 ⟨rfl, h2⟩; have HX18 := Lib.hid (HX17.out.trans (h2.mono HX17.out.size)); clear h2)
      | (go_at_call 10; refine (HLi.out _).mono ?_; rintro e w19 ⟨rfl, h2⟩; have HX19 := Lib.hid (HX18.out.trans (h2.mono HX18.out.size)); clear h2))
    go_ret
    exact ⟨rfl, HWe.out _ HX19.out⟩
set_option maxRecDepth 100000 in
theorem walk {H : Type} {enc : TypeId × Value → H} {W : World} {base : Nat} {v0 v1 : Value} {d0 d1 : DataW H} {p0 p1 : List MemPlace}
    (hv0 : Value.okWide Tryz.prog W .any base 31 v0) (h0 : DataW.Trod enc Tryz.prog W 0 (fun _ => true) true 31 v0 d0 p0)
    (hv1 : Value.okWide Tryz.prog W .any base 31 v1) (h1 : DataW.Trod enc Tryz.prog W 0 (fun _ => true) true 31 v1 d1 p1) :
    Calls Tryz.prog 4 #[v0, v1] W fun e w' => e = .returned (.bool true) ∧ Below W.heap.size W w' := by
  obtain ⟨cs0, u, rfl, A1, Aa, Ap, Aq, Ar, As, A2, Ab, hcs, hm, hu1, hu2⟩ := open_st Tryz.underlying31 opens_upd hv0 h0
  obtain ⟨cs1, v, rfl, V1, Va, Vp, Vq, Vr, Vs, V2, Vb, hds, hn, hv1, hv2⟩ := open_st Tryz.underlying31 opens_upd hv1 h1
  rw [arr_eq hcs, arr_eq hds]
  exact core u v A1 Aa Ap Aq Ar As A2 Ab V1 Va Vp Vq Vr Vs V2 Vb _ W hm hn hu1 hu2 hv1 hv2
end Go.Proofs.YtaeeeinpelfppaaGreat.updateWrites
