/- The walk of the law AttrForms: the Go text returns true and writes nothing that was there. No condition. Printed by gen_attrforms.py. -/
import Derived.Test.YtgpmkbpahnbhlaaGreatAttrOpen
import Derived.Test.YtgpmkbpahnbhlaaGreatAttrPub
import Derived.Test.YtgpmkbpahnbhlaaGreatAttrLives
import Derived.Test.YtgpmkbpahnbhlaaGreatRefGood8
import Derived.Test.YtgpmkbpahnbhlaaGreatMv
namespace Go.Proofs.YtgpmkbpahnbhlaaGreat.attrForms
open Go.RowKit Go.Proofs.YtgpmkbpahnbhlaaGreat.kit Go.Proofs.YtgpmkbpahnbhlaaGreat.mem Go.Proofs.YtgpmkbpahnbhlaaGreat.foot Go.Proofs.YtgpmkbpahnbhlaaGreat.nums Go.Proofs.YtgpmkbpahnbhlaaGreat.asn Go.Proofs.YtgpmkbpahnbhlaaGreat.pth Go.Proofs.YtgpmkbpahnbhlaaGreat.octet Go.Proofs.YtgpmkbpahnbhlaaGreat.attr Go.Proofs.YtgpmkbpahnbhlaaGreat.mv
set_option linter.unusedVariables false
set_option linter.unusedSimpArgs false
theorem _root_.Go.Proofs.YtgpmkbpahnbhlaaGreat.mem.Bk.all {w : World} {g : Nat} {t : TypeId} {cs : List Value} (h : Bk w g t cs.toArray) : w.rangeAt g 0 cs := fun j v hv => by
  rw [h.cell, List.getElem?_toArray, Nat.zero_add]
  exact hv
/-- a whole block written (one operation) -/
theorem wp_storeBk {P : Program} {o : Oper} {a : Act} {w : World} {K : Act → World → Prop} {Q : Exit → Act → World → Prop} (ty : TypeId) (x y : Operand) (ho : o.op = .store ty x y)
    (g : Nat) (hx : a.eval x = .pointer (some ⟨g, 0, none⟩)) (cs : Array Value) (hy : a.eval y = .agg cs) (t : TypeId) (old : Array Value) (hg : Bk w g t old)
    (hi : (P.info? ty).map (·.size) = some cs.size) (hold : old.size = cs.size) (h1 : cs.toList.all (·.oneCell') = true)
    (h : ∀ w', Bk w' g t cs → Chg (fun k => k = g) w w' → w'.heap.size = w.heap.size → K (a.put o.dst undef) w') : o.wp P a w K Q :=
  wp_store_row ty x y ho g cs hx hy t old hg hi hold (by rw [← Array.all_toList]; exact h1) (h _ (bk_row hg cs) (chg_row w g cs) (by simp))
/-- the first of the three behind number k that a has not -/
def mf (bt : Nat → Bool) (k : Nat) : Nat := if k < 1 ∧ bt 1 = false then 1 else if k < 2 ∧ bt 2 = false then 2 else if k < 3 ∧ bt 3 = false then 3 else 0
theorem mf_step (bt : Nat → Bool) {k : Nat} (h1 : 1 ≤ k) (h3 : k ≤ 3) : mf bt (k - 1) = if bt k = false then k else mf bt k := by
  have hk : k = 1 ∨ k = 2 ∨ k = 3 := by omega
  rcases hk with rfl | rfl | rfl <;> simp [mf]
theorem mf_zero (a : Atr) : mf (bitI a.has) 0 = missK a.has := by simp [mf, missK]
set_option maxRecDepth 100000 in
set_option maxHeartbeats 8000000 in
theorem core (a b : Atr) (kind : Int) (hkind : (Lit.int .i64 kind).wf = true) (Ap Ac Bp Bc : Option Addr) (cp cc dp dc : Nat) (G H : Foot) (W : World) (hm : Am W G a Ap cp Ac cc) (hn : Am W H b Bp dp Bc dc) :
    Calls Tryz.prog 3 #[.agg (atc a Ap cp Ac cc).toArray, .agg (atc b Bp dp Bc dc).toArray, .int .i64 kind] W fun e w' => e = .returned (.bool true) ∧ Below W.heap.size W w' := by
  have HSz : Hid ((Tryz.prog.info? 26).map (·.size) = some 9) := info_atr
  have HSn : Hid ((Tryz.prog.info? 34).map (·.size) = some 3) := info_ntc
  have hb1 : Below W.heap.size W ((W.alloc (.cells (atc a Ap cp Ac cc).toArray 26)).alloc (.cells (atc b Bp dp Bc dc).toArray 26)) := ((Below.refl _ _).alloc (Nat.le_refl _) _).alloc (by simp) _
  obtain ⟨w1, hw1⟩ : ∃ w1, w1 = (W.alloc (.cells (atc a Ap cp Ac cc).toArray 26)).alloc (.cells (atc b Bp dp Bc dc).toArray 26) := ⟨_, rfl⟩
  have hka : Bk w1 W.heap.size 26 (atc a Ap cp Ac cc).toArray := by rw [hw1]; exact (Bk.new W _ _).alloc _
  have hkb : Bk w1 (W.heap.size + 1) 26 (atc b Bp dp Bc dc).toArray := by
    have := Bk.new (W.alloc (.cells (atc a Ap cp Ac cc).toArray 26)) 26 (atc b Bp dp Bc dc).toArray
    rw [World.size_alloc] at this
    rw [hw1]; exact this
  rw [← hw1] at hb1
  have X := Lib.hid hb1
  have HF1 := Lib.hid (Few8_any a Ap Ac cp cc G w1.drew (hm.bel hb1.drew))
  have HF2 : Hid (∀ w', Below w1.heap.size w1 w' → Calls Tryz.prog 4 #[.agg (atc b Bp dp Bc dc).toArray] w' (RetA (fewA b) w')) := fun w' h => Few8_any b Bp Bc dp dc H w' (hn.bel (hb1.trans (h.mono hb1.size)))
  obtain ⟨g, hg⟩ : ∃ g, g = W.heap.size := ⟨_, rfl⟩
  have HG := Lib.hid hg
  have KA : Hid (Bk w1 g 26 (atc a Ap cp Ac cc).toArray) := by rw [hg]; exact hka
  have KB : Hid (Bk w1 (g + 1) 26 (atc b Bp dp Bc dc).toArray) := by rw [hg]; exact hkb
  have hpa : nsz (fewA a).path ≤ 3612 := fewP_sz a.path
  have hpb : nsz (fewA b).path ≤ 3612 := fewP_sz b.path
  have hca : (fewA a).comms.length ≤ 260 := by show (a.comms.take 260).length ≤ 260; rw [List.length_take]; omega
  have hcb : (fewA b).comms.length ≤ 260 := by show (b.comms.take 260).length ≤ 260; rw [List.length_take]; omega
  have hfa := fewA_twice a
  have hfb := fewA_twice b
  have HC0 : Hid ((atc a Ap cp Ac cc).length = 9) := rfl
  have HD0 : Hid ((atc b Bp dp Bc dc).length = 9) := rfl
  have HCs : Hid ((atc a Ap cp Ac cc).toArray.size = 9) := rfl
  have HDs : Hid ((atc b Bp dp Bc dc).toArray.size = 9) := rfl
  have HL1 : Hid (g + 1 < w1.heap.size) := KB.out.lt
  clear hm hn hb1 hka hkb
  generalize atc a Ap cp Ac cc = cs0 at *
  generalize atc b Bp dp Bc dc = ds0 at *
  generalize fewA a = f at *
  generalize fewA b = k at *
  obtain ⟨z, hz⟩ := bool_of (GoodA f)
  obtain ⟨z2, hz2⟩ := bool_of (f = k)
  have HFa : Hid (∀ (w' : World) (Bp Bc : Option Addr) (dp dc : Nat) (E : Foot), Am w' E f Bp dp Bc dc → Calls Tryz.prog 4 #[.agg (atc f Bp dp Bc dc).toArray] w' (RetA f w')) := fun w' Bp Bc dp dc E h => by have := Few8_any f Bp Bc dp dc E w' h; rwa [hfa] at this
  have HFb : Hid (∀ (w' : World) (Bp Bc : Option Addr) (dp dc : Nat) (E : Foot), Am w' E k Bp dp Bc dc → Calls Tryz.prog 4 #[.agg (atc k Bp dp Bc dc).toArray] w' (RetA k w')) := fun w' Bp Bc dp dc E h => by have := Few8_any k Bp Bc dp dc E w' h; rwa [hfb] at this
  have HGd := Lib.hid (fun (w' : World) (Bp Bc : Option Addr) (dp dc : Nat) (E : Foot) (h : Am w' E f Bp dp Bc dc) => GoodP_any f Bp Bc dp dc E w' z hz h (by omega) (by omega))
  have HRg := Lib.hid (fun (w' : World) (Bp Bc : Option Addr) (dp dc : Nat) (E : Foot) (h : Am w' E f Bp dp Bc dc) => refGood_any f Bp Bc dp dc E w' z hz h (by omega) (by omega))
  have HNm := Lib.hid (fun (w' : World) (Bp Bc : Option Addr) (dp dc : Nat) (E : Foot) (h : Am w' E f Bp dp Bc dc) => NormP_any f Bp Bc dp dc E w' h (by omega) (by omega))
  have HRn := Lib.hid (fun (w' : World) (Bp Bc : Option Addr) (dp dc : Nat) (E : Foot) (h : Am w' E f Bp dp Bc dc) => refNorm_any f Bp Bc dp dc E w' h (by omega) (by omega))
  have hnp := nsz_normA f
  have hnc := comms_normA f
  have HSn1 := Lib.hid (fun (w' : World) (Bp Bc Dp Dc : Option Addr) (dp dc fp fc : Nat) (E F : Foot) (h : Am w' E (normA f) Bp dp Bc dc) (h2 : Am w' F (normA f) Dp fp Dc fc) => refSame_any (normA f) (normA f) Bp Bc Dp Dc dp dc fp fc E F w' true (by simp) h h2 (by omega) (by omega) (by omega) (by omega))
  have HSp := Lib.hid (fun (w' : World) (Bp Bc Dp Dc : Option Addr) (dp dc fp fc : Nat) (E F : Foot) (h : Am w' E f Bp dp Bc dc) (h2 : Am w' F k Dp fp Dc fc) => SameP_any f k Bp Bc Dp Dc dp dc fp fc E F w' z2 hz2 h h2 (by omega) (by omega) (by omega) (by omega))
  have HRs := Lib.hid (fun (w' : World) (Bp Bc Dp Dc : Option Addr) (dp dc fp fc : Nat) (E F : Foot) (h : Am w' E f Bp dp Bc dc) (h2 : Am w' F k Dp fp Dc fc) => refSame_any f k Bp Bc Dp Dc dp dc fp fc E F w' z2 hz2 h h2 (by omega) (by omega) (by omega) (by omega))
  have HFl := Lib.hid (fun w' => FlagsP_any kind w')
  have HRf := Lib.hid (fun w' => refFlags_any kind w')
  have HHo := Lib.hid (fun (h : (Lit.int .u32 f.hop).wf = true) w' => HopP_any f.hop h w')
  have HRh := Lib.hid (fun (h : (Lit.int .u32 f.hop).wf = true) w' => refHop_any f.hop h w')
  have HWl := Lib.hid (fun (w' : World) (Bp Bc : Option Addr) (dp dc : Nat) => Well_any f Bp Bc dp dc w')
  have HHs := Lib.hid (fun (w' : World) (Bp Bc : Option Addr) (dp dc : Nat) (j : Nat) (hj : j ≤ 8) => refHas_any f Bp Bc dp dc j hj w')
  have HLi := Lib.hid lives_any
  have zz : (z != z) = false := by simp
  have zz2 : (z2 != z2) = false := by simp
  obtain ⟨fk, hfk⟩ : ∃ n, flg kind = n := ⟨_, rfl⟩
  obtain ⟨hb, hhb⟩ : ∃ n, hopB f.hop = n := ⟨_, rfl⟩
  rw [hfk] at HFl HRf
  rw [hhb] at HHo HRh
  have zz3 : (fk != fk) = false := by simp
  have zz4 : (hb != hb) = false := by simp
  clear hz hz2 hpa hpb hca hcb hfa hfb hnp hnc hfk hhb
  go_enter Tryz.func3, Tryz.ntmps3
  go_upto_region 1 with fail
  rw [← hw1, ← hg]
  clear hw1 hg
  refine region_mv (S := fun w' => Bk w' g 26 cs0.toArray ∧ Bk w' (g + 1) 26 ds0.toArray) (A := List.range 4) (sq := [.p 0, .p 2, .c 1, .c 3, .d 4, .d 5]) (by kernel_rfl) (by kernel_rfl) ?_ (fun hHeld => ?_)
  · exact ⟨KA.out.drew, KB.out.drew⟩
  repeat ((with_reducible refine mv_at ?_); (first
    | (refine ⟨_, .agg cs0.toArray, rfl, yieldsIf_load_mid (by rfl) 26 (.tmp 3) rfl g 0 (by rfl) cs0 _ (fun w h => (h.1).all) Tryz.underlying26 (by rfl) (by rw [HC0.out]; exact HSz.out), ?_⟩)
    | (refine ⟨_, .agg ds0.toArray, rfl, yieldsIf_load_mid (by rfl) 26 (.tmp 4) rfl (g + 1) 0 (by rfl) ds0 _ (fun w h => (h.2).all) Tryz.underlying26 (by rfl) (by rw [HD0.out]; exact HSz.out), ?_⟩)
    | (refine ⟨_, ?_, rfl, Or.inl ⟨by rfl, ?_⟩, ?_⟩; rotate_left; · (intro w hSw; (try dsimp only at hSw); go_simp <;> with_reducible rfl))
    | (refine ⟨_, undef, rfl, Or.inr ⟨by rfl, rfl⟩, ?_⟩)); try simp only [Act.put, List.getElem_toArray, List.getElem_cons_succ, List.getElem_cons_zero, List.setIfInBounds_toArray, List.set_cons_zero, List.set_cons_succ])
  refine mv_c (o := _) rfl (fun K hK => ?_)
  go_simp
  go_at_call 4
  refine HF1.out.mono ?_
  rintro e w2 ⟨Ap, cp, Ac, cc, rfl, h1, h⟩
  have MA : Hid (Am w2 (fun j => g + 1 < j) f Ap cp Ac cc) := h1.mono fun j _ hj => Nat.lt_of_lt_of_le HL1.out hj
  have X' := Lib.hid (X.out.drew.trans (h.mono X.out.drew.size))
  have KA' := Lib.hid (KA.out.drew.below h KA.out.lt)
  have KB' := Lib.hid (KB.out.drew.below h KB.out.lt)
  clear X KA KB
  have X := X'
  have KA := KA'
  have KB := KB'
  clear X' KA' KB'
  have Y2 := Lib.hid (((Below.refl w1.heap.size w1).drew).trans (h.mono (Nat.le_refl _)))
  clear h1 h
  refine hK.out _ _ ?_ (fun hHeld => ?_)
  · exact ⟨KA.out, KB.out⟩
  clear hK K
  try simp only [Act.put, List.getElem_toArray, List.getElem_cons_succ, List.getElem_cons_zero, List.setIfInBounds_toArray, List.set_cons_zero, List.set_cons_succ]
  refine mv_c (o := _) rfl (fun K hK => ?_)
  go_simp
  go_at_call 4
  refine (HF2.out w2 Y2.out).mono ?_
  rintro e w3 ⟨Bp, dp, Bc, dc, rfl, h1, h⟩
  have MB : Hid (Am w3 (fun j => g + 1 < j) k Bp dp Bc dc) := h1.mono fun j _ hj => Nat.lt_of_lt_of_le (Nat.lt_of_lt_of_le HL1.out Y2.out.size) hj
  have X' := Lib.hid (X.out.trans (h.mono X.out.size))
  have KA' := Lib.hid (KA.out.below h KA.out.lt)
  have KB' := Lib.hid (KB.out.below h KB.out.lt)
  have MA' := Lib.hid (MA.out.bel h)
  clear X KA KB MA
  have X := X'
  have KA := KA'
  have KB := KB'
  have MA := MA'
  clear X' KA' KB' MA'
  clear h1 h
  refine hK.out _ _ ?_ (fun hHeld => ?_)
  · exact ⟨KA.out, KB.out⟩
  clear hK K
  try simp only [Act.put, List.getElem_toArray, List.getElem_cons_succ, List.getElem_cons_zero, List.setIfInBounds_toArray, List.set_cons_zero, List.set_cons_succ]
  refine mv_d (o := _) rfl (fun K hK => ?_)
  refine wp_storeBk 26 (.tmp 3) (.tmp 10) rfl g (by rfl) (atc f Ap cp Ac cc).toArray (by rfl) 26 cs0.toArray KA.out HSz.out HCs.out (by rfl) ?_
  intro w4 k4 c4 l4
  have X' := Lib.hid (X.out.trans (c4.below (fun j e => by rw [e, HG.out]; exact Nat.le_refl _) X.out.size))
  have KA' := Lib.hid (k4)
  have KB' := Lib.hid (KB.out.chg c4 (by omega))
  have MA' := Lib.hid (MA.out.chg c4 (fun j _ hj e => by omega))
  have MB' := Lib.hid (MB.out.chg c4 (fun j _ hj e => by omega))
  clear X KA KB MA MB
  have X := X'
  have KA := KA'
  have KB := KB'
  have MA := MA'
  have MB := MB'
  clear X' KA' KB' MA' MB'
  clear k4 c4 l4
  refine hK.out _ _ ?_
  clear hK K
  try simp only [Act.put, List.getElem_toArray, List.getElem_cons_succ, List.getElem_cons_zero, List.setIfInBounds_toArray, List.set_cons_zero, List.set_cons_succ]
  refine mv_d (o := _) rfl (fun K hK => ?_)
  refine wp_storeBk 26 (.tmp 4) (.tmp 12) rfl (g + 1) (by rfl) (atc k Bp dp Bc dc).toArray (by rfl) 26 ds0.toArray KB.out HSz.out HDs.out (by rfl) ?_
  intro w5 k5 c5 l5
  have X' := Lib.hid (X.out.trans (c5.below (fun j e => by rw [e, HG.out]; exact Nat.le_succ _) X.out.size))
  have KA' := Lib.hid (KA.out.chg c5 (by omega))
  have KB' := Lib.hid (k5)
  have MA' := Lib.hid (MA.out.chg c5 (fun j _ hj e => by omega))
  have MB' := Lib.hid (MB.out.chg c5 (fun j _ hj e => by omega))
  clear X KA KB MA MB
  have X := X'
  have KA := KA'
  have KB := KB'
  have MA := MA'
  have MB := MB'
  clear X' KA' KB' MA' MB'
  clear k5 c5 l5
  refine hK.out _ _ ?_
  clear hK K
  try simp only [Act.put, List.getElem_toArray, List.getElem_cons_succ, List.getElem_cons_zero, List.setIfInBounds_toArray, List.set_cons_zero, List.set_cons_succ]
  refine mv_end ?_
  clear HF1 HF2 HC0 HD0 HCs HDs HL1 Y2
  go_upto_region 2 with fail
  refine region_mv (S := fun w' => Bk w' g 26 (atc f Ap cp Ac cc).toArray ∧ Bk w' (g + 1) 26 (atc k Bp dp Bc dc).toArray ∧ w'.cell? ⟨g, 3, none⟩ = some (.int .u32 f.hop)) (A := List.range 42) (sq := [.p 0, .p 3, .c 1, .c 2, .c 4, .p 5, .p 6, .p 7, .p 10, .c 8, .c 9, .c 11, .c 12, .p 13, .p 14, .p 15, .p 16, .p 18, .p 21, .p 22, .c 17, .c 19, .c 20, .c 23, .p 24, .p 25, .p 26, .p 27, .p 29, .c 28, .c 30, .p 31, .p 32, .p 33, .p 34, .p 35, .p 37, .p 38, .c 36, .c 39, .p 40, .p 41]) (by kernel_rfl) (by kernel_rfl) ?_ (fun hHeld => ?_)
  · exact ⟨KA.out.drew, KB.out.drew, (KA.out.drew.cell 3).trans (show _ = some (Value.int .u32 f.hop) from rfl)⟩
  have h0 := (Below.refl w5.heap.size w5).drew
  have X' := Lib.hid (X.out.trans (h0.mono X.out.size))
  have KA' := Lib.hid (KA.out.below h0 KA.out.lt)
  have KB' := Lib.hid (KB.out.below h0 KB.out.lt)
  have MA' := Lib.hid (MA.out.bel h0)
  have MB' := Lib.hid (MB.out.bel h0)
  clear X KA KB MA MB
  have X := X'
  have KA := KA'
  have KB := KB'
  have MA := MA'
  have MB := MB'
  clear X' KA' KB' MA' MB'
  clear h0
  repeat ((with_reducible refine mv_at ?_); (first
    | (refine ⟨_, .agg (atc f Ap cp Ac cc).toArray, rfl, yieldsIf_load_mid (by rfl) 26 (.tmp 3) rfl g 0 (by rfl) (atc f Ap cp Ac cc) _ (fun w h => (h.1).all) Tryz.underlying26 (by rfl) HSz.out, ?_⟩)
    | (refine ⟨_, .agg (atc k Bp dp Bc dc).toArray, rfl, yieldsIf_load_mid (by rfl) 26 (.tmp 4) rfl (g + 1) 0 (by rfl) (atc k Bp dp Bc dc) _ (fun w h => (h.2.1).all) Tryz.underlying26 (by rfl) HSz.out, ?_⟩)
    | (refine ⟨_, ?_, rfl, Or.inl ⟨by rfl, ?_⟩, ?_⟩; rotate_left; · (intro w hSw; (try dsimp only at hSw); go_simp <;> with_reducible rfl))
    | (refine ⟨_, undef, rfl, Or.inr ⟨by rfl, rfl⟩, ?_⟩)); try simp only [Act.put, List.getElem_toArray, List.getElem_cons_succ, List.getElem_cons_zero, List.setIfInBounds_toArray, List.set_cons_zero, List.set_cons_succ])
  refine mv_c (o := _) rfl (fun K hK => ?_)
  go_simp
  go_at_call 4
  refine (HFa.out _ _ _ _ _ _ MA.out).mono ?_
  rintro e w6 ⟨Ep, Eq, Ec, Ed, rfl, h1, h⟩
  have X' := Lib.hid (X.out.trans (h.mono X.out.size))
  have KA' := Lib.hid (KA.out.below h KA.out.lt)
  have KB' := Lib.hid (KB.out.below h KB.out.lt)
  have MA' := Lib.hid (MA.out.bel h)
  have MB' := Lib.hid (MB.out.bel h)
  clear X KA KB MA MB
  have X := X'
  have KA := KA'
  have KB := KB'
  have MA := MA'
  have MB := MB'
  clear X' KA' KB' MA' MB'
  have HE := Lib.hid h1
  clear h1 h
  refine hK.out _ _ ?_ (fun hHeld => ?_)
  · exact ⟨KA.out, KB.out, (KA.out.cell 3).trans (show _ = some (Value.int .u32 f.hop) from rfl)⟩
  clear hK K
  try simp only [Act.put, List.getElem_toArray, List.getElem_cons_succ, List.getElem_cons_zero, List.setIfInBounds_toArray, List.set_cons_zero, List.set_cons_succ]
  refine mv_c (o := _) rfl (fun K hK => ?_)
  go_simp
  go_at_call 5
  refine (HGd.out _ _ _ _ _ _ HE.out).mono ?_
  rintro e w7 ⟨rfl, h⟩
  have X' := Lib.hid (X.out.trans (h.mono X.out.size))
  have KA' := Lib.hid (KA.out.below h KA.out.lt)
  have KB' := Lib.hid (KB.out.below h KB.out.lt)
  have MA' := Lib.hid (MA.out.bel h)
  have MB' := Lib.hid (MB.out.bel h)
  clear X KA KB MA MB
  have X := X'
  have KA := KA'
  have KB := KB'
  have MA := MA'
  have MB := MB'
  clear X' KA' KB' MA' MB'
  clear h
  refine hK.out _ _ ?_ (fun hHeld => ?_)
  · exact ⟨KA.out, KB.out, (KA.out.cell 3).trans (show _ = some (Value.int .u32 f.hop) from rfl)⟩
  clear hK K
  try simp only [Act.put, List.getElem_toArray, List.getElem_cons_succ, List.getElem_cons_zero, List.setIfInBounds_toArray, List.set_cons_zero, List.set_cons_succ]
  refine mv_c (o := _) rfl (fun K hK => ?_)
  go_simp
  go_at_call 6
  refine (HRg.out _ _ _ _ _ _ MA.out).mono ?_
  rintro e w8 ⟨rfl, h⟩
  have X' := Lib.hid (X.out.trans (h.mono X.out.size))
  have KA' := Lib.hid (KA.out.below h KA.out.lt)
  have KB' := Lib.hid (KB.out.below h KB.out.lt)
  have MA' := Lib.hid (MA.out.bel h)
  have MB' := Lib.hid (MB.out.bel h)
  clear X KA KB MA MB
  have X := X'
  have KA := KA'
  have KB := KB'
  have MA := MA'
  have MB := MB'
  clear X' KA' KB' MA' MB'
  clear h
  refine hK.out _ _ ?_ (fun hHeld => ?_)
  · exact ⟨KA.out, KB.out, (KA.out.cell 3).trans (show _ = some (Value.int .u32 f.hop) from rfl)⟩
  clear hK K
  try simp only [Act.put, List.getElem_toArray, List.getElem_cons_succ, List.getElem_cons_zero, List.setIfInBounds_toArray, List.set_cons_zero, List.set_cons_succ]
  repeat ((with_reducible refine mv_at ?_); (first
    | (refine ⟨_, .agg (atc f Ap cp Ac cc).toArray, rfl, yieldsIf_load_mid (by rfl) 26 (.tmp 3) rfl g 0 (by rfl) (atc f Ap cp Ac cc) _ (fun w h => (h.1).all) Tryz.underlying26 (by rfl) HSz.out, ?_⟩)
    | (refine ⟨_, .agg (atc k Bp dp Bc dc).toArray, rfl, yieldsIf_load_mid (by rfl) 26 (.tmp 4) rfl (g + 1) 0 (by rfl) (atc k Bp dp Bc dc) _ (fun w h => (h.2.1).all) Tryz.underlying26 (by rfl) HSz.out, ?_⟩)
    | (refine ⟨_, ?_, rfl, Or.inl ⟨by rfl, ?_⟩, ?_⟩; rotate_left; · (intro w hSw; (try dsimp only at hSw); go_simp <;> with_reducible rfl))
    | (refine ⟨_, undef, rfl, Or.inr ⟨by rfl, rfl⟩, ?_⟩)); try simp only [Act.put, List.getElem_toArray, List.getElem_cons_succ, List.getElem_cons_zero, List.setIfInBounds_toArray, List.set_cons_zero, List.set_cons_succ])
  refine mv_c (o := _) rfl (fun K hK => ?_)
  go_simp
  go_at_call 4
  refine (HFa.out _ _ _ _ _ _ MA.out).mono ?_
  rintro e w9 ⟨Ip, Iq, Ic, Id, rfl, h1, h⟩
  have X' := Lib.hid (X.out.trans (h.mono X.out.size))
  have KA' := Lib.hid (KA.out.below h KA.out.lt)
  have KB' := Lib.hid (KB.out.below h KB.out.lt)
  have MA' := Lib.hid (MA.out.bel h)
  have MB' := Lib.hid (MB.out.bel h)
  clear X KA KB MA MB
  have X := X'
  have KA := KA'
  have KB := KB'
  have MA := MA'
  have MB := MB'
  clear X' KA' KB' MA' MB'
  have HI := Lib.hid h1
  clear h1 h
  refine hK.out _ _ ?_ (fun hHeld => ?_)
  · exact ⟨KA.out, KB.out, (KA.out.cell 3).trans (show _ = some (Value.int .u32 f.hop) from rfl)⟩
  clear hK K
  try simp only [Act.put, List.getElem_toArray, List.getElem_cons_succ, List.getElem_cons_zero, List.setIfInBounds_toArray, List.set_cons_zero, List.set_cons_succ]
  refine mv_c (o := _) rfl (fun K hK => ?_)
  go_simp
  go_at_call 8
  refine (HNm.out _ _ _ _ _ _ HI.out).mono ?_
  rintro e w10 ⟨Np, nq, Nc, nd, rfl, h1, h⟩
  have X' := Lib.hid (X.out.trans (h.mono X.out.size))
  have KA' := Lib.hid (KA.out.below h KA.out.lt)
  have KB' := Lib.hid (KB.out.below h KB.out.lt)
  have MA' := Lib.hid (MA.out.bel h)
  have MB' := Lib.hid (MB.out.bel h)
  clear X KA KB MA MB
  have X := X'
  have KA := KA'
  have KB := KB'
  have MA := MA'
  have MB := MB'
  clear X' KA' KB' MA' MB'
  have HN := Lib.hid h1
  clear h1 h
  refine hK.out _ _ ?_ (fun hHeld => ?_)
  · exact ⟨KA.out, KB.out, (KA.out.cell 3).trans (show _ = some (Value.int .u32 f.hop) from rfl)⟩
  clear hK K
  try simp only [Act.put, List.getElem_toArray, List.getElem_cons_succ, List.getElem_cons_zero, List.setIfInBounds_toArray, List.set_cons_zero, List.set_cons_succ]
  refine mv_c (o := _) rfl (fun K hK => ?_)
  go_simp
  go_at_call 9
  refine (HRn.out _ _ _ _ _ _ MA.out).mono ?_
  rintro e w11 ⟨Op, oq, Oc, od, rfl, h1, h⟩
  have X' := Lib.hid (X.out.trans (h.mono X.out.size))
  have KA' := Lib.hid (KA.out.below h KA.out.lt)
  have KB' := Lib.hid (KB.out.below h KB.out.lt)
  have MA' := Lib.hid (MA.out.bel h)
  have MB' := Lib.hid (MB.out.bel h)
  have HN' := Lib.hid (HN.out.bel h)
  clear X KA KB MA MB HN
  have X := X'
  have KA := KA'
  have KB := KB'
  have MA := MA'
  have MB := MB'
  have HN := HN'
  clear X' KA' KB' MA' MB' HN'
  have HM := Lib.hid h1
  clear h1 h
  refine hK.out _ _ ?_ (fun hHeld => ?_)
  · exact ⟨KA.out, KB.out, (KA.out.cell 3).trans (show _ = some (Value.int .u32 f.hop) from rfl)⟩
  clear hK K
  try simp only [Act.put, List.getElem_toArray, List.getElem_cons_succ, List.getElem_cons_zero, List.setIfInBounds_toArray, List.set_cons_zero, List.set_cons_succ]
  refine mv_c (o := _) rfl (fun K hK => ?_)
  go_simp
  go_at_call 7
  refine (HSn1.out _ _ _ _ _ _ _ _ _ _ _ HN.out HM.out).mono ?_
  rintro e w12 ⟨rfl, h⟩
  have X' := Lib.hid (X.out.trans (h.mono X.out.size))
  have KA' := Lib.hid (KA.out.below h KA.out.lt)
  have KB' := Lib.hid (KB.out.below h KB.out.lt)
  have MA' := Lib.hid (MA.out.bel h)
  have MB' := Lib.hid (MB.out.bel h)
  clear X KA KB MA MB
  have X := X'
  have KA := KA'
  have KB := KB'
  have MA := MA'
  have MB := MB'
  clear X' KA' KB' MA' MB'
  clear h
  refine hK.out _ _ ?_ (fun hHeld => ?_)
  · exact ⟨KA.out, KB.out, (KA.out.cell 3).trans (show _ = some (Value.int .u32 f.hop) from rfl)⟩
  clear hK K
  try simp only [Act.put, List.getElem_toArray, List.getElem_cons_succ, List.getElem_cons_zero, List.setIfInBounds_toArray, List.set_cons_zero, List.set_cons_succ]
  repeat ((with_reducible refine mv_at ?_); (first
    | (refine ⟨_, .agg (atc f Ap cp Ac cc).toArray, rfl, yieldsIf_load_mid (by rfl) 26 (.tmp 3) rfl g 0 (by rfl) (atc f Ap cp Ac cc) _ (fun w h => (h.1).all) Tryz.underlying26 (by rfl) HSz.out, ?_⟩)
    | (refine ⟨_, .agg (atc k Bp dp Bc dc).toArray, rfl, yieldsIf_load_mid (by rfl) 26 (.tmp 4) rfl (g + 1) 0 (by rfl) (atc k Bp dp Bc dc) _ (fun w h => (h.2.1).all) Tryz.underlying26 (by rfl) HSz.out, ?_⟩)
    | (refine ⟨_, ?_, rfl, Or.inl ⟨by rfl, ?_⟩, ?_⟩; rotate_left; · (intro w hSw; (try dsimp only at hSw); go_simp <;> with_reducible rfl))
    | (refine ⟨_, undef, rfl, Or.inr ⟨by rfl, rfl⟩, ?_⟩)); try simp only [Act.put, List.getElem_toArray, List.getElem_cons_succ, List.getElem_cons_zero, List.setIfInBounds_toArray, List.set_cons_zero, List.set_cons_succ])
  refine mv_c (o := _) rfl (fun K hK => ?_)
  go_simp
  go_at_call 4
  refine (HFa.out _ _ _ _ _ _ MA.out).mono ?_
  rintro e w13 ⟨Jp, Jq, Jc, Jd, rfl, h1, h⟩
  have X' := Lib.hid (X.out.trans (h.mono X.out.size))
  have KA' := Lib.hid (KA.out.below h KA.out.lt)
  have KB' := Lib.hid (KB.out.below h KB.out.lt)
  have MA' := Lib.hid (MA.out.bel h)
  have MB' := Lib.hid (MB.out.bel h)
  clear X KA KB MA MB
  have X := X'
  have KA := KA'
  have KB := KB'
  have MA := MA'
  have MB := MB'
  clear X' KA' KB' MA' MB'
  have HJ := Lib.hid h1
  clear h1 h
  refine hK.out _ _ ?_ (fun hHeld => ?_)
  · exact ⟨KA.out, KB.out, (KA.out.cell 3).trans (show _ = some (Value.int .u32 f.hop) from rfl)⟩
  clear hK K
  try simp only [Act.put, List.getElem_toArray, List.getElem_cons_succ, List.getElem_cons_zero, List.setIfInBounds_toArray, List.set_cons_zero, List.set_cons_succ]
  refine mv_c (o := _) rfl (fun K hK => ?_)
  go_simp
  go_at_call 4
  refine (HFb.out _ _ _ _ _ _ MB.out).mono ?_
  rintro e w14 ⟨Lp, Lq, Lc, Ld, rfl, h1, h⟩
  have X' := Lib.hid (X.out.trans (h.mono X.out.size))
  have KA' := Lib.hid (KA.out.below h KA.out.lt)
  have KB' := Lib.hid (KB.out.below h KB.out.lt)
  have MA' := Lib.hid (MA.out.bel h)
  have MB' := Lib.hid (MB.out.bel h)
  have HJ' := Lib.hid (HJ.out.bel h)
  clear X KA KB MA MB HJ
  have X := X'
  have KA := KA'
  have KB := KB'
  have MA := MA'
  have MB := MB'
  have HJ := HJ'
  clear X' KA' KB' MA' MB' HJ'
  have HL := Lib.hid h1
  clear h1 h
  refine hK.out _ _ ?_ (fun hHeld => ?_)
  · exact ⟨KA.out, KB.out, (KA.out.cell 3).trans (show _ = some (Value.int .u32 f.hop) from rfl)⟩
  clear hK K
  try simp only [Act.put, List.getElem_toArray, List.getElem_cons_succ, List.getElem_cons_zero, List.setIfInBounds_toArray, List.set_cons_zero, List.set_cons_succ]
  refine mv_c (o := _) rfl (fun K hK => ?_)
  go_simp
  go_at_call 10
  refine (HSp.out _ _ _ _ _ _ _ _ _ _ _ HJ.out HL.out).mono ?_
  rintro e w15 ⟨rfl, h⟩
  have X' := Lib.hid (X.out.trans (h.mono X.out.size))
  have KA' := Lib.hid (KA.out.below h KA.out.lt)
  have KB' := Lib.hid (KB.out.below h KB.out.lt)
  have MA' := Lib.hid (MA.out.bel h)
  have MB' := Lib.hid (MB.out.bel h)
  clear X KA KB MA MB
  have X := X'
  have KA := KA'
  have KB := KB'
  have MA := MA'
  have MB := MB'
  clear X' KA' KB' MA' MB'
  clear h
  refine hK.out _ _ ?_ (fun hHeld => ?_)
  · exact ⟨KA.out, KB.out, (KA.out.cell 3).trans (show _ = some (Value.int .u32 f.hop) from rfl)⟩
  clear hK K
  try simp only [Act.put, List.getElem_toArray, List.getElem_cons_succ, List.getElem_cons_zero, List.setIfInBounds_toArray, List.set_cons_zero, List.set_cons_succ]
  refine mv_c (o := _) rfl (fun K hK => ?_)
  go_simp
  go_at_call 7
  refine (HRs.out _ _ _ _ _ _ _ _ _ _ _ MA.out MB.out).mono ?_
  rintro e w16 ⟨rfl, h⟩
  have X' := Lib.hid (X.out.trans (h.mono X.out.size))
  have KA' := Lib.hid (KA.out.below h KA.out.lt)
  have KB' := Lib.hid (KB.out.below h KB.out.lt)
  have MA' := Lib.hid (MA.out.bel h)
  have MB' := Lib.hid (MB.out.bel h)
  clear X KA KB MA MB
  have X := X'
  have KA := KA'
  have KB := KB'
  have MA := MA'
  have MB := MB'
  clear X' KA' KB' MA' MB'
  clear h
  refine hK.out _ _ ?_ (fun hHeld => ?_)
  · exact ⟨KA.out, KB.out, (KA.out.cell 3).trans (show _ = some (Value.int .u32 f.hop) from rfl)⟩
  clear hK K
  try simp only [Act.put, List.getElem_toArray, List.getElem_cons_succ, List.getElem_cons_zero, List.setIfInBounds_toArray, List.set_cons_zero, List.set_cons_succ]
  repeat ((with_reducible refine mv_at ?_); (first
    | (refine ⟨_, .agg (atc f Ap cp Ac cc).toArray, rfl, yieldsIf_load_mid (by rfl) 26 (.tmp 3) rfl g 0 (by rfl) (atc f Ap cp Ac cc) _ (fun w h => (h.1).all) Tryz.underlying26 (by rfl) HSz.out, ?_⟩)
    | (refine ⟨_, .agg (atc k Bp dp Bc dc).toArray, rfl, yieldsIf_load_mid (by rfl) 26 (.tmp 4) rfl (g + 1) 0 (by rfl) (atc k Bp dp Bc dc) _ (fun w h => (h.2.1).all) Tryz.underlying26 (by rfl) HSz.out, ?_⟩)
    | (refine ⟨_, ?_, rfl, Or.inl ⟨by rfl, ?_⟩, ?_⟩; rotate_left; · (intro w hSw; (try dsimp only at hSw); go_simp <;> with_reducible rfl))
    | (refine ⟨_, undef, rfl, Or.inr ⟨by rfl, rfl⟩, ?_⟩)); try simp only [Act.put, List.getElem_toArray, List.getElem_cons_succ, List.getElem_cons_zero, List.setIfInBounds_toArray, List.set_cons_zero, List.set_cons_succ])
  refine mv_c (o := _) rfl (fun K hK => ?_)
  go_simp
  go_at_call 11
  refine (HFl.out _).mono ?_
  rintro e w17 ⟨rfl, rfl⟩
  refine hK.out _ _ ?_ (fun hHeld => ?_)
  · exact ⟨KA.out, KB.out, (KA.out.cell 3).trans (show _ = some (Value.int .u32 f.hop) from rfl)⟩
  clear hK K
  try simp only [Act.put, List.getElem_toArray, List.getElem_cons_succ, List.getElem_cons_zero, List.setIfInBounds_toArray, List.set_cons_zero, List.set_cons_succ]
  refine mv_c (o := _) rfl (fun K hK => ?_)
  go_simp
  go_at_call 12
  refine (HRf.out _).mono ?_
  rintro e w18 ⟨rfl, h⟩
  have X' := Lib.hid (X.out.trans (h.mono X.out.size))
  have KA' := Lib.hid (KA.out.below h KA.out.lt)
  have KB' := Lib.hid (KB.out.below h KB.out.lt)
  have MA' := Lib.hid (MA.out.bel h)
  have MB' := Lib.hid (MB.out.bel h)
  clear X KA KB MA MB
  have X := X'
  have KA := KA'
  have KB := KB'
  have MA := MA'
  have MB := MB'
  clear X' KA' KB' MA' MB'
  clear h
  refine hK.out _ _ ?_ (fun hHeld => ?_)
  · exact ⟨KA.out, KB.out, (KA.out.cell 3).trans (show _ = some (Value.int .u32 f.hop) from rfl)⟩
  clear hK K
  try simp only [Act.put, List.getElem_toArray, List.getElem_cons_succ, List.getElem_cons_zero, List.setIfInBounds_toArray, List.set_cons_zero, List.set_cons_succ]
  repeat ((with_reducible refine mv_at ?_); (first
    | (refine ⟨_, .agg (atc f Ap cp Ac cc).toArray, rfl, yieldsIf_load_mid (by rfl) 26 (.tmp 3) rfl g 0 (by rfl) (atc f Ap cp Ac cc) _ (fun w h => (h.1).all) Tryz.underlying26 (by rfl) HSz.out, ?_⟩)
    | (refine ⟨_, .agg (atc k Bp dp Bc dc).toArray, rfl, yieldsIf_load_mid (by rfl) 26 (.tmp 4) rfl (g + 1) 0 (by rfl) (atc k Bp dp Bc dc) _ (fun w h => (h.2.1).all) Tryz.underlying26 (by rfl) HSz.out, ?_⟩)
    | (refine ⟨_, ?_, rfl, Or.inl ⟨by rfl, ?_⟩, ?_⟩; rotate_left; · (intro w hSw; (try dsimp only at hSw); go_simp <;> with_reducible rfl))
    | (refine ⟨_, undef, rfl, Or.inr ⟨by rfl, rfl⟩, ?_⟩)); try simp only [Act.put, List.getElem_toArray, List.getElem_cons_succ, List.getElem_cons_zero, List.setIfInBounds_toArray, List.set_cons_zero, List.set_cons_succ])
  refine mv_c (o := _) rfl (fun K hK => ?_)
  go_simp
  go_at_call 13
  refine (HHo.out MA.out.wf.hop _).mono ?_
  rintro e w19 ⟨rfl, rfl⟩
  refine hK.out _ _ ?_ (fun hHeld => ?_)
  · exact ⟨KA.out, KB.out, (KA.out.cell 3).trans (show _ = some (Value.int .u32 f.hop) from rfl)⟩
  clear hK K
  try simp only [Act.put, List.getElem_toArray, List.getElem_cons_succ, List.getElem_cons_zero, List.setIfInBounds_toArray, List.set_cons_zero, List.set_cons_succ]
  refine mv_c (o := _) rfl (fun K hK => ?_)
  go_simp
  go_at_call 14
  refine (HRh.out MA.out.wf.hop _).mono ?_
  rintro e w20 ⟨rfl, rfl⟩
  refine hK.out _ _ ?_ (fun hHeld => ?_)
  · exact ⟨KA.out, KB.out, (KA.out.cell 3).trans (show _ = some (Value.int .u32 f.hop) from rfl)⟩
  clear hK K
  try simp only [Act.put, List.getElem_toArray, List.getElem_cons_succ, List.getElem_cons_zero, List.setIfInBounds_toArray, List.set_cons_zero, List.set_cons_succ]
  repeat ((with_reducible refine mv_at ?_); (first
    | (refine ⟨_, .agg (atc f Ap cp Ac cc).toArray, rfl, yieldsIf_load_mid (by rfl) 26 (.tmp 3) rfl g 0 (by rfl) (atc f Ap cp Ac cc) _ (fun w h => (h.1).all) Tryz.underlying26 (by rfl) HSz.out, ?_⟩)
    | (refine ⟨_, .agg (atc k Bp dp Bc dc).toArray, rfl, yieldsIf_load_mid (by rfl) 26 (.tmp 4) rfl (g + 1) 0 (by rfl) (atc k Bp dp Bc dc) _ (fun w h => (h.2.1).all) Tryz.underlying26 (by rfl) HSz.out, ?_⟩)
    | (refine ⟨_, ?_, rfl, Or.inl ⟨by rfl, ?_⟩, ?_⟩; rotate_left; · (intro w hSw; (try dsimp only at hSw); go_simp <;> with_reducible rfl))
    | (refine ⟨_, undef, rfl, Or.inr ⟨by rfl, rfl⟩, ?_⟩)); try simp only [Act.put, List.getElem_toArray, List.getElem_cons_succ, List.getElem_cons_zero, List.setIfInBounds_toArray, List.set_cons_zero, List.set_cons_succ])
  refine mv_end ?_
  clear HFb HGd HRg HNm HRn HSn1 HSp HRs HFl HRf HHo HRh HE HI HN HM HJ HL zz zz2 zz3 zz4
  go_upto_region 5 with fail
  have HXl : Hid (Below w18.heap.size w18 (w18.alloc (.cells #[.int .i64 0, .int .i64 0, .slice none 0 0] 34))) := (Below.refl _ _).alloc (Nat.le_refl _) _
  have HNl : Hid (Bk (w18.alloc (.cells #[.int .i64 0, .int .i64 0, .slice none 0 0] 34)) w18.heap.size 34 #[.int .i64 0, .int .i64 0, .slice none 0 0]) := Bk.new _ _ _
  have HLN : Hid (g + 1 < w18.heap.size) := KB.out.lt
  have HXw := X.out.size
  obtain ⟨gn, hgn⟩ : ∃ gn, gn = w18.heap.size := ⟨_, rfl⟩
  rw [← hgn] at HNl HLN ⊢
  have HGn := Lib.hid hgn
  clear hgn
  generalize w18.alloc (.cells #[.int .i64 0, .int .i64 0, .slice none 0 0] 34) = wn at *
  obtain ⟨bt, hbt⟩ : ∃ bt, bt = bitI f.has := ⟨_, rfl⟩
  have HMz : Hid (mf bt 0 = missK f.has) := by rw [hbt]; exact mf_zero f
  rw [← hbt] at HHs
  clear hbt
  go_wp2_with fail
  go_loopw [8] (fun v8 wr => ∃ (j : Nat) (A : Option Addr) (c : Nat), j ≤ 3 ∧ v8 = .int .i64 j ∧ Bk wr gn 34 #[.int .i64 (missC (mf bt j)), .int .i64 (missC (mf bt j)), .slice A (missD (mf bt j)).length c] ∧ Bn wr (fun b => gn < b) A c (missD (mf bt j)) ∧ Below w18.heap.size w18 wr) (fun v8 _ => (intOf v8).toNat)
  case atStart => exact ⟨3, none, 0, Nat.le_refl _, rfl, HNl.out, Bn.nil_ _ _, HXl.out⟩
  case round =>
    obtain ⟨j, A, c, hj3, rfl, hk, hs, hb⟩ := hrel
    have HK := Lib.hid hk
    have HS := Lib.hid hs
    have HB := Lib.hid hb
    have KAr := Lib.hid (KA.out.below hb KA.out.lt)
    clear hk hs hb
    by_cases hj1 : 1 ≤ j
    · have hj1' : (1 : Int) ≤ (j : Int) := by omega
      have HHx := Lib.hid (HHs.out wr Ap Ac cp cc j (by omega))
      have hst := mf_step bt hj1 hj3
      rcases hbj : bt j with _ | _
      · rw [hbj] at HHx hst
        rw [if_pos rfl] at hst
        have e8 : IntKind.u8.wrap (j : Int) = (j : Int) := by
          have : j = 1 ∨ j = 2 ∨ j = 3 := by omega
          rcases this with rfl | rfl | rfl <;> rfl
        have HST := Lib.hid hst
        clear hst hbj
        have hjw : IntKind.i64.wrap ((j : Int) - 1) = (j : Int) - 1 := by
          have : j = 1 ∨ j = 2 ∨ j = 3 := by omega
          rcases this with rfl | rfl | rfl <;> rfl
        generalize mf bt j = m at *
        go_upto_region 9 with (first
          | (refine wpList_loadBk rfl 26 (.tmp 3) rfl g (by rfl) 26 (atc f Ap cp Ac cc).toArray _ KAr.out Tryz.underlying26 (by rfl) HSz.out ?_)
          | (go_at_call 15; refine HHx.out.mono ?_; rintro e w19 ⟨rfl, h⟩; have HK2 := Lib.hid (HK.out.below h HK.out.lt); have HB2 := Lib.hid (HB.out.trans (h.mono HB.out.size)); clear h))
        have y0 := HK2.out.cell 0
        have y1 := HK2.out.cell 1
        have y2 := HK2.out.cell 2
        simp at y0 y1 y2
        have z0 := HK2.out.free 0
        have z1 := HK2.out.free 1
        have z2 := HK2.out.free 2
        have hlt := HK2.out.lt
        go_wp2_with fail
        have K3 := ((HK2.out.put 0 (.int .i64 3)).put 1 (.int .i64 3)).put 2 (.slice (some ⟨w19.heap.size, 0, none⟩) 1 1)
        have hb3 : Below w18.heap.size w18 (((w19.setCell ⟨gn, 0, none⟩ (.int .i64 3)).setCell ⟨gn, 1, none⟩ (.int .i64 3)).setCell ⟨gn, 2, none⟩ (.slice (some ⟨w19.heap.size, 0, none⟩) 1 1)) := ((HB2.out.setCell (by rw [HGn.out]; exact Nat.le_refl _) _).setCell (by rw [HGn.out]; exact Nat.le_refl _) _).setCell (by rw [HGn.out]; exact Nat.le_refl _) _
        have hsz : (((w19.setCell ⟨gn, 0, none⟩ (.int .i64 3)).setCell ⟨gn, 1, none⟩ (.int .i64 3)).setCell ⟨gn, 2, none⟩ (.slice (some ⟨w19.heap.size, 0, none⟩) 1 1)).heap.size = w19.heap.size := by simp
        generalize (((w19.setCell ⟨gn, 0, none⟩ (.int .i64 3)).setCell ⟨gn, 1, none⟩ (.int .i64 3)).setCell ⟨gn, 2, none⟩ (.slice (some ⟨w19.heap.size, 0, none⟩) 1 1)) = wz at *
        have hm3 : missC j = 3 := by unfold missC; rw [if_neg (by omega)]
        have hd3 : missD j = [UInt8.ofNat j] := by unfold missD; rw [if_neg (by omega)]
        have hr : Rg (wz.alloc (.cells #[.int .u8 (j : Int)] 5)) (fun b => b = wz.heap.size) 1 (some ⟨wz.heap.size, 0, none⟩) 1 [Value.int .u8 (j : Int)] := Rg.new wz 5 1 1 #[.int .u8 (j : Int)] rfl
        have e : bv [UInt8.ofNat j] = [Value.int .u8 (j : Int)] := by
          have : j = 1 ∨ j = 2 ∨ j = 3 := by omega
          rcases this with rfl | rfl | rfl <;> rfl
        have h1 : Bn (wz.alloc (.cells #[.int .u8 (j : Int)] 5)) (fun b => b = wz.heap.size) (some ⟨wz.heap.size, 0, none⟩) 1 [UInt8.ofNat j] := ⟨(fun h => by cases h), Nat.le_refl _, by decide, by rw [e]; exact hr⟩
        rw [← hsz] at K3
        refine ⟨⟨j - 1, some ⟨wz.heap.size, 0, none⟩, 1, by omega, by go_num, ?_, ?_, hb3.alloc hb3.size _⟩, by simp [intOf]; omega⟩
        · rw [HST.out, hm3, hd3]
          exact K3.alloc _
        · rw [HST.out, hd3]
          exact h1.mono fun b _ hb => by rw [hb, hsz]; exact hlt
      · rw [hbj] at HHx hst
        rw [if_neg (by simp)] at hst
        clear hbj
        have HST := Lib.hid hst
        clear hst
        generalize hm : mf bt j = m at *
        go_wp2_with (first
          | (refine wpList_loadBk rfl 26 (.tmp 3) rfl g (by rfl) 26 (atc f Ap cp Ac cc).toArray _ KAr.out Tryz.underlying26 (by rfl) HSz.out ?_)
          | (go_at_call 15; refine HHx.out.mono ?_; rintro e w19 ⟨rfl, h⟩; have HK2 := Lib.hid (HK.out.below h HK.out.lt); have HS2 := Lib.hid (HS.out.bel h); have HB2 := Lib.hid (HB.out.trans (h.mono HB.out.size)); clear h))
        go_roundw
        case rel => exact ⟨j - 1, A, c, by omega, by go_num, by rw [HST.out]; exact HK2.out, by rw [HST.out]; exact HS2.out, HB2.out⟩
        case measure => simp [intOf]; omega
    · obtain rfl : j = 0 := by omega
      rw [HMz.out] at HK HS
      have X2 := Lib.hid (X.out.trans (HB.out.mono X.out.size))
      have MAr := Lib.hid (MA.out.bel HB.out)
      have HMr : Hid ((#[.int .i64 (missC (missK f.has)), .int .i64 (missC (missK f.has)), .slice A (missD (missK f.has)).length c] : Array Value) = ([.int .i64 (missC (missK f.has)), .int .i64 (missC (missK f.has)), .slice A (missD (missK f.has)).length c] : List Value).toArray) := rfl
      have HTd : Hid (∀ (w' : World) A2 c2, Bn w' (fun _ => True) A c (missD (missK f.has)) → Bn w' (fun _ => True) A2 c2 (missD (missK f.has)) → Calls Tryz.prog 16 #[.agg #[.int .i64 (missC (missK f.has)), .int .i64 (missC (missK f.has)), .slice A2 (missD (missK f.has)).length c2], .agg #[.int .i64 (missC (missK f.has)), .int .i64 (missC (missK f.has)), .slice A (missD (missK f.has)).length c]] w' fun e w2 => e = .returned (.bool true) ∧ Below w'.heap.size w' w2) := fun w' A2 c2 h1 h2 => refTold_yes _ _ A2 A _ c2 c w' h2.bs h1.bs
      clear HMz HHs X MA KA KB MB HXl HNl HB
      unfold RetN at HWl
      generalize missD (missK f.has) = nd at *
      generalize missC (missK f.has) = nc at *
      go_upto_region 10 with fail
      refine region_mv (S := fun w' => Bk w' g 26 (atc f Ap cp Ac cc).toArray ∧ Bk w' gn 34 ([.int .i64 nc, .int .i64 nc, .slice A nd.length c] : List Value).toArray) (A := List.range 9) (sq := [.p 0, .p 3, .c 1, .c 2, .c 4, .p 5, .c 6, .p 7, .p 8]) (by kernel_rfl) (by kernel_rfl) ?_ (fun hHeld => ?_)
      · exact ⟨KAr.out.drew, HK.out.drew⟩
      have h := (Below.refl wr.heap.size wr).drew
      have X2' := Lib.hid (X2.out.trans (h.mono X2.out.size))
      have KAr' := Lib.hid (KAr.out.below h KAr.out.lt)
      have HK' := Lib.hid (HK.out.below h HK.out.lt)
      have HS' := Lib.hid (HS.out.bel h)
      have MAr' := Lib.hid (MAr.out.bel h)
      clear X2 KAr HK HS MAr
      have X2 := X2'
      have KAr := KAr'
      have HK := HK'
      have HS := HS'
      have MAr := MAr'
      clear X2' KAr' HK' HS' MAr'
      clear h
      repeat ((with_reducible refine mv_at ?_); (first
        | (refine ⟨_, .agg (atc f Ap cp Ac cc).toArray, rfl, yieldsIf_load_mid (by rfl) 26 (.tmp 3) rfl g 0 (by rfl) (atc f Ap cp Ac cc) _ (fun w h => (h.1).all) Tryz.underlying26 (by rfl) HSz.out, ?_⟩)
        | (refine ⟨_, .agg [.int .i64 nc, .int .i64 nc, .slice A nd.length c].toArray, rfl, yieldsIf_load_mid (by rfl) 34 (.tmp 7) rfl gn 0 (by rfl) [.int .i64 nc, .int .i64 nc, .slice A nd.length c] _ (fun w h => (h.2).all) Tryz.underlying34 (by rfl) HSn.out, ?_⟩)
        | (refine ⟨_, ?_, rfl, Or.inl ⟨by rfl, ?_⟩, ?_⟩; rotate_left; · (intro w hSw; (try dsimp only at hSw); go_simp <;> with_reducible rfl))
        | (refine ⟨_, undef, rfl, Or.inr ⟨by rfl, rfl⟩, ?_⟩)); try simp only [Act.put, List.getElem_toArray, List.getElem_cons_succ, List.getElem_cons_zero, List.setIfInBounds_toArray, List.set_cons_zero, List.set_cons_succ])
      refine mv_c (o := _) rfl (fun K hK => ?_)
      go_simp
      go_at_call 4
      refine (HFa.out _ _ _ _ _ _ MAr.out).mono ?_
      rintro e w20 ⟨Ep, Eq, Ec, Ed, rfl, h1, h⟩
      have X2' := Lib.hid (X2.out.trans (h.mono X2.out.size))
      have KAr' := Lib.hid (KAr.out.below h KAr.out.lt)
      have HK' := Lib.hid (HK.out.below h HK.out.lt)
      have HS' := Lib.hid (HS.out.bel h)
      clear X2 KAr HK HS
      have X2 := X2'
      have KAr := KAr'
      have HK := HK'
      have HS := HS'
      clear X2' KAr' HK' HS'
      clear h1 h
      refine hK.out _ _ ?_ (fun hHeld => ?_)
      · exact ⟨KAr.out, HK.out⟩
      clear hK K
      try simp only [Act.put, List.getElem_toArray, List.getElem_cons_succ, List.getElem_cons_zero, List.setIfInBounds_toArray, List.set_cons_zero, List.set_cons_succ]
      refine mv_c (o := _) rfl (fun K hK => ?_)
      go_simp
      go_at_call 17
      refine (HWl.out _ _ _ _ _).mono ?_
      rintro e w21 ⟨A2, c2, rfl, h1, h⟩
      have X2' := Lib.hid (X2.out.trans (h.mono X2.out.size))
      have KAr' := Lib.hid (KAr.out.below h KAr.out.lt)
      have HK' := Lib.hid (HK.out.below h HK.out.lt)
      have HS' := Lib.hid (HS.out.bel h)
      clear X2 KAr HK HS
      have X2 := X2'
      have KAr := KAr'
      have HK := HK'
      have HS := HS'
      clear X2' KAr' HK' HS'
      have HW := Lib.hid h1
      clear h1 h
      refine hK.out _ _ ?_ (fun hHeld => ?_)
      · exact ⟨KAr.out, HK.out⟩
      clear hK K
      try simp only [Act.put, List.getElem_toArray, List.getElem_cons_succ, List.getElem_cons_zero, List.setIfInBounds_toArray, List.set_cons_zero, List.set_cons_succ]
      refine mv_c (o := _) rfl (fun K hK => ?_)
      go_simp
      go_at_call 16
      refine (HTd.out w21 A2 c2 (HS.out.mono fun _ _ _ => trivial) (HW.out.mono fun _ _ _ => trivial)).mono ?_
      rintro e w22 ⟨rfl, h⟩
      have X2' := Lib.hid (X2.out.trans (h.mono X2.out.size))
      have KAr' := Lib.hid (KAr.out.below h KAr.out.lt)
      have HK' := Lib.hid (HK.out.below h HK.out.lt)
      have HS' := Lib.hid (HS.out.bel h)
      clear X2 KAr HK HS
      have X2 := X2'
      have KAr := KAr'
      have HK := HK'
      have HS := HS'
      clear X2' KAr' HK' HS'
      clear h
      refine hK.out _ _ ?_ (fun hHeld => ?_)
      · exact ⟨KAr.out, HK.out⟩
      clear hK K
      try simp only [Act.put, List.getElem_toArray, List.getElem_cons_succ, List.getElem_cons_zero, List.setIfInBounds_toArray, List.set_cons_zero, List.set_cons_succ]
      repeat ((with_reducible refine mv_at ?_); (first
        | (refine ⟨_, .agg (atc f Ap cp Ac cc).toArray, rfl, yieldsIf_load_mid (by rfl) 26 (.tmp 3) rfl g 0 (by rfl) (atc f Ap cp Ac cc) _ (fun w h => (h.1).all) Tryz.underlying26 (by rfl) HSz.out, ?_⟩)
        | (refine ⟨_, .agg [.int .i64 nc, .int .i64 nc, .slice A nd.length c].toArray, rfl, yieldsIf_load_mid (by rfl) 34 (.tmp 7) rfl gn 0 (by rfl) [.int .i64 nc, .int .i64 nc, .slice A nd.length c] _ (fun w h => (h.2).all) Tryz.underlying34 (by rfl) HSn.out, ?_⟩)
        | (refine ⟨_, ?_, rfl, Or.inl ⟨by rfl, ?_⟩, ?_⟩; rotate_left; · (intro w hSw; (try dsimp only at hSw); go_simp <;> with_reducible rfl))
        | (refine ⟨_, undef, rfl, Or.inr ⟨by rfl, rfl⟩, ?_⟩)); try simp only [Act.put, List.getElem_toArray, List.getElem_cons_succ, List.getElem_cons_zero, List.setIfInBounds_toArray, List.set_cons_zero, List.set_cons_succ])
      refine mv_c (o := _) rfl (fun K hK => ?_)
      go_simp
      go_at_call 18
      refine (HLi.out _).mono ?_
      rintro e w23 ⟨rfl, h⟩
      have X2' := Lib.hid (X2.out.trans (h.mono X2.out.size))
      have KAr' := Lib.hid (KAr.out.below h KAr.out.lt)
      have HK' := Lib.hid (HK.out.below h HK.out.lt)
      have HS' := Lib.hid (HS.out.bel h)
      clear X2 KAr HK HS
      have X2 := X2'
      have KAr := KAr'
      have HK := HK'
      have HS := HS'
      clear X2' KAr' HK' HS'
      clear h
      refine hK.out _ _ ?_ (fun hHeld => ?_)
      · exact ⟨KAr.out, HK.out⟩
      clear hK K
      try simp only [Act.put, List.getElem_toArray, List.getElem_cons_succ, List.getElem_cons_zero, List.setIfInBounds_toArray, List.set_cons_zero, List.set_cons_succ]
      repeat ((with_reducible refine mv_at ?_); (first
        | (refine ⟨_, .agg (atc f Ap cp Ac cc).toArray, rfl, yieldsIf_load_mid (by rfl) 26 (.tmp 3) rfl g 0 (by rfl) (atc f Ap cp Ac cc) _ (fun w h => (h.1).all) Tryz.underlying26 (by rfl) HSz.out, ?_⟩)
        | (refine ⟨_, .agg [.int .i64 nc, .int .i64 nc, .slice A nd.length c].toArray, rfl, yieldsIf_load_mid (by rfl) 34 (.tmp 7) rfl gn 0 (by rfl) [.int .i64 nc, .int .i64 nc, .slice A nd.length c] _ (fun w h => (h.2).all) Tryz.underlying34 (by rfl) HSn.out, ?_⟩)
        | (refine ⟨_, ?_, rfl, Or.inl ⟨by rfl, ?_⟩, ?_⟩; rotate_left; · (intro w hSw; (try dsimp only at hSw); go_simp <;> with_reducible rfl))
        | (refine ⟨_, undef, rfl, Or.inr ⟨by rfl, rfl⟩, ?_⟩)); try simp only [Act.put, List.getElem_toArray, List.getElem_cons_succ, List.getElem_cons_zero, List.setIfInBounds_toArray, List.set_cons_zero, List.set_cons_succ])
      refine mv_end ?_
      go_wp2_with fail
      go_ret
      exact ⟨rfl, X2.out⟩
set_option maxRecDepth 100000 in
theorem walk {H : Type} {enc : TypeId × Value → H} {W : World} {base : Nat} {v0 v1 : Value} {d0 d1 : DataW H} {p0 p1 : List MemPlace}
    (hv0 : Value.okWide Tryz.prog W .any base 26 v0) (h0 : DataW.Trod enc Tryz.prog W 0 (fun _ => true) true 26 v0 d0 p0)
    (hv1 : Value.okWide Tryz.prog W .any base 26 v1) (h1 : DataW.Trod enc Tryz.prog W 0 (fun _ => true) true 26 v1 d1 p1) (a2 : Int) (w2 : (Lit.int .i64 a2).wf = true) :
    Calls Tryz.prog 3 #[v0, v1, .int .i64 a2] W fun e w' => e = .returned (.bool true) ∧ Below W.heap.size W w' := by
  obtain ⟨cs0, a, rfl, Ap, cp, Ac, cc, hcs, hm⟩ := open_st Tryz.underlying26 opens_atr hv0 h0
  obtain ⟨cs1, b, rfl, Bp, dp, Bc, dc, hds, hn⟩ := open_st Tryz.underlying26 opens_atr hv1 h1
  rw [arr_eq hcs, arr_eq hds]
  exact core a b a2 w2 Ap Ac Bp Bc cp cc dp dc _ _ W hm hn
end Go.Proofs.YtgpmkbpahnbhlaaGreat.attrForms
