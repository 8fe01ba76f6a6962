/- What nlri.fits, Fits and Pack return. Conditions as each lemma states. What nlri.Pack returns: groups of prefixes. Conditions as each lemma states. -/
import Derived.Test.YtbljhjfaimnieaaGreatPkMath
import Derived.Test.YtbljhjfaimnieaaGreatRefSort
import Derived.Test.YtbljhjfaimnieaaGreatNlriDec
namespace Go.Proofs.YtbljhjfaimnieaaGreat.nlri
open Go.RowKit Go.Proofs.YtbljhjfaimnieaaGreat.kit Go.Proofs.YtbljhjfaimnieaaGreat.mem Go.Proofs.YtbljhjfaimnieaaGreat.foot Go.Proofs.YtbljhjfaimnieaaGreat.octet Go.Proofs.YtbljhjfaimnieaaGreat.pfx Go.Proofs.YtbljhjfaimnieaaGreat.srt
set_option linter.unusedVariables false
set_option linter.unusedSimpArgs false

theorem sizeP_le (p : Pf) : sizeP p ≤ 5 := by
  unfold sizeP
  split
  · rename_i h
    obtain ⟨h0, h1, _⟩ := (goodB_iff p.1 p.2).1 h
    have := bodyN_le p.2.toNat (by omega)
    omega
  · omega

set_option maxRecDepth 100000 in
set_option maxHeartbeats 1000000 in
theorem fits_any {G : Foot} (A : Option Addr) (c : Nat) (l : List Pf) (room : Int) (w : World) (hn : l.length ≤ 1000000000) (hr : -1 ≤ room) (hr2 : room ≤ 9223372036854775807) (hw : ∀ x ∈ l, x.1 < 4294967296) (h : Rg w G 2 A l.length (fv l)) :
    Calls Tryz.prog 65 #[.slice A l.length c, .int .i64 room] w fun e w' => e = .returned (.int .i64 (fitI room l : Int)) ∧ Below w.heap.size w w' := by
  have HR := Lib.hid h
  have HW := Lib.hid hw
  clear h hw
  go_enter Tryz.func65, Tryz.ntmps65
  go_wp2_with fail
  go_loopw [1, 5, 6, 9] (fun v1 _ _ v9 wr => ∃ (i : Nat) (r : Int), i ≤ l.length ∧ v9 = .int .i64 (i : Int) ∧ v1 = .int .i64 r ∧ r = room - (sumP (l.take i) : Int) ∧ i ≤ fitI room l ∧ -1 ≤ r ∧ r ≤ 9223372036854775807 ∧ Below w.heap.size w wr) (fun _ _ _ v9 _ => l.length - (intOf v9).toNat)
  case atStart => exact ⟨0, room, Nat.zero_le _, rfl, rfl, by simp [sumP], Nat.zero_le _, hr, hr2, Below.refl _ _⟩
  case round =>
    obtain ⟨i, r, hi, rfl, rfl, hrs, hif, hr3, hr4, hb⟩ := hrel
    have HB := Lib.hid hb
    have HS := Lib.hid (And.intro hrs hif)
    clear hb hrs hif
    by_cases hlt : i < l.length
    · obtain ⟨p, hp⟩ : ∃ p, l[i]? = some p := ⟨l[i], List.getElem?_eq_getElem hlt⟩
      obtain ⟨b, off, rfl⟩ : ∃ b off, A = some ⟨b, off, none⟩ := by
        obtain ⟨b, off, e, _⟩ := HR.out.2 (by omega)
        exact ⟨b, off, e⟩
      have x0 := fv_two (HR.out.bel HB.out) hp (by omega)
      have p0 := x0.1
      have p1 := x0.2.1
      have hpw := HW.out p (List.mem_of_getElem? hp)
      have HSz := Lib.hid (fun w => size_any p.1 p.2 hpw w)
      have hs5 := sizeP_le p
      have hat := fitI_at l room i HS.out.2
      have hsn : (sumP (l.take (i + 1)) : Int) = (sumP (l.take i) : Int) + (sizeP p : Int) := by
        rw [List.take_add_one, hp]
        show (sumP (l.take i ++ [p]) : Int) = _
        rw [sumP_snoc]; push_cast; rfl
      have HAt : Hid (i = fitI room l ↔ r - (sizeP p : Int) < 0) := by
        rw [Hid, hat, HS.out.1]
        constructor
        · intro hh; exact hh p hp
        · intro hh q hq; rw [hp] at hq; cases hq; exact hh
      have HSn := Lib.hid hsn
      have HBa : Hid (Below w.heap.size w (wr.alloc (.cells #[.int .u32 (p.1 : Int), .int .i64 p.2] 56))) := HB.out.alloc HB.out.size _
      have HKa : Hid (Bk (wr.alloc (.cells #[.int .u32 (p.1 : Int), .int .i64 p.2] 56)) wr.heap.size 56 #[.int .u32 (p.1 : Int), .int .i64 p.2]) := Bk.new wr _ _
      obtain ⟨z, hz⟩ : ∃ z, z = sizeP p := ⟨_, rfl⟩
      rw [show sizeP (p.1, p.2) = sizeP p from rfl, ← hz] at HSz
      rw [← hz] at hs5 HAt HSn
      clear hp x0 hpw hat hsn hz
      go_wp2_with fail
      refine (HSz.out _).mono ?_; rintro e w3 ⟨rfl, hb3⟩
      have HB3 := Lib.hid (HBa.out.trans (hb3.mono HBa.out.size))
      clear hb3 p0 p1 HSz
      by_cases hneg : r - (z : Int) < 0
      · have HE : Hid (fitI room l = i) := (HAt.out.2 hneg).symm
        go_wp2_with fail
        go_ret
        exact ⟨by rw [HE.out]; rfl, HB3.out⟩
      · have HNg : Hid (¬ r - (z : Int) < 0) := hneg
        go_wp2_with fail
        go_roundw
        case rel =>
          have h1 := HS.out
          have h2 := HSn.out
          have h3 : i ≠ fitI room l := fun e => by have := HAt.out.1 e; have := HNg.out; omega
          have h4 := HNg.out
          exact ⟨i + 1, r - (z : Int), by omega, by go_num, rfl, by omega, by omega, by omega, by omega, HB3.out⟩
        case measure => simp [intOf]; omega
    · obtain rfl : i = l.length := by omega
      have HE : Hid (fitI room l = l.length) := Nat.le_antisymm (fitI_le room l) HS.out.2
      go_wp2_with fail
      go_ret
      exact ⟨by rw [HE.out]; rfl, HB.out⟩
end Go.Proofs.YtbljhjfaimnieaaGreat.nlri

namespace Go.Proofs.YtbljhjfaimnieaaGreat.nlri
open Go.RowKit Go.Proofs.YtbljhjfaimnieaaGreat.kit Go.Proofs.YtbljhjfaimnieaaGreat.mem Go.Proofs.YtbljhjfaimnieaaGreat.foot Go.Proofs.YtbljhjfaimnieaaGreat.octet Go.Proofs.YtbljhjfaimnieaaGreat.pfx Go.Proofs.YtbljhjfaimnieaaGreat.srt
set_option linter.unusedVariables false
set_option linter.unusedSimpArgs false

theorem enters_Pack1 : ∀ args w, (callFunc 63 args).run Tryz.prog w = .ok (.enter 63 args) w := enters_of Tryz.func63 (by kernel_rfl) rfl
set_option maxRecDepth 100000 in
set_option maxHeartbeats 1000000 in
theorem Pack1_any (p : Pf) (hp : p.1 < 4294967296) (room : Int) (g : Nat) (w : World) (hg : g < w.heap.size) (hroom : w.cell? ⟨g, 0, none⟩ = some (.int .i64 room)) :
    Calls Tryz.prog 63 (#[.agg #[.int .u32 (p.1 : Int), .int .i64 p.2]] ++ #[.pointer (some ⟨g, 0, none⟩)]) w fun e w' => e = .returned (.bool (!okP room p)) ∧ Below w.heap.size w w' := by
  have HSz := Lib.hid (fun w => size_any p.1 p.2 hp w)
  have HB : Hid (Below w.heap.size w (w.alloc (.cells #[.int .u32 (p.1 : Int), .int .i64 p.2] 56))) := (Below.refl _ _).alloc (Nat.le_refl _) _
  have HK : Hid (Bk (w.alloc (.cells #[.int .u32 (p.1 : Int), .int .i64 p.2] 56)) w.heap.size 56 #[.int .u32 (p.1 : Int), .int .i64 p.2]) := Bk.new w _ _
  have HRm := Lib.hid (And.intro hg hroom)
  have hok : (!okP room p) = ((sizeP p == 0) || decide (room < (sizeP p : Int))) := by unfold okP; simp
  rw [hok]
  obtain ⟨z, hz⟩ : ∃ z, z = sizeP p := ⟨_, rfl⟩
  rw [show sizeP (p.1, p.2) = sizeP p from rfl, ← hz] at HSz
  rw [← hz]
  clear hz hok hp hg hroom
  obtain ⟨w1, hw1⟩ : ∃ w1, w1 = w.alloc (.cells #[.int .u32 (p.1 : Int), .int .i64 p.2] 56) := ⟨_, rfl⟩
  rw [← hw1] at HB HK
  have HRm1 : Hid (g < w1.heap.size ∧ w1.cell? ⟨g, 0, none⟩ = some (.int .i64 room)) := ⟨Nat.lt_of_lt_of_le HRm.out.1 HB.out.size, (HB.out.cell (p := ⟨g, 0, none⟩) HRm.out.1).trans HRm.out.2⟩
  show Calls _ _ #[.agg #[.int .u32 (p.1 : Int), .int .i64 p.2], .pointer (some ⟨g, 0, none⟩)] _ _
  go_enter Tryz.func63, Tryz.ntmps63
  go_upto_region 1 with fail
  rw [← hw1]
  clear hw1
  have q0 := HK.out.cell 0
  have q1 := HK.out.cell 1
  have ql := HK.out.lt
  simp at q0 q1
  have r0 := HRm1.out.2
  have rl := HRm1.out.1
  have HS5 : Hid (w1.cell? ⟨w.heap.size, 0, none⟩ = some (.int .u32 (p.1 : Int)) ∧ w1.cell? ⟨w.heap.size, 1, none⟩ = some (.int .i64 p.2) ∧ w1.cell? ⟨g, 0, none⟩ = some (.int .i64 room)) := ⟨q0, q1, r0⟩
  have HUc : Hid (∀ w', Below w1.heap.size w1 w' → w'.cell? ⟨w.heap.size, 0, none⟩ = some (.int .u32 (p.1 : Int)) ∧ w'.cell? ⟨w.heap.size, 1, none⟩ = some (.int .i64 p.2) ∧ w'.cell? ⟨g, 0, none⟩ = some (.int .i64 room)) := fun w' hb => ⟨(hb.cell (p := ⟨w.heap.size, 0, none⟩) ql).trans q0, (hb.cell (p := ⟨w.heap.size, 1, none⟩) ql).trans q1, (hb.cell (p := ⟨g, 0, none⟩) rl).trans r0⟩
  by_cases hz0 : z = 0
  · subst hz0
    clear q0 q1 r0
    refine wp_region_held_drew (S := (fun w' => w'.cell? ⟨w.heap.size, 0, none⟩ = some (.int .u32 (p.1 : Int)) ∧ w'.cell? ⟨w.heap.size, 1, none⟩ = some (.int .i64 p.2) ∧ w'.cell? ⟨g, 0, none⟩ = some (.int .i64 room))) (by kernel_rfl) ?_ (fun hHeld => ?_)
    · exact HS5.out
    refine wpAnyH_take (i := 0) (oi := _) (v := ?_) rfl (by kernel_rfl) (by kernel_rfl) (by kernel_rfl) (fun _ _ _ h => h) (Or.inl ⟨by rfl, ?_⟩) (by assumption) ?_
    rotate_left
    · (intro w hSw; (try dsimp only at hSw); go_simp <;> with_reducible rfl)
    try simp only [Act.put, List.getElem_toArray, List.getElem_cons_succ, List.getElem_cons_zero, List.setIfInBounds_toArray, List.set_cons_zero, List.set_cons_succ]
    refine wpAnyH_ready (rs := [1]) (by kernel_rfl) (by simp) ?_
    refine AllReadyH.cons (o := _) rfl (fun K hK => ?_) AllReadyH.nil
    go_simp; go_at_call 64; (with_reducible refine (HSz.out _).mono ?_); rintro e w3 ⟨rfl, hbw3⟩; go_must (have HBw3 := Lib.hid ((Below.refl w1.heap.size w1).drew.trans (hbw3.mono (Below.refl w1.heap.size w1).drew.size))); go_must (have HSw3 : Hid (w3.cell? ⟨w.heap.size, 0, none⟩ = some (.int .u32 (p.1 : Int)) ∧ w3.cell? ⟨w.heap.size, 1, none⟩ = some (.int .i64 p.2) ∧ w3.cell? ⟨g, 0, none⟩ = some (.int .i64 room)) := HUc.out _ HBw3.out); clear hbw3
    refine hK.out _ _ ?_ (fun hHeld => ?_)
    · exact HSw3.out
    clear hK K
    try simp only [Act.put, List.getElem_toArray, List.getElem_cons_succ, List.getElem_cons_zero, List.setIfInBounds_toArray, List.set_cons_zero, List.set_cons_succ]
    refine wpAnyH_take (i := 2) (oi := _) (v := ?_) rfl (by kernel_rfl) (by kernel_rfl) (by kernel_rfl) (fun _ _ _ h => h) (Or.inl ⟨by rfl, ?_⟩) (by assumption) ?_
    rotate_left
    · (intro w hSw; (try dsimp only at hSw); go_simp <;> with_reducible rfl)
    try simp only [Act.put, List.getElem_toArray, List.getElem_cons_succ, List.getElem_cons_zero, List.setIfInBounds_toArray, List.set_cons_zero, List.set_cons_succ]
    refine wpAnyH_take (i := 3) (oi := _) (v := ?_) rfl (by kernel_rfl) (by kernel_rfl) (by kernel_rfl) (fun _ _ _ h => h) (Or.inl ⟨by rfl, ?_⟩) (by assumption) ?_
    rotate_left
    · (intro w hSw; (try dsimp only at hSw); go_simp <;> with_reducible rfl)
    try simp only [Act.put, List.getElem_toArray, List.getElem_cons_succ, List.getElem_cons_zero, List.setIfInBounds_toArray, List.set_cons_zero, List.set_cons_succ]
    refine wpAnyH_take (i := 4) (oi := _) (v := undef) rfl (by kernel_rfl) (by kernel_rfl) (by kernel_rfl) (fun _ _ _ h => h) (Or.inr ⟨by rfl, rfl⟩) (by assumption) ?_
    try simp only [Act.put, List.getElem_toArray, List.getElem_cons_succ, List.getElem_cons_zero, List.setIfInBounds_toArray, List.set_cons_zero, List.set_cons_succ]
    refine wpAnyH_take (i := 5) (oi := _) (v := undef) rfl (by kernel_rfl) (by kernel_rfl) (by kernel_rfl) (fun _ _ _ h => h) (Or.inr ⟨by rfl, rfl⟩) (by assumption) ?_
    try simp only [Act.put, List.getElem_toArray, List.getElem_cons_succ, List.getElem_cons_zero, List.setIfInBounds_toArray, List.set_cons_zero, List.set_cons_succ]
    refine wpAnyH_take (i := 6) (oi := _) (v := undef) rfl (by kernel_rfl) (by kernel_rfl) (by kernel_rfl) (fun _ _ _ h => h) (Or.inr ⟨by rfl, rfl⟩) (by assumption) ?_
    try simp only [Act.put, List.getElem_toArray, List.getElem_cons_succ, List.getElem_cons_zero, List.setIfInBounds_toArray, List.set_cons_zero, List.set_cons_succ]
    refine wpAnyH_take (i := 7) (oi := _) (v := undef) rfl (by kernel_rfl) (by kernel_rfl) (by kernel_rfl) (fun _ _ _ h => h) (Or.inr ⟨by rfl, rfl⟩) (by assumption) ?_
    try simp only [Act.put, List.getElem_toArray, List.getElem_cons_succ, List.getElem_cons_zero, List.setIfInBounds_toArray, List.set_cons_zero, List.set_cons_succ]
    refine wpAnyH_take (i := 8) (oi := _) (v := ?_) rfl (by kernel_rfl) (by kernel_rfl) (by kernel_rfl) (fun _ _ _ h => h) (Or.inl ⟨by rfl, ?_⟩) (by assumption) ?_
    rotate_left
    · (intro w hSw; (try dsimp only at hSw); go_simp <;> with_reducible rfl)
    try simp only [Act.put, List.getElem_toArray, List.getElem_cons_succ, List.getElem_cons_zero, List.setIfInBounds_toArray, List.set_cons_zero, List.set_cons_succ]
    refine wpAnyH_take (i := 9) (oi := _) (v := ?_) rfl (by kernel_rfl) (by kernel_rfl) (by kernel_rfl) (fun _ _ _ h => h) (Or.inl ⟨by rfl, ?_⟩) (by assumption) ?_
    rotate_left
    · (intro w hSw; (try dsimp only at hSw); go_simp <;> with_reducible rfl)
    try simp only [Act.put, List.getElem_toArray, List.getElem_cons_succ, List.getElem_cons_zero, List.setIfInBounds_toArray, List.set_cons_zero, List.set_cons_succ]
    refine wpAnyH_done (by kernel_rfl) ?_ _
    go_wp2_with fail
    go_ret
    exact ⟨rfl, HB.out.trans (HBw3.out.mono HB.out.size)⟩
  · have hz1 : ((z : Int) == 0) = false := by rw [beq_eq_false_iff_ne]; omega
    have HZ2 : Hid ((z == 0) = false) := by rw [Hid, beq_eq_false_iff_ne]; exact hz0
    go_region_held3 (fun w' => w'.cell? ⟨w.heap.size, 0, none⟩ = some (.int .u32 (p.1 : Int)) ∧ w'.cell? ⟨w.heap.size, 1, none⟩ = some (.int .i64 p.2) ∧ w'.cell? ⟨g, 0, none⟩ = some (.int .i64 room)) (first | exact HSw4.out | exact HSw3.out | exact HS5.out) (first
      | (go_at_call 64; (with_reducible refine (HSz.out w1.drew).mono ?_); rintro e w3 ⟨rfl, hbw3⟩; go_must (have HBw3 := Lib.hid ((Below.refl w1.heap.size w1).drew.trans (hbw3.mono (Below.refl w1.heap.size w1).drew.size))); go_must (have HSw3 : Hid (w3.cell? ⟨w.heap.size, 0, none⟩ = some (.int .u32 (p.1 : Int)) ∧ w3.cell? ⟨w.heap.size, 1, none⟩ = some (.int .i64 p.2) ∧ w3.cell? ⟨g, 0, none⟩ = some (.int .i64 room)) := HUc.out _ HBw3.out); clear hbw3)
      | (go_at_call 64; (with_reducible refine (HSz.out w3).mono ?_); rintro e w4 ⟨rfl, hbw4⟩; go_must (have HBw4 := Lib.hid (HBw3.out.trans (hbw4.mono HBw3.out.size))); go_must (have HSw4 : Hid (w4.cell? ⟨w.heap.size, 0, none⟩ = some (.int .u32 (p.1 : Int)) ∧ w4.cell? ⟨w.heap.size, 1, none⟩ = some (.int .i64 p.2) ∧ w4.cell? ⟨g, 0, none⟩ = some (.int .i64 room)) := HUc.out _ HBw4.out); clear hbw4))
    all_goals
      go_wp2_with fail
      go_ret
      exact ⟨by rw [HZ2.out, Bool.false_or]; rfl, HB.out.trans (HBw4.out.mono HB.out.size)⟩

/-- groups of prefixes in memory: the row of the slices, and each one's row -/
structure Grp (w0 wr : World) (A : Option Addr) (n c : Nat) (vs : List Value) (gs : List (List Pf)) : Prop where
  acc : Acc w0 38 1 wr A n c vs
  len : gs.length = n
  row : ∀ (i : Nat) (g : List Pf), gs[i]? = some g → ∃ B d, vs[i]? = some (.slice B g.length d) ∧ (B = none → d = 0) ∧ (g.length ≤ d ∧ d ≤ maxLen) ∧ Rg wr (fun k => w0.heap.size ≤ k ∧ ¬ sf A k) 2 B g.length (fv g)
theorem Grp.go {w0 wr w' : World} {A : Option Addr} {n c : Nat} {vs : List Value} {gs : List (List Pf)} (h : Grp w0 wr A n c vs gs) (hb : Below wr.heap.size wr w') : Grp w0 w' A n c vs gs :=
  ⟨h.acc.go hb, h.len, fun i g hg => by
    obtain ⟨B, d, h1, h2, h3, h4⟩ := h.row i g hg
    exact ⟨B, d, h1, h2, h3, h4.bel hb⟩⟩
theorem Grp.nil (w0 : World) : Grp w0 w0 none 0 0 [] [] := ⟨⟨foot.Own.none_ _ _ _, Below.refl _ _, fun x hx => absurd hx (sf_none x)⟩, rfl, fun i g hg => by simp at hg⟩
theorem Grp.app {w0 wr w' : World} {A A' : Option Addr} {n c c' : Nat} {vs : List Value} {gs : List (List Pf)} {g : List Pf} {B : Option Addr} {d : Nat} (h : Grp w0 wr A n c vs gs)
    (hB : B = none → d = 0) (hd : g.length ≤ d ∧ d ≤ maxLen) (hr : Rg wr (sf B) 2 B g.length (fv g)) (hlo : ∀ k, sf B k → w0.heap.size ≤ k) (hap : ∀ k, sf B k → ¬ sf A k)
    (ho : foot.Own w' 38 1 A' (n + 1) c' (vs ++ [.slice B g.length d])) (hc : Chg (sf A) wr w') (hf : Fresh wr (sf A) (sf A')) : Grp w0 w' A' (n + 1) c' (vs ++ [.slice B g.length d]) (gs ++ [g]) := by
  have hvl : vs.length = n := by have := h.acc.own.1; omega
  have key : ∀ (B' : Option Addr) (m : Nat) (xs : List Value), Rg wr (fun k => w0.heap.size ≤ k ∧ ¬ sf A k) 2 B' m xs → Rg w' (fun k => w0.heap.size ≤ k ∧ ¬ sf A' k) 2 B' m xs := fun B' m xs hh => by
    have h1 : Rg wr (fun k => (w0.heap.size ≤ k ∧ ¬ sf A k) ∧ ¬ sf A' k) 2 B' m xs := hh.mono fun k hk hG => ⟨hG, fun hs => by
      rcases hf k hs with e | e
      · exact hG.2 e
      · omega⟩
    exact (h1.chg hc fun k _ hG hs => hG.1.2 hs).mono fun k _ hG => ⟨hG.1.1, hG.2⟩
  refine ⟨h.acc.app ho hc hf, by rw [List.length_append, h.len]; rfl, fun i x hx => ?_⟩
  rcases Nat.lt_trichotomy i gs.length with hi | hi | hi
  · rw [List.getElem?_append_left hi] at hx
    obtain ⟨B', d', h1, h2, h3, h4⟩ := h.row i x hx
    refine ⟨B', d', ?_, h2, h3, key _ _ _ h4⟩
    rw [List.getElem?_append_left (by rw [hvl, ← h.len]; exact hi)]
    exact h1
  · subst hi
    rw [List.getElem?_append_right (Nat.le_refl _), Nat.sub_self] at hx
    simp at hx
    subst hx
    refine ⟨B, d, ?_, hB, hd, key _ _ _ (hr.mono fun k _ hk => ⟨hlo k hk, hap k hk⟩)⟩
    rw [h.len, ← hvl, List.getElem?_append_right (Nat.le_refl _), Nat.sub_self]
    rfl
  · rw [List.getElem?_eq_none (by rw [List.length_append]; simp; omega)] at hx
    cases hx
def RetG (gs : List (List Pf)) (w : World) (e : Ending) (w' : World) : Prop := ∃ A c vs, e = .returned (.slice A gs.length c) ∧ Grp w w' A gs.length c vs gs

theorem info_sl : (Tryz.prog.info? 38).map (fun i => (i.zero, i.size, i.bytes)) = some (some (.slice none 0 0), 1, 24) := by kernel_rfl
theorem packF_len : ∀ (f : Nat) (room : Int) (l : List Pf), (packF f room l).length ≤ f
  | 0, room, l => Nat.le_refl _
  | f + 1, room, l => by
    unfold packF
    split
    · simp
    · have := packF_len f room (l.drop (fitI room l))
      simp only [List.length_cons]; omega

set_option maxRecDepth 100000 in
set_option maxHeartbeats 4000000 in
theorem Pack_any {G : Foot} (A : Option Addr) (c : Nat) (l : List Pf) (room : Int) (w : World) (hn : l.length ≤ 10000) (hr1 : -9223372036854775808 ≤ room) (hr2 : room ≤ 9223372036854775807) (hA : A = none → c = 0) (hw : ∀ x ∈ l, x.1 < 4294967296) (h : Rg w G 2 A l.length (fv l)) :
    Calls Tryz.prog 35 #[.slice A l.length c, .int .i64 room] w (RetG (packK room (l.filter (okP room))) w) := by
  obtain ⟨i0, hi0, hz0, hz1, hz2⟩ := info_parts info_sl
  have Hi := Lib.hid hi0
  have Hz0 := Lib.hid hz0
  have Hz1 := Lib.hid hz1
  have Hz2 := Lib.hid hz2
  obtain ⟨w1, hw1⟩ : ∃ w1, w1 = w.alloc (.cells #[.int .i64 room] 3) := ⟨_, rfl⟩
  have HB1 : Hid (Below w.heap.size w w1) := by rw [hw1]; exact (Below.refl _ _).alloc (Nat.le_refl _) _
  have HX1 : Hid (Bk w1 w.heap.size 3 #[.int .i64 room]) := by rw [hw1]; exact Bk.new w _ _
  have HCl := Lib.hid (Clone_any A l.length c l w1 (by omega) hA rfl (h.bel HB1.out))
  have HW := Lib.hid hw
  clear h hw hA hi0 hz0 hz1 hz2
  go_enter Tryz.func35, Tryz.ntmps35
  go_upto_region 1 with fail
  rw [← hw1]
  clear hw1
  go_wp2_with fail
  refine HCl.out.mono ?_; rintro e w2 ⟨A2, c2, rfl, ho2, hlo2, hb2⟩
  have HX2 := Lib.hid (HX1.out.below hb2 HX1.out.lt)
  have hap : ∀ k, sf A2 k → k ≠ w.heap.size := fun k hk e => by have h1 := hlo2 k hk; have h2 := HX1.out.lt; omega
  have HD := DeleteFunc_any (w := w2) (fun x => !okP room x) 63 #[.pointer (some ⟨w.heap.size, 0, none⟩)] enters_Pack1 (by omega) ho2 (fun x hx w' hc => by
    have hx2 := HX2.out.chg hc (fun hs => hap _ hs rfl)
    exact Pack1_any x (HW.out x hx) room w.heap.size w' hx2.lt (by have := hx2.cell 0; simpa using this))
  have e1 : (l.filter fun x => !!okP room x) = l.filter (okP room) := by congr 1; funext x; simp
  rw [e1] at HD
  have HDl := Lib.hid HD
  have H2 := Lib.hid (And.intro hlo2 (And.intro (HB1.out.trans (hb2.mono HB1.out.size)) hap))
  obtain ⟨R, hR⟩ : ∃ R, R = l.filter (okP room) := ⟨_, rfl⟩
  rw [← hR] at HDl ⊢
  have hRl : R.length ≤ 10000 := by rw [hR]; exact Nat.le_trans (List.length_filter_le _ _) hn
  have HRo : Hid (∀ p ∈ R, okP room p = true ∧ p.1 < 4294967296) := by rw [Hid, hR]; exact fun p hp => ⟨(List.mem_filter.1 hp).2, HW.out p (List.mem_filter.1 hp).1⟩
  have HGe : Hid (w.heap.size ≤ w1.heap.size) := HB1.out.size
  have HRq : Hid (R = l.filter (okP room)) := hR
  clear ho2 hlo2 hb2 hap HD e1 hR HX1 HCl HB1
  go_wp2_with fail
  refine HDl.out.mono ?_; rintro e w3 ⟨rfl, ho3, hc3⟩
  have HX3 := Lib.hid (HX2.out.chg hc3 (fun hs => H2.out.2.2 _ hs rfl))
  have HB3 : Hid (Below w.heap.size w w3) := H2.out.2.1.trans (hc3.below (fun k hk => Nat.le_trans HGe.out (H2.out.1 k hk)) H2.out.2.1.size)
  have HO3 := Lib.hid ho3
  have hk0 := HX3.out.cell 0
  have hkl := HX3.out.lt
  simp at hk0
  clear ho3 hc3 HX2 HDl
  go_wp2_with fail
  go_loopw [0, 5, 6] (fun v0 v5 _ wr => ∃ (j : Nat) (Ax : Option Addr) (nx cx : Nat) (Ao : Option Addr) (mo co : Nat) (vs : List Value) (gs : List (List Pf)), v0 = .slice Ax nx cx ∧ v5 = .slice Ao mo co ∧ j ≤ R.length ∧ nx = R.length - j ∧ (Ax = none → cx = 0) ∧ nx ≤ cx ∧ cx ≤ maxLen ∧ Rg w3 (sf A2) 2 Ax nx (fv (R.drop j)) ∧ mo ≤ j ∧ packK room R = gs ++ packK room (R.drop j) ∧ Grp w3 wr Ao mo co vs gs) (fun v0 _ _ _ => match v0 with | .slice _ n _ => n | _ => 0)
  case atStart => exact ⟨0, A2, R.length, c2, none, 0, 0, [], [], rfl, rfl, Nat.zero_le _, rfl, HO3.out.nil, HO3.out.cap, HO3.out.max, HO3.out.rg, Nat.le_refl _, rfl, Grp.nil w3⟩
  case round =>
    obtain ⟨j, Ax, nx, cx, Ao, mo, co, vs, gs, rfl, rfl, hj, hnx, hAx, hcx, hmx, hrx, hmj, hpk, hG⟩ := hrel
    have HG := Lib.hid hG
    have HP := Lib.hid hpk
    have HRx := Lib.hid hrx
    have HAx := Lib.hid (And.intro hAx (And.intro hcx hmx))
    have HNx := Lib.hid hnx
    clear hG hpk hrx hAx hcx hmx hnx
    by_cases hlt : j < R.length
    · have hne : R.drop j ≠ [] := by
        intro e
        have := congrArg List.length e
        rw [List.length_drop] at this
        simp at this
        omega
      have hok : ∀ p ∈ R.drop j, okP room p = true := fun p hp => (HRo.out p (List.mem_of_mem_drop hp)).1
      have hpos := fitI_pos hne hok
      have hle := fitI_le room (R.drop j)
      have hcons := packK_cons hne hok
      rw [List.length_drop] at hle
      have hroom : -1 ≤ room := by
        obtain ⟨p, hp⟩ : ∃ p, p ∈ R.drop j := List.exists_mem_of_ne_nil _ hne
        have := (okP_iff room p).1 (hok p hp)
        omega
      have HFt := Lib.hid (fun (w' : World) (hr : Rg w' (sf A2) 2 Ax nx (fv (R.drop j))) => by
        have hlen : (R.drop j).length = nx := by rw [List.length_drop, HNx.out]
        have h := fits_any Ax cx (R.drop j) room w' (by have := HNx.out; omega) hroom hr2 (fun x hx => (HRo.out x (List.mem_of_mem_drop hx)).2) (by rw [hlen]; exact hr)
        rw [hlen] at h
        exact h)
      obtain ⟨n, hn2⟩ : ∃ n, n = fitI room (R.drop j) := ⟨_, rfl⟩
      rw [← hn2] at HFt hpos hle hcons
      rw [List.drop_drop] at hcons
      have HN := Lib.hid (And.intro hcons hn2)
      have hxw := HX3.out.below HG.out.acc.bel HX3.out.lt
      have r0 := hxw.cell 0
      have rl := hxw.lt
      simp at r0
      have hnx0 : decide ((0 : Int) < (nx : Int)) = true := by have := HNx.out; simp; omega
      have hnn : n ≤ nx := by have := HNx.out; omega
      have hnxl : nx ≤ 10000 := by have := HNx.out; omega
      have klo := fun w => scut_lo Ax cx nx n HAx.out.1 HAx.out.2.1 HAx.out.2.2 hnn w
      obtain ⟨A5, c5, h5a, h5b, h5c, khi, h5r⟩ := scut_hi Ax cx nx n HAx.out.1 HAx.out.2.1 HAx.out.2.2 hnn
      have H5 := Lib.hid (And.intro h5a (And.intro h5b (And.intro h5c h5r)))
      have hcn : n ≤ cx := Nat.le_trans hnn HAx.out.2.1
      clear hne hok hcons hn2 hxw h5a h5b h5c h5r hroom
      go_wp2_with fail
      refine (HFt.out _ (HRx.out.bel HG.out.acc.bel)).mono ?_; rintro e w4 ⟨rfl, hb4⟩
      have HG4 := Lib.hid (HG.out.go hb4)
      have HS4 : Hid (w3.heap.size ≤ w4.heap.size) := HG4.out.acc.bel.size
      clear hb4 r0 rl HG
      have hrn : Rg w4 (sf A2) 2 Ax n (fv ((R.drop j).take n)) := by
        have h := (HRx.out.bel HG4.out.acc.bel).take hnn
        rw [fv_take2] at h
        exact h
      have HCl := Lib.hid (Clone_any Ax n cx ((R.drop j).take n) w4 (by omega) HAx.out.1 (by rw [List.length_take, List.length_drop]; omega) hrn)
      have HTn : Hid (((R.drop j).take n).length = n) := by rw [Hid, List.length_take, List.length_drop]; omega
      clear hrn
      go_wp2_with fail
      refine HCl.out.mono ?_; rintro e w5 ⟨A6, c6, rfl, ho6, hlo6, hb6⟩
      have HG5 := Lib.hid (HG4.out.go hb6)
      have H6 := Lib.hid (And.intro ho6 hlo6)
      have HG6 := Lib.hid (HG5.out.go ((Below.refl _ _).alloc (Nat.le_refl _) (.cells #[.slice A6 n c6] 38)))
      have HR6 : Hid (Rg (w5.alloc (.cells #[.slice A6 n c6] 38)) (fun k => k = w5.heap.size) 1 (some ⟨w5.heap.size, 0, none⟩) 1 [.slice A6 n c6]) := Rg.new w5 38 1 1 #[.slice A6 n c6] rfl
      have hlt4 : w4.heap.size ≤ w5.heap.size := hb6.size
      have HL6 : Hid (∀ x, sf Ao x → x < w4.heap.size) := HG4.out.acc.own.lt
      clear ho6 hlo6 hb6 HCl HG4 HG5
      have hmo : mo ≤ 10000 := by omega
      have HS34 : Hid (w3.heap.size ≤ w4.heap.size) := HS4.out
      have HGa : Hid (∀ A' c' w', foot.Own w' 38 1 A' (mo + 1) c' (vs ++ [.slice A6 n c6]) → Chg (sf Ao) (w5.alloc (.cells #[.slice A6 n c6] 38)) w' → Fresh (w5.alloc (.cells #[.slice A6 n c6] 38)) (sf Ao) (sf A') → Grp w3 w' A' (mo + 1) c' (vs ++ [.slice A6 n c6]) (gs ++ [(R.drop j).take n])) := fun A' c' w' h1 h2 h3 => by
        have ho := H6.out.1
        have e := HTn.out
        have h := HG6.out.app (g := (R.drop j).take n) (B := A6) (d := c6) (A' := A') (c' := c') (w' := w') ho.nil ⟨by rw [e]; exact ho.cap, ho.max⟩ (by rw [e]; exact ho.rg.bel ((Below.refl _ _).alloc (Nat.le_refl _) _)) (fun k hk => Nat.le_trans HS34.out (H6.out.2 k hk)) (fun k hk hs => by have h1 := H6.out.2 k hk; have h2 := HL6.out k hs; omega) (by rw [e]; exact h1) h2 h3
        rw [e] at h
        exact h
      go_wp2_with (at_builtin; refine wpList_app _ rfl (.tmp 17) (.tmp 22) _ rfl 38 i0 _ 1 24 Tryz.underlying68 Hi.out Hz0.out Hz1.out Hz2.out rfl (by omega) _ _ co vs rfl HG6.out.acc.own _ (some ⟨w5.heap.size, 0, none⟩) 1 1 (by intro h; cases h) [.slice A6 n c6] rfl HR6.out (by intro u hu; simp at hu; subst hu; rfl) (by unfold maxLen; omega) (by omega) ?_; intro A7 c7 w7 ho7 hc7 hf7; have H7 := Lib.hid (HGa.out _ _ _ ho7 hc7 hf7); clear ho7 hc7 hf7)
      go_roundw
      case rel =>
        obtain ⟨hcons, hn2⟩ := HN.out
        obtain ⟨h5a, h5b, h5c, h5r⟩ := H5.out
        have hnx := HNx.out
        have hrr := h5r w3 (sf A2) _ HRx.out
        rw [fv_drop2, List.drop_drop] at hrr
        exact ⟨j + n, A5, nx - n, c5, A7, mo + 1, c7, _, _, rfl, rfl, by omega, by omega, h5a, h5b, h5c, hrr, by omega, by rw [HP.out, hcons]; simp, H7.out⟩
      case measure => simp; omega
    · have hj2 : j = R.length := by omega
      have hP := HP.out
      have hX := HNx.out
      rw [hj2, List.drop_length, packK_nil, List.append_nil] at hP
      have HP2 := Lib.hid hP
      have hnx0 : nx = 0 := by omega
      subst hnx0
      clear hP hX
      go_wp2_with fail
      go_ret
      have hg := HG.out
      have hlen := hg.len
      rw [← HRq.out, HP2.out]
      subst hlen
      refine ⟨Ao, co, vs, rfl, ?_⟩
      exact ⟨⟨hg.acc.own, HB3.out.trans (hg.acc.bel.mono HB3.out.size), fun x hx => Nat.le_trans HB3.out.size (hg.acc.low x hx)⟩, rfl, fun i g hgi => by
        obtain ⟨B, d, h1, h2, h3, h4⟩ := hg.row i g hgi
        exact ⟨B, d, h1, h2, h3, h4.mono fun k _ hk => ⟨Nat.le_trans HB3.out.size hk.1, hk.2⟩⟩⟩
end Go.Proofs.YtbljhjfaimnieaaGreat.nlri
