/- The walk of the law TrieOrder: the Go text returns true and writes nothing that was there. No condition. -/
import Derived.Test.YtbhhkjkjihenoaaTrieSame
import Derived.Test.YtbhhkjkjihenoaaTrieOrderMath
import Derived.Test.YtbhhkjkjihenoaaTrieArgs
namespace Go.Proofs.Ytbhhkjkjihenoaa.trieOrder
open Go.RowKit Go.Proofs.Ytbhhkjkjihenoaa.kit Go.Proofs.Ytbhhkjkjihenoaa.mem Go.Proofs.Ytbhhkjkjihenoaa.foot Go.Proofs.Ytbhhkjkjihenoaa.pfx Go.Proofs.Ytbhhkjkjihenoaa.tri
set_option linter.unusedVariables false
set_option linter.unusedSimpArgs false

/-- the k-th prefix of a slice that came in -/
theorem pfx_at {W : World} {G : Foot} {A : Option Addr} {l : List (Int × Int)} (h : Els 2 RPfx W G A l) {k : Nat} (hk : k < l.length) :
    ∃ b off a n, A = some ⟨b, off, none⟩ ∧ b < W.heap.size ∧ a < 4294967296 ∧ W.cell? ⟨b, off + k * 2, none⟩ = some (.int .u32 ((a : Nat) : Int)) ∧ W.cell? ⟨b, off + k * 2 + 1, none⟩ = some (.int .i64 n) ∧ kof l k = kyOf a n := by
  obtain ⟨b, off, cs, e, _, hb, hr, hc⟩ := h.at_ keeps_pfx hk
  obtain ⟨a, ha, h1, rfl, _⟩ := pfx_eq hr
  have c0 := hc 0 _ rfl
  have c1 := hc 1 _ rfl
  rw [Nat.add_zero] at c0
  refine ⟨b, off, a, _, e, hb, ha, c0, c1, ?_⟩
  unfold kof
  rw [List.getElem?_eq_getElem hk]
  dsimp only
  rw [h1]; rfl
/-- behind i rounds -/
structure OrdJ (W : World) (L : List (Int × Int)) (N i j : Nat) (tr ur : Nat) (t u : T) (wr : World) : Prop where
  two : Two W.heap.size wr tr t ur u
  wt : t.Wf []
  wu : u.Wf []
  ct : t.cnt ≤ i
  cu : u.cnt ≤ j
  fwd : Fwd L i t
  bwd : Bwd L N j u
  bel : Below W.heap.size W wr
theorem cnt_between {t : T} (h : t.Wf []) (o : Option Key) (v : Int) (hn : hadX t o = false) : (cutX (putX t o v) o).cnt ≤ t.cnt := by
  cases o with
  | none => exact Nat.le_refl _
  | some p =>
    have hw := T.put_wf (v := v) h (List.nil_prefix (l := p))
    have hh : hadB (t.put p v) p = true := (had_iff hw p).2 ⟨v, (T.put_mem h _).2 (.inl rfl)⟩
    have hnp : ∀ x ∈ t.rows, x.1 ≠ p := fun x hx e => by
      have := (had_iff h p).2 ⟨x.2, by rw [← e]; exact hx⟩
      unfold hadX at hn; dsimp only at hn; rw [hn] at this; cases this
    unfold cutX putX
    dsimp only
    rw [if_pos hh]
    unfold T.cnt
    rw [rows_cut hw, rows_put h List.nil_prefix]
    have e : cutL p (putL p v t.rows) = t.rows := by
      have s0 := T.rows_sorted h
      have s1 := putL_sorted (p := p) (v := v) s0
      refine T.sorted_ext (cutL_sorted s1.1) s0 fun x => ?_
      rw [cutL_mem, s1.2]
      constructor
      · rintro ⟨h1, h2 | h2⟩
        · rw [h2] at h1; exact absurd rfl h1
        · exact h2.2
      · intro hx; exact ⟨hnp x hx, .inr ⟨hnp x hx, hx⟩⟩
    rw [e]; exact Nat.le_refl _

section
variable {W wr w' w2 : World} {L : List (Int × Int)} {N i j tr ur : Nat} {t u t' u' : T}
theorem OrdJ.go (h : OrdJ W L N i j tr ur t u wr) (hb : Below wr.heap.size wr w') : OrdJ W L N i j tr ur t u w' := ⟨h.two.bel hb, h.wt, h.wu, h.ct, h.cu, h.fwd, h.bwd, h.bel.trans (hb.mono h.bel.size)⟩
theorem OrdJ.put_t (h : OrdJ W L N i j tr ur t u wr) (v : Int) (h2 : Two W.heap.size w' tr (putX t (kof L i) v) ur u) (hb : Below W.heap.size wr w') : OrdJ W L N (i + 1) j tr ur (putX t (kof L i) v) u w' :=
  ⟨h2, putX_wf h.wt _ _, h.wu, by have := putX_cnt t (kof L i) v; have := h.ct; omega, h.cu, fwd_succ h.wt h.fwd v, h.bwd, h.bel.trans hb⟩
theorem OrdJ.put_u (h : OrdJ W L N i j tr ur t u wr) (v : Int) (h2 : Two W.heap.size w' tr t ur (putX u (kof L (N - 1 - j)) v)) (hb : Below W.heap.size wr w') : OrdJ W L N i (j + 1) tr ur t (putX u (kof L (N - 1 - j)) v) w' :=
  ⟨h2, h.wt, putX_wf h.wu _ _, h.ct, by have := putX_cnt u (kof L (N - 1 - j)) v; have := h.cu; omega, h.fwd, bwd_succ h.wu h.bwd v, h.bel.trans hb⟩
theorem OrdJ.between (h : OrdJ W L N i j tr ur t u wr) (o : Option Key) (v : Int) (hn : hadX t o = false) (h2 : Two W.heap.size w' tr (cutX (putX t o v) o) ur u) (hb : Below W.heap.size wr w') : OrdJ W L N i j tr ur (cutX (putX t o v) o) u w' :=
  ⟨h2, cutX_wf (putX_wf h.wt _ _) _, h.wu, Nat.le_trans (cnt_between h.wt o v hn) h.ct, h.cu, fwd_between h.wt h.fwd o v hn, h.bwd, h.bel.trans hb⟩
end
set_option maxRecDepth 100000 in
set_option maxHeartbeats 4000000 in
theorem core (A0 A1 : Option Addr) (c0 c1 : Nat) (l0 l1 : List (Int × Int)) (W : World) (hm0 : l0.length ≤ 9223372036854775807) (hm1 : l1.length ≤ 9223372036854775807) (h0 : Els 2 RPfx W (fun _ => True) A0 l0) (h1 : Els 2 RPfx W (fun _ => True) A1 l1) :
    Calls Try.prog 4 #[.slice A0 l0.length c0, .slice A1 l1.length c1] W fun e w' => e = .returned (.bool true) ∧ Below W.heap.size W w' := by
  have H0 := Lib.hid h0
  have H1 := Lib.hid h1
  clear h0 h1
  go_enter Try.func4, Try.ntmps4
  go_wp2_with fail
  refine (New_any W).mono ?_; rintro e w1 ⟨tr, F, rfl, hT, hF, hb1⟩
  have HT := Lib.hid hT
  have HF := Lib.hid hF
  have HB1 := Lib.hid hb1
  clear hT hF hb1
  go_wp2_with fail
  refine (New_any w1).mono ?_; rintro e w2 ⟨ur, G, rfl, hU, hG, hb2⟩
  have hz1 := HB1.out.size
  have HJ0 : Hid (∀ N, OrdJ W l0 N 0 0 tr ur .nil .nil w2) := fun N => ⟨⟨F, G, HT.out.bel hb2, hU, fun x hf hg => by have := HT.out.lt x hf; have := hG x hg; omega, HF.out, fun x hg => by have := hG x hg; omega⟩, trivial, trivial, Nat.le_refl _, Nat.le_refl _, fwd_zero _, bwd_zero _ _, HB1.out.trans (hb2.mono hz1)⟩
  clear hU hG hb2 HT HF HB1 hz1
  obtain ⟨N, hN⟩ : ∃ N, N = min l0.length 30 := ⟨_, rfl⟩
  have hN30 : N ≤ 30 := by omega
  have hNl : N ≤ l0.length := by omega
  have HNm : Hid (N = min l0.length 30) := hN
  have fin : ∀ (n : Int), n = N → n = N := fun _ h => h
  by_cases hgt : 30 < l0.length
  case' pos =>
    have HNe : Hid (N = 30) := by have := HNm.out; rw [Hid]; omega
    have d1 : decide ((30 : Int) < (l0.length : Int)) = true := by simp; omega
    clear hN HNm fin
    go_wp2_with fail
    rw [show Value.int .i64 30 = Value.int .i64 (N : Int) from by rw [HNe.out]; rfl]
  case' neg =>
    have HNe : Hid (N = l0.length) := by have := HNm.out; rw [Hid]; omega
    have d1 : decide ((30 : Int) < (l0.length : Int)) = false := by simp; omega
    clear hN HNm fin
    go_wp2_with fail
    rw [show Value.int .i64 (l0.length : Int) = Value.int .i64 (N : Int) from by rw [HNe.out]]
  all_goals
    clear d1 hgt
    go_loopw [8] (fun v8 wr => ∃ (i : Nat) (t u : T), i ≤ N ∧ v8 = .int .i64 i ∧ OrdJ W l0 N i i tr ur t u wr) (fun v _ => N - (intOf v).toNat)
    case atStart => exact ⟨0, .nil, .nil, Nat.zero_le _, rfl, HJ0.out N⟩
    case round =>
      obtain ⟨i, t, u, hi, rfl, hJ⟩ := hrel
      have HJ := Lib.hid hJ
      clear hJ HJ0
      by_cases hlt : i < N
      · obtain ⟨b, off, a, n, rfl, hb, ha, q0, q1, hk⟩ := pfx_at H0.out (k := i) (by omega)
        obtain ⟨b', off', a', n', e', hb', ha', r0, r1, hk'⟩ := pfx_at H0.out (k := N - 1 - i) (by omega)
        obtain ⟨rfl, rfl⟩ : b = b' ∧ off = off' := by cases e'; exact ⟨rfl, rfl⟩
        clear e'
        have q0 := (HJ.out.bel.cell (p := ⟨b, off + i * 2, none⟩) hb).trans q0
        have q1 := (HJ.out.bel.cell (p := ⟨b, off + i * 2 + 1, none⟩) hb).trans q1
        obtain ⟨F, hT, hSt⟩ := HJ.out.two.left HJ.out.bel.size
        have HP := Lib.hid (PutX a n i (kof l0 i) wr ha hk hT HJ.out.wt (by have := HJ.out.ct; omega))
        have HSt := Lib.hid hSt
        have HK := Lib.hid hk
        have HK' := Lib.hid hk'
        have hil : i < l0.length := by omega
        clear hT hSt hk hk'
        go_wp2_with fail
        refine HP.out.mono ?_; rintro e w3 ⟨rfl, hS⟩
        obtain ⟨hTw, hBl⟩ := HSt.out _ _ hS
        have HJ3 := Lib.hid (HJ.out.put_t i hTw hBl)
        clear hS hTw hBl HP HSt q0 q1
        generalize putX t (kof l0 i) i = t3 at *
        generalize wasX t (kof l0 i) = x1
        generalize hadX t (kof l0 i) = x2
        by_cases hg : i < l1.length
        · obtain ⟨d, doff, ga, gn, rfl, hd, hga, g0, g1, _⟩ := pfx_at H1.out hg
          have HGk : Hid (kyOf ga gn = kyOf ga gn) := rfl
          have g0' := (HJ3.out.bel.cell (p := ⟨d, doff + i * 2, none⟩) hd).trans g0
          have g1' := (HJ3.out.bel.cell (p := ⟨d, doff + i * 2 + 1, none⟩) hd).trans g1
          obtain ⟨F3, hT3, hS3⟩ := HJ3.out.two.left HJ3.out.bel.size
          have HGt := Lib.hid (GetX ga gn (kyOf ga gn) w3 hga rfl hT3 HJ3.out.wt)
          clear hT3 hS3
          go_wp2_with fail
          refine HGt.out.mono ?_; rintro e w4 ⟨rfl, hb4⟩
          have HJ4 := Lib.hid (HJ3.out.go hb4)
          clear hb4 HGt g0' g1'
          have g0' := (HJ4.out.bel.cell (p := ⟨d, doff + i * 2, none⟩) hd).trans g0
          have g1' := (HJ4.out.bel.cell (p := ⟨d, doff + i * 2 + 1, none⟩) hd).trans g1
          rcases hh : hadX t3 (kyOf ga gn) with _ | _
          · have HH := Lib.hid hh
            clear hh
            obtain ⟨F4, hT4, hS4⟩ := HJ4.out.two.left HJ4.out.bel.size
            have HP4 := Lib.hid (PutX ga gn 7 (kyOf ga gn) w4 hga rfl hT4 HJ4.out.wt (by have := HJ4.out.ct; omega))
            have HS4 := Lib.hid hS4
            clear hT4 hS4
            generalize wasX t3 (kyOf ga gn) = x3
            go_wp2_with fail
            refine HP4.out.mono ?_; rintro e w5 ⟨rfl, hS⟩
            obtain ⟨hTw, hBl⟩ := HS4.out _ _ hS
            have HTw := Lib.hid hTw
            have HBl := Lib.hid hBl
            have HB5 : Hid (Below W.heap.size W w5) := HJ4.out.bel.trans hBl
            clear hS hTw hBl HP4 HS4 g0' g1'
            have g0' := (HB5.out.cell (p := ⟨d, doff + i * 2, none⟩) hd).trans g0
            have g1' := (HB5.out.cell (p := ⟨d, doff + i * 2 + 1, none⟩) hd).trans g1
            obtain ⟨F5, hT5, hS5⟩ := HTw.out.left HB5.out.size
            have HP5 := Lib.hid (CutX ga gn (kyOf ga gn) w5 hga rfl hT5 (putX_wf HJ4.out.wt _ _) (by have := putX_cnt t3 (kyOf ga gn) 7; have := HJ4.out.ct; omega))
            have HS5 := Lib.hid hS5
            clear hT5 hS5
            generalize wasX t3 (kyOf ga gn) = x4
            go_wp2_with fail
            refine HP5.out.mono ?_; rintro e w6 ⟨rfl, hS⟩
            obtain ⟨hTw, hBl⟩ := HS5.out _ _ hS
            have HJ6 : Hid (OrdJ W l0 N (i + 1) i tr ur (cutX (putX t3 (kyOf ga gn) 7) (kyOf ga gn)) u w6) := HJ4.out.between _ _ HH.out hTw (HBl.out.trans hBl)
            clear hS hTw hBl HP5 HS5 g0' g1'
            generalize wasX (putX t3 (kyOf ga gn) 7) (kyOf ga gn) = x6
            generalize hadX (putX t3 (kyOf ga gn) 7) (kyOf ga gn) = x7
            -- the other tree
            have r0' := (HJ6.out.bel.cell (p := ⟨b, off + (N - 1 - i) * 2, none⟩) hb).trans r0
            have r1' := (HJ6.out.bel.cell (p := ⟨b, off + (N - 1 - i) * 2 + 1, none⟩) hb).trans r1
            obtain ⟨G, hU, hSu⟩ := HJ6.out.two.swap.left HJ6.out.bel.size
            have HPu := Lib.hid (PutX a' n' i (kof l0 (N - 1 - i)) w6 ha' HK'.out hU HJ6.out.wu (by have := HJ6.out.cu; omega))
            have HSu := Lib.hid hSu
            clear hU hSu
            have hNi : (N : Int) - 1 - (i : Int) = ((N - 1 - i : Nat) : Int) := by omega
            have hNl : (N - 1 - i : Nat) < l0.length := by omega
            go_wp2_with fail
            refine HPu.out.mono ?_; rintro e w7 ⟨rfl, hS⟩
            obtain ⟨hTw, hBl⟩ := HSu.out _ _ hS
            have HJ7 := Lib.hid (HJ6.out.put_u i hTw.swap hBl)
            clear hS hTw hBl hNi hNl
            go_wp2_with fail
            go_roundw
            case rel => exact ⟨i + 1, _, _, by omega, by go_num, HJ7.out⟩
            case measure => simp [intOf]; omega
          · clear hh
            have HJ6 := HJ4
            generalize wasX t3 (kyOf ga gn) = x3
            clear g0' g1'
            -- the other tree
            have r0' := (HJ6.out.bel.cell (p := ⟨b, off + (N - 1 - i) * 2, none⟩) hb).trans r0
            have r1' := (HJ6.out.bel.cell (p := ⟨b, off + (N - 1 - i) * 2 + 1, none⟩) hb).trans r1
            obtain ⟨G, hU, hSu⟩ := HJ6.out.two.swap.left HJ6.out.bel.size
            have HPu := Lib.hid (PutX a' n' i (kof l0 (N - 1 - i)) w4 ha' HK'.out hU HJ6.out.wu (by have := HJ6.out.cu; omega))
            have HSu := Lib.hid hSu
            clear hU hSu
            have hNi : (N : Int) - 1 - (i : Int) = ((N - 1 - i : Nat) : Int) := by omega
            have hNl : (N - 1 - i : Nat) < l0.length := by omega
            go_wp2_with fail
            refine HPu.out.mono ?_; rintro e w7 ⟨rfl, hS⟩
            obtain ⟨hTw, hBl⟩ := HSu.out _ _ hS
            have HJ7 := Lib.hid (HJ6.out.put_u i hTw.swap hBl)
            clear hS hTw hBl hNi hNl
            go_wp2_with fail
            go_roundw
            case rel => exact ⟨i + 1, _, _, by omega, by go_num, HJ7.out⟩
            case measure => simp [intOf]; omega
        · have HJ6 := HJ3
          -- the other tree
          have r0' := (HJ6.out.bel.cell (p := ⟨b, off + (N - 1 - i) * 2, none⟩) hb).trans r0
          have r1' := (HJ6.out.bel.cell (p := ⟨b, off + (N - 1 - i) * 2 + 1, none⟩) hb).trans r1
          obtain ⟨G, hU, hSu⟩ := HJ6.out.two.swap.left HJ6.out.bel.size
          have HPu := Lib.hid (PutX a' n' i (kof l0 (N - 1 - i)) w3 ha' HK'.out hU HJ6.out.wu (by have := HJ6.out.cu; omega))
          have HSu := Lib.hid hSu
          clear hU hSu
          have hNi : (N : Int) - 1 - (i : Int) = ((N - 1 - i : Nat) : Int) := by omega
          have hNl : (N - 1 - i : Nat) < l0.length := by omega
          go_wp2_with fail
          refine HPu.out.mono ?_; rintro e w7 ⟨rfl, hS⟩
          obtain ⟨hTw, hBl⟩ := HSu.out _ _ hS
          have HJ7 := Lib.hid (HJ6.out.put_u i hTw.swap hBl)
          clear hS hTw hBl hNi hNl
          go_wp2_with fail
          go_roundw
          case rel => exact ⟨i + 1, _, _, by omega, by go_num, HJ7.out⟩
          case measure => simp [intOf]; omega
      · obtain rfl : i = N := by omega
        obtain ⟨hke, hse⟩ := order_same HJ.out.wt HJ.out.wu HJ.out.fwd HJ.out.bwd
        obtain ⟨F, hT, hSt⟩ := HJ.out.two.left HJ.out.bel.size
        obtain ⟨G, hU, hSu⟩ := HJ.out.two.swap.left HJ.out.bel.size
        have hct := HJ.out.ct
        have hcu := HJ.out.cu
        have hst := (T.size_le HJ.out.wt).2
        have hz : T.nil.size = 0 := rfl
        have hsz : t.size < 1000000 := by rcases hst with h | h; omega; rw [h, hz]; omega
        have hszu : u.size < 1000000 := by rw [← hse]; exact hsz
        obtain ⟨K, hK⟩ : ∃ K, K = t.rows.map (·.1) := ⟨_, rfl⟩
        have HA := Lib.hid (All_any K wr hT (by omega) hK)
        have HUa := Lib.hid (fun w1 (hb : Below wr.heap.size wr w1) => All_any K w1 (hU.bel hb) (by omega) (hK.trans hke))
        have HNt := Lib.hid (fun w1 (hb : Below wr.heap.size wr w1) => Nodes_any w1 (hT.bel hb) hsz)
        have HNu := Lib.hid (fun w1 (hb : Below wr.heap.size wr w1) => Nodes_any w1 (hU.bel hb) hszu)
        rw [← hse] at HNu
        clear hT hSt hU hSu hke hse hst hz hsz hszu hK
        generalize t.size = z at *
        have HCt := Lib.hid (And.intro hct hcu)
        clear hct hcu
        go_wp2_with fail
        refine HA.out.mono ?_; rintro e w2' ⟨A2, c2, rfl, hN2⟩
        have HN2 := Lib.hid hN2
        have HA3 := Lib.hid (HUa.out _ hN2.bel)
        clear hN2 HA HUa
        go_wp2_with fail
        refine HA3.out.mono ?_; rintro e w3' ⟨A3, c3, rfl, hN3⟩
        have HSm := Lib.hid (Same_keys K HN2.out hN3)
        have HB3 : Hid (Below wr.heap.size wr w3') := HN2.out.bel.trans (hN3.bel.mono HN2.out.bel.size)
        clear hN3 HN2 HA3
        go_wp2_with fail
        refine HSm.out.mono ?_; rintro e w4' ⟨rfl, m, rfl⟩
        have HB4 : Hid (Below wr.heap.size wr (w3'.drewN m)) := below_drewN HB3.out m
        have HNt4 := Lib.hid (HNt.out _ HB4.out)
        clear HSm HNt HB3
        go_wp2_with fail
        refine HNt4.out.mono ?_; rintro e w5 ⟨rfl, hb5⟩
        have HB5 := Lib.hid (HB4.out.trans (hb5.mono HB4.out.size))
        have HNu5 := Lib.hid (HNu.out _ HB5.out)
        clear HNt4 HNu HB4 hb5
        go_wp2_with fail
        refine HNu5.out.mono ?_; rintro e w6 ⟨rfl, hb6⟩
        have HB6 := Lib.hid (HB5.out.trans (hb6.mono HB5.out.size))
        clear HNu5 HB5 hb6
        have HJ6 := Lib.hid (HJ.out.go HB6.out)
        obtain ⟨F6, hT6, hS6⟩ := HJ6.out.two.left HJ6.out.bel.size
        have HC6 := Lib.hid (Check_any w6 hT6 HJ6.out.wt (by have := HCt.out.1; omega))
        have HS6 := Lib.hid hS6
        clear hT6 hS6
        go_wp2_with fail
        refine HC6.out.mono ?_; rintro e w7 ⟨rfl, hT7, hC7⟩
        obtain ⟨hTw7, hBl7⟩ := HS6.out t w7 ⟨F6, hT7, hC7, Fresh.refl _ _⟩
        have HB7 := Lib.hid (HJ6.out.bel.trans hBl7)
        obtain ⟨F7, hT8, hS8⟩ := hTw7.swap.left HB7.out.size
        have HC7 := Lib.hid (Check_any w7 hT8 HJ6.out.wu (by have := HCt.out.2; omega))
        have HS7 := Lib.hid hS8
        clear hT7 hC7 hTw7 hBl7 hT8 hS8 HC6 HS6
        go_wp2_with fail
        refine HC7.out.mono ?_; rintro e w8 ⟨rfl, hT9, hC9⟩
        obtain ⟨_, hBl8⟩ := HS7.out u w8 ⟨F7, hT9, hC9, Fresh.refl _ _⟩
        have HB8 := Lib.hid (HB7.out.trans hBl8)
        clear hT9 hC9 hBl8 HC7 HS7
        go_wp2_with fail
        refine (tri.lives_any _).mono ?_; rintro e w9 ⟨rfl, hb9⟩
        have HB9 := Lib.hid (HB8.out.trans (hb9.mono HB8.out.size))
        clear hb9
        go_wp2_with fail
        go_ret
        exact ⟨rfl, HB9.out⟩

set_option maxRecDepth 100000 in
theorem walk {H : Type} {enc : TypeId × Value → H} {W : World} {base : Nat} {v0 v1 : Value} {d0 d1 : DataW H} {p0 p1 : List MemPlace}
    (hv0 : Value.okWide Try.prog W .any base 36 v0) (h0 : DataW.Trod enc Try.prog W 0 (fun _ => true) true 36 v0 d0 p0)
    (hv1 : Value.okWide Try.prog W .any base 36 v1) (h1 : DataW.Trod enc Try.prog W 0 (fun _ => true) true 36 v1 d1 p1) :
    Calls Try.prog 4 #[v0, v1] W fun e w' => e = .returned (.bool true) ∧ Below W.heap.size W w' := by
  obtain ⟨A0, c0, l0, rfl, _, hc0, hm0, he0⟩ := open_sl Try.underlying36 (opens_sl keeps_pfx Try.underlying36 (by kernel_rfl) (by omega) opens_pfx) hv0 h0
  obtain ⟨A1, c1, l1, rfl, _, hc1, hm1, he1⟩ := open_sl Try.underlying36 (opens_sl keeps_pfx Try.underlying36 (by kernel_rfl) (by omega) opens_pfx) hv1 h1
  unfold maxLen at hm0 hm1
  exact core A0 A1 c0 c1 l0 l1 W (by omega) (by omega) he0 he1
end Go.Proofs.Ytbhhkjkjihenoaa.trieOrder
