/- maps.Keys over a map with keys of 32 bits, slices.AppendSeq, Collect, Sorted of them: the keys, rising. Condition: at most 10^4 keys. -/
import Derived.RangeFuncNested
import Derived.RangeFuncBound
import Derived.RangeFuncCalls
import Derived.RangeFuncLeaves
import Derived.RangeFuncFrom
import Derived.Shelf.Abstract
import Derived.Shelf.RegionOpen
import Derived.OwnWalkIn
import Derived.TacticsInMore
import Derived.LoopNIn
import Derived.LoopIn
import Derived.Test.YtafepficapdepaaTally
import Derived.Test.YtafepficapdepaaMapRangeIn
import Derived.Test.YtafepficapdepaaSuSort
import Derived.Test.YtafepficapdepaaStay
namespace Go.Proofs.Ytafepficapdepaa.tally
open Go.RowKit Go.Shelf Go.Proofs Go.Proofs.Ytafepficapdepaa.flt Go.Proofs.Ytafepficapdepaa.kit Go.Proofs.Ytafepficapdepaa.mem Go.Proofs.Ytafepficapdepaa.foot Go.Proofs.Ytafepficapdepaa.maps Go.Proofs.Ytafepficapdepaa.nums
set_option linter.unusedVariables false
set_option linter.unusedSimpArgs false
attribute [local go_sem] Oper.semAt_some
abbrev CV := List (Int × (Nat × Nat))
set_option maxRecDepth 100000 in
set_option maxHeartbeats 1000000 in
theorem keysU_stops {b n : Nat} {es : CV} (m Bm : Nat) (w : World) (hBm : Bm < w.heap.size) (hm : w.cell? ⟨Bm, 0, none⟩ = some (.map (some b))) (h : Mp cE Try.prog 22 .u32 w b n es) :
    SeqStopsK Fence.wide (m + 1) Try.prog 141 #[.pointer (some ⟨Bm, 0, none⟩)] (fun x : Int => #[Value.int .u32 x]) KeepsWalks (fun ks => ks.Perm (es.map (·.1))) (fun _ => True) es.length w := fun l J Jx W hW hJ hJx hY h0 => by
  have hmp : Mp cE Try.prog 22 .u32 W b n es := h.bel hW
  have hmc : W.cell? ⟨Bm, 0, none⟩ = some (.map (some b)) := (hW.cell (p := ⟨Bm, 0, none⟩) hBm).trans hm
  refine callsIn_of_wp Try.func141 rfl trivial ?_ rfl
  simp only [Try.ntmps141, List.size_toArray, List.length_cons, List.length_nil, Nat.reduceAdd, Nat.reduceSub, Array.replicate_succ, Array.replicate_zero, List.push_toArray, List.append_toArray, List.nil_append, List.cons_append]
  gi_wp2_with (first
    | (gi_at_range; refine wpListIn_range_mp (E := cE) rfl _ 109 rfl 112 Try.underlying22 Try.underlying109 rfl hmp ?_; intro w0 hrg0 hg0)
    | gi_in)
  try go_frame
  gi_loopw [3] (fun _ wr => ∃ (dn rm : CV), es.Perm (dn ++ rm) ∧ MpR cE Try.prog 22 .u32 wr b W.heap.size n es dn rm ∧ J (dn.map (·.1)) wr) (fun _ wr => wr.rangeLeft b W.heap.size)
  case atStart => exact ⟨[], es, by simp, hrg0, hJ [] W w0 none h0 hg0 (fun r e => by cases e)⟩
  case round =>
    obtain ⟨dn, rm, hp, hrg, hJs⟩ := hrel
    gi_wp2_with (first
      | (gi_at_next; refine wpListIn_next_mp (E := cE) rfl _ rfl Try.underlying22 rfl hrg ?_ ?_)
      | gi_in)
    · intro hr0
      subst hr0
      gi_wp2
      go_end0
      exact ⟨⟨_, rfl⟩, .inl ⟨dn.map (·.1), by rw [List.append_nil] at hp; exact (hp.map _).symm, hJs⟩⟩
    · intro k0 x0 y0 r1 r2 w2 hr hm2 hlf hgr hen
      subst hr
      have hp2 : es.Perm ((dn ++ [(k0, (x0, y0))]) ++ (r1 ++ r2)) := by
        refine hp.trans ?_
        rw [List.append_assoc]
        refine List.Perm.append_left _ ?_
        rw [List.singleton_append]
        exact List.perm_middle
      have hlen : (dn.map (·.1)).length < es.length := by have := hp.length_eq; rw [List.length_append] at this; simp at this ⊢; omega
      have hJ2 : J (dn.map (·.1)) w2 := hJ _ wr w2 (some W.heap.size) hJs hgr (fun r e => by cases e; exact ⟨Nat.le_refl _, hrg.iter⟩)
      obtain ⟨fn, tmps, assign, body, hy, hR⟩ := hY (dn.map (·.1)) k0 w2 hJ2 hlen
      replace hen : (Instr.entry (.pointer (some ⟨W.heap.size, 0, none⟩))).run Try.prog w2 = .ok (.tuple #[.int .u32 k0, cE.mkv (x0, y0)]) w2 := hen
      have HHp := Lib.hid hp2
      clear hp hp2 hlen hJ2 hgr hJs
      gi_wp2
      refine hR.mono ?_
      rintro e W3 (⟨rfl, hJ3, hk3⟩ | ⟨rfl, hJx3⟩)
      · gi_wp2
        have hrg3 := hm2.of_walks hk3
        go_roundw
        case rel => exact ⟨dn ++ [(k0, (x0, y0))], r1 ++ r2, HHp.out, hrg3, by rw [List.map_append]; exact hJ3⟩
        case measure => rw [hm2.left_walks hk3]; exact hlf
      · gi_wp2
        refine bodyPost_ret (results_none rfl _ _ _) rfl ?_
        exact ⟨⟨_, rfl⟩, .inr ⟨_, trivial, hJx3⟩⟩
theorem enters_keysU : ∀ args w, (callFunc 141 args).run Try.prog w = .ok (.enter 141 args) w := enters_of Try.func141 (by kernel_rfl) rfl
theorem mapsKeysU_any (mb : Option Nat) (w : World) : Calls Try.prog 96 #[.map mb] w fun e w' => e = .returned (.func (.func 141) #[] #[.pointer (some ⟨w.heap.size, 0, none⟩)]) ∧ w' = w.alloc (.cells #[.map mb] 109) := by
  have hmf : ∀ (fn : Fn) (first cap : Array Value) (w : World), (Instr.makeFunc fn first cap).run Try.prog w = .ok (.func fn first cap) w := fun _ _ _ _ => rfl
  go_enter Try.func96, Try.ntmps96
  go_wp2_with fail
  go_ret
  exact ⟨rfl, rfl⟩
/-- integers as numbers of 32 bits -/
abbrev ku (l : List Int) : List Value := l.map (Value.int .u32)
/-- between two rounds of AppendSeq -/
structure KI (w : World) (pre : List Int) (W : World) : Prop where
  mem : ∃ A c, Bk W w.heap.size 67 #[.slice A pre.length c] ∧ (∀ k, sf A k → w.heap.size < k) ∧ foot.Own W 22 1 A pre.length c (ku pre)
  bel : Below w.heap.size w W
theorem KI.own {w : World} {B : Nat} (hB : w.heap.size ≤ B) : OwnFrom B (KI w) := fun s W W' row hs hg hr => by
  have hst := stay_row hg fun r e => (hr r e).2
  obtain ⟨⟨A, c, h1, h2, h3⟩, h4⟩ := hs
  exact ⟨⟨A, c, hst.block _ _ _ _ h1, h2, foot.Own.stay h3 hst⟩, h4.trans (below_grown hg h4.size fun g e => Nat.le_trans hB (hr g e).1)⟩
/-- numbers gathered, in new memory -/
def RetK (l : List Int) (w : World) (e : Ending) (w' : World) : Prop := ∃ A c, e = .returned (.slice A l.length c) ∧ foot.Own w' 22 1 A l.length c (ku l) ∧ (∀ k, sf A k → w.heap.size ≤ k) ∧ Below w.heap.size w w'
theorem ku_one (l : List Int) : ∀ u ∈ ku l, u.oneCell' = true := by
  intro u hu
  simp only [ku, List.mem_map] at hu
  obtain ⟨z, _, rfl⟩ := hu
  rfl
theorem wpListIn_app {F : Fence} {n : Nat} {P : Program} {ops : Array Oper} {rest : List Oper} {o : Oper} {a : Act} {w : World} {Q : Exit → Act → World → Prop} (hgd : o.guard = none) (s x : Operand) (t : TypeId)
    (ho : o.op = .call { callee := .builtin .append, args := #[s, x], argTypes := #[t, t] })
    (e : TypeId) (i : TypeInfo) (z : Value) (size bytes : Nat) (ht : P.underlying t = some (.slice e)) (hi : P.info? e = some i) (hz : i.zero = some z)
    (hsize : i.size = size) (hby : i.bytes = bytes) (hzs : z.cells.size = size) (hsz : 0 < size)
    (A : Option Addr) (k c : Nat) (xs : List Value) (hs : a.eval s = .slice A k c) (hown : foot.Own w e size A k c xs)
    (G : Foot) (A2 : Option Addr) (m c2 : Nat) (hA2 : A2 = none → c2 = 0) (news : List Value) (hx : a.eval x = .slice A2 m c2) (hr : Rg w G size A2 m news) (h1 : ∀ u ∈ news, u.oneCell' = true)
    (h63 : k + m ≤ maxLen) (hbytes : (k + m) * bytes ≤ 140737488355328)
    (h : ∀ A' c' w', foot.Own w' e size A' (k + m) c' (xs ++ news) → Chg (sf A) w w' → Fresh w (sf A) (sf A') → wpListIn F n P ops Q rest (a.put o.dst (.slice A' (k + m) c')) w') : wpListIn F n P ops Q (o :: rest) a w := by
  refine wpListIn_plain hgd fun K hK' => ?_
  obtain ⟨A', c', w', hrun, h2, h3, h4⟩ := run_app (P := P) w t o.type e i z size bytes ht hi hz hsize hby hzs hsz A k c xs hown G A2 m c2 hA2 news hr h1 h63 hbytes
  unfold Oper.wpIn
  refine ⟨by simp [Oper.about, ho, resolve, Target.leads, Sem.run_pure], ?_⟩
  rw [Oper.semAt_plain F _ _ (by rw [ho]; intro c hc'; cases hc')]
  simp only [ho, execOp, resolve, invoke, builtin, Sem.run_bind, Sem.run_pure, Result.andThen_ok, List.map_toArray, List.map_cons, List.map_nil, hs, hx, hrun]
  exact hK' _ _ (h A' c' w' h2 h3 h4)
set_option maxRecDepth 100000 in
set_option maxHeartbeats 2000000 in
theorem appendSeqU_any {b n : Nat} {es : CV} (Bm : Nat) (w : World) (hl : es.length ≤ 10000) (hBm : Bm < w.heap.size) (hm : w.cell? ⟨Bm, 0, none⟩ = some (.map (some b))) (h : Mp cE Try.prog 22 .u32 w b n es) :
    Calls Try.prog 164 #[.slice none 0 0, .func (.func 141) #[] #[.pointer (some ⟨Bm, 0, none⟩)]] w fun e w' => ∃ ks : List Int, ks.Perm (es.map (·.1)) ∧ RetK ks w e w' := by
  refine (callsIn_wide (n := 4)).1 ?_
  obtain ⟨i0, hi, hz0, hz1, hz2⟩ := info_parts info_u32
  have h1 : 1 ≤ 4 := by omega
  have hseq := keysU_stops 2 Bm w hBm hm h
  have hI0 : KI w [] (w.alloc (.cells #[.slice none 0 0] 67)) := ⟨⟨none, 0, Bk.new _ _ _, (fun k hk => absurd hk (sf_none k)), foot.Own.none_ _ _ _⟩, (Below.refl _ _).alloc (Nat.le_refl _) _⟩
  have hz3 : (w.alloc (.cells #[.slice none 0 0] 67)).heap.size = w.heap.size + 1 := by simp
  have hb0 : Below w.heap.size w (w.alloc (.cells #[.slice none 0 0] 67)) := (Below.refl _ _).alloc (Nat.le_refl _) _
  have Hi := Lib.hid hi
  have Hz0 := Lib.hid hz0
  have Hz1 := Lib.hid hz1
  have Hz2 := Lib.hid hz2
  clear hi hz0 hz1 hz2
  refine callsIn_of_wp_marks Try.func164 rfl trivial ?_ rfl
  simp only [Try.ntmps164, List.size_toArray, List.length_cons, List.length_nil, Nat.reduceAdd, Nat.reduceSub, Array.replicate_succ, Array.replicate_zero, List.push_toArray, List.append_toArray, List.nil_append, List.cons_append]
  gi_wp2
  refine wpIn_rangeFunc_ownF (F := Fence.wide) (n := 4) rfl h1 (gf := 141) (lb := #[.pointer (some ⟨Bm, 0, none⟩)]) rfl trivial enters_keysU hseq walksK_t walksK_b hb0 (fun _ => rfl)
    (KI w) (fun _ _ _ => False) (KI.own (by omega)) (fun _ _ _ _ _ hs _ _ => hs) hI0
    (fun x => { tmps := #[.slice none 0 0, .func (.func 141) #[] #[.pointer (some ⟨Bm, 0, none⟩)], .pointer (some ⟨w.heap.size, 0, none⟩), undef, .slice none 0 0, .int .u32 x, .func (.func 141) #[] #[.pointer (some ⟨Bm, 0, none⟩)], .int .u32 x, undef, undef, undef, undef, undef], defers := [] }) ?assign ?body ?done ?stop
  case assign =>
    intro l' x W K hK
    gi_wp2
    exact hK
  case body =>
    rintro l' pre x W ⟨⟨A, c, hbk, hne, hown⟩, hbel⟩ hlt
    have hcell := hbk.cell 0
    have hfr := hbk.free 0
    simp at hcell
    have hgW : w.heap.size < W.heap.size := hbk.lt
    have ho1 : foot.Own (W.alloc (.cells #[.int .u32 x] 22)) 22 1 A pre.length c (ku pre) := hown.bel ((Below.refl _ _).alloc (Nat.le_refl _) _)
    have HO := Lib.hid ho1
    have HB1 : Hid (pre.length + 1 ≤ maxLen) := by show _ ≤ _; unfold maxLen; omega
    have HB2 : Hid ((pre.length + 1) * 4 ≤ 140737488355328) := by show _ ≤ _; omega
    have HFin : Hid (∀ (A' : Option Addr) (c' : Nat) (w' : World), foot.Own w' 22 1 A' (pre.length + 1) c' (ku pre ++ [.int .u32 x]) → Chg (sf A) (W.alloc (.cells #[.int .u32 x] 22)) w' → Fresh (W.alloc (.cells #[.int .u32 x] 22)) (sf A) (sf A') →
        (w'.cell? ⟨w.heap.size, 0, none⟩ = some (.slice A pre.length c) ∧ w'.frozen? ⟨w.heap.size, 0, none⟩ = false) ∧ KeepsOthers W (w'.setCell ⟨w.heap.size, 0, none⟩ (.slice A' (pre.length + 1) c')) ∧ KeepsWalks W (w'.setCell ⟨w.heap.size, 0, none⟩ (.slice A' (pre.length + 1) c')) ∧ KI w (pre ++ [x]) (w'.setCell ⟨w.heap.size, 0, none⟩ (.slice A' (pre.length + 1) c'))) := fun A' c' w' h1 h2 h3 => by
      have hba : Below W.heap.size W (W.alloc (.cells #[.int .u32 x] 22)) := (Below.refl _ _).alloc (Nat.le_refl _) _
      have hbk1 := (hbk.below hba hbk.lt).chg h2 (fun hs => by have := hne _ hs; omega)
      have hx : Chg (fun j => j = w.heap.size) w' (w'.setCell ⟨w.heap.size, 0, none⟩ (.slice A' (pre.length + 1) c')) := (Chg.refl (fun j => j = w.heap.size) w').put (p := ⟨w.heap.size, 0, none⟩) (.inl rfl) _
      have hA' : ∀ k, sf A' k → w.heap.size < k := fun k hk => by
        rcases h3 k hk with e | e
        · exact hne k e
        · have := hba.size; omega
      have hko : KeepsOthers W (w'.setCell ⟨w.heap.size, 0, none⟩ (.slice A' (pre.length + 1) c')) := by
        refine ⟨Nat.le_trans (Nat.le_trans hba.size h2.size) hx.size, fun k o hk ho' => ?_⟩
        have hkW := (Array.getElem?_eq_some_iff.1 hk).1
        have n1 : ¬ sf A k := fun hs => by
          rcases hown.2 with ⟨rfl, _⟩ | ⟨g, off, cur, rfl, hb, _⟩
          · exact sf_none k hs
          · rw [sf_some] at hs
            subst hs
            unfold Bk at hb
            rw [hb] at hk
            cases hk
            cases ho'
        have n2 : k ≠ w.heap.size := by
          rintro rfl
          unfold Bk at hbk
          rw [hbk] at hk
          cases hk
          cases ho'
        rw [hx.block k (Nat.lt_of_lt_of_le (Nat.lt_of_lt_of_le hkW hba.size) h2.size) n2, h2.block k (Nat.lt_of_lt_of_le hkW hba.size) n1, hba.block k hkW]
        exact hk
      refine ⟨⟨by have := hbk1.cell 0; simpa using this, hbk1.free 0⟩, hko, ⟨hko.size, fun k o hk ho' => hko.same k o hk (Obj.not_cells_of_walk ho')⟩, ⟨A', c', ?_, hA', ?_⟩, ?_⟩
      · have h4 := hbk1.put 0 (.slice A' (pre.length + 1) c')
        rw [List.length_append, List.length_singleton]
        simpa using h4
      · have h5 := h1.chg hx (fun k _ hk e => by have := hA' k hk; omega)
        rw [List.length_append, List.length_singleton]
        simpa [ku] using h5
      · exact hbel.trans (((hba.mono hbel.size).trans (h2.below (fun k hk => by have := hne k hk; omega) (Nat.le_trans hbel.size hba.size))).trans (hx.below (fun k e => by rw [e]; exact Nat.le_refl _) (Nat.le_trans hbel.size (Nat.le_trans hba.size h2.size))))
    clear ho1 hown hbk hne hbel
    gi_wp2_with (gi_at_builtin; refine wpListIn_app rfl (.tmp 8) (.tmp 10) 67 rfl 22 i0 _ 1 4 Try.underlying67 Hi.out Hz0.out Hz1.out Hz2.out rfl (by omega) A pre.length c _ rfl HO.out _ (some ⟨W.heap.size, 0, none⟩) 1 1 (by intro h; cases h) [.int .u32 x] rfl (Rg.new W 22 1 1 _ rfl) (by simp [Value.oneCell']) HB1.out HB2.out ?_; intro A' c' w' ho hch hf; obtain ⟨⟨hcell3, hfr3⟩, HE1⟩ := HFin.out A' c' w' ho hch hf; have HE := Lib.hid HE1; clear ho hch hf HE1)
    exact HE.out
  case done =>
    rintro D ys W hD hperm ⟨⟨A, c, hbk, hne, hown⟩, hbel⟩ hK
    have hcell := hbk.cell 0
    simp at hcell
    have HO := Lib.hid (And.intro hown (And.intro hne hbel))
    have HK := Lib.hid hK
    have HP := Lib.hid hperm
    clear hown hne hbel hperm hK
    gi_wp2
    refine ⟨by simp, .inl ⟨_, _, rfl, run_takeDeferred HK.out, ?_⟩⟩
    refine ⟨_, results_tmp rfl _ _ _, ys, HP.out, A, c, rfl, ?_⟩
    have hst : Stay W (W.putObj D (.deferred none)) := stay_row (grownBy_putObj' W D _) (fun r e => by cases e; exact ⟨_, HK.out, rfl⟩)
    obtain ⟨h1, h2, h3⟩ := HO.out
    exact ⟨foot.Own.stay h1 hst, fun k hk => Nat.le_of_lt (h2 k hk), h3.trans (below_grown (grownBy_putObj' W D _) h3.size (fun g e => by cases e; omega))⟩
  case stop =>
    rintro D c pre W _ _ h _
    exact h.elim
set_option maxHeartbeats 1000000 in
theorem collectU_any {b n : Nat} {es : CV} (Bm : Nat) (w : World) (hl : es.length ≤ 10000) (hBm : Bm < w.heap.size) (hm : w.cell? ⟨Bm, 0, none⟩ = some (.map (some b))) (h : Mp cE Try.prog 22 .u32 w b n es) :
    Calls Try.prog 139 #[.func (.func 141) #[] #[.pointer (some ⟨Bm, 0, none⟩)]] w fun e w' => ∃ ks : List Int, ks.Perm (es.map (·.1)) ∧ RetK ks w e w' := by
  have HA := Lib.hid (appendSeqU_any Bm w hl hBm hm h)
  clear hl hBm hm h
  go_enter Try.func139, Try.ntmps139
  go_wp2_with (go_at_call 164; refine HA.out.mono ?_; rintro e w' ⟨ks, hp, A, c, rfl, ho⟩; have HE := Lib.hid (And.intro hp ho); clear hp ho)
  go_ret
  exact ⟨ks, HE.out.1, A, c, rfl, HE.out.2⟩
set_option maxHeartbeats 1000000 in
theorem sortedU_any {b n : Nat} {es : CV} (Bm : Nat) (w : World) (hl : es.length ≤ 10000) (hBm : Bm < w.heap.size) (hm : w.cell? ⟨Bm, 0, none⟩ = some (.map (some b))) (h : Mp cE Try.prog 22 .u32 w b n es) (hw : ∀ p ∈ es, 0 ≤ p.1) :
    Calls Try.prog 95 #[.func (.func 141) #[] #[.pointer (some ⟨Bm, 0, none⟩)]] w fun e w' => ∃ L : List Nat, (L.map fun n : Nat => (n : Int)).Perm (es.map (·.1)) ∧ L.Pairwise (· ≤ ·) ∧ RetNums L w e w' := by
  have HC := Lib.hid (collectU_any Bm w hl hBm hm h)
  have HSort : Hid (∀ (A : Option Addr) (c : Nat) (ks : List Int) (w1 : World), ks.Perm (es.map (·.1)) → foot.Own w1 22 1 A ks.length c (ku ks) → Calls Try.prog 140 #[.slice A ks.length c] w1 fun e w' => e = .returned (.tuple #[]) ∧ ∃ L : List Nat, L.length = ks.length ∧ (L.map fun n : Nat => (n : Int)).Perm (es.map (·.1)) ∧ L.Pairwise (· ≤ ·) ∧ foot.Own w' 22 1 A ks.length c (uv L) ∧ Chg (sf A) w1 w') := fun A c ks w1 hp ho => by
    have hk : ks = (ks.map Int.toNat).map fun n : Nat => (n : Int) := by
      rw [List.map_map]
      conv => lhs; rw [← List.map_id ks]
      refine List.map_congr_left fun x hx => ?_
      have := hp.subset hx
      obtain ⟨p, hp1, rfl⟩ := List.mem_map.1 this
      have := hw p hp1
      simp; omega
    have hu : ku ks = uv (ks.map Int.toNat) := by
      conv => lhs; rw [hk]
      simp [ku, uv]
    have hlen : ks.length ≤ 10000 := by rw [hp.length_eq, List.length_map]; exact hl
    refine (Sort_any A ks.length c (ks.map Int.toNat) w1 (by simp) (by omega) (by rw [← hu]; exact ho)).mono ?_
    rintro e w' ⟨rfl, s, hs, hle, ho2, hch⟩
    refine ⟨rfl, s, by rw [hs.length_eq, List.length_map], ?_, hle, ho2, hch⟩
    have := hs.map (fun n : Nat => (n : Int))
    rw [← hk] at this
    exact this.trans hp
  clear hl hBm hm h hw
  go_enter Try.func95, Try.ntmps95
  go_wp2_with (go_at_call 139; refine HC.out.mono ?_; rintro e w1 ⟨ks, hp, A, c, rfl, ho, hlo, hb⟩; have HP := Lib.hid hp; have HO := Lib.hid (And.intro ho (And.intro hlo hb)); clear hp ho hlo hb)
  go_wp2_with (go_at_call 140; refine (HSort.out A c ks _ HP.out HO.out.1).mono ?_; rintro e w2 ⟨rfl, L, hlen, hpm, hle, ho2, hch⟩; have HE := Lib.hid (And.intro hlen (And.intro hpm (And.intro hle (And.intro ho2 hch)))); clear hlen hpm hle ho2 hch)
  go_ret
  obtain ⟨h1, h2, h3, h4, h5⟩ := HE.out
  rw [← h1] at h4 ⊢
  exact ⟨L, h2, h3, A, c, rfl, h4, HO.out.2.1, HO.out.2.2.trans (h5.below HO.out.2.1 HO.out.2.2.size)⟩
end Go.Proofs.Ytafepficapdepaa.tally
