/- What walk.merge and walk.Merge return. Condition: at most 10^8 prefixes. -/
import Derived.Test.YtpabblkppbfbjaaDoorWalkJoin
import Derived.ScopeJumps
namespace Go.Proofs.YtpabblkppbfbjaaDoor.wlk
open Go.RowKit Go.Proofs.YtpabblkppbfbjaaDoor.kit Go.Proofs.YtpabblkppbfbjaaDoor.pfx Go.Proofs.YtpabblkppbfbjaaDoor.mem Go.Proofs.YtpabblkppbfbjaaDoor.foot Go.Proofs.YtpabblkppbfbjaaDoor.tri Go.Proofs.YtpabblkppbfbjaaDoor.srt
set_option linter.unusedVariables false
set_option linter.unusedSimpArgs false

/-- one more behind what is there (the last first): put together as long as halves meet -/
def mergeR : List Key → Key → List Key
  | [], p => [p]
  | q :: r, p => if joinB q p = true then mergeR r (lcp q p) else p :: q :: r
def mergeF (out : List Key) (p : Key) : List Key := (mergeR out.reverse p).reverse
def mergeK (ks : List Key) : List Key := ks.foldl mergeF []
theorem mergeF_nil (p : Key) : mergeF [] p = [p] := rfl
theorem mergeF_snoc (out : List Key) (q p : Key) : mergeF (out ++ [q]) p = if joinB q p = true then mergeF out (lcp q p) else out ++ [q] ++ [p] := by
  unfold mergeF
  rw [List.reverse_append]
  simp only [List.reverse_singleton, List.singleton_append, mergeR]
  split
  · rfl
  · simp
theorem mergeR_len : ∀ (r : List Key) (p : Key), (mergeR r p).length ≤ r.length + 1
  | [], p => by simp [mergeR]
  | q :: r, p => by
    unfold mergeR
    split
    · have := mergeR_len r (lcp q p); simp only [List.length_cons]; omega
    · simp
theorem mergeR_32 : ∀ (r : List Key) (p : Key), (∀ k ∈ r, k.length ≤ 32) → p.length ≤ 32 → ∀ k ∈ mergeR r p, k.length ≤ 32
  | [], p, _, hp, k, hk => by simp [mergeR] at hk; subst hk; exact hp
  | q :: r, p, hr, hp, k, hk => by
    unfold mergeR at hk
    split at hk
    · exact mergeR_32 r (lcp q p) (fun k hk => hr k (by simp [hk])) (Nat.le_trans (lcp_right q p).length_le hp) k hk
    · rcases List.mem_cons.1 hk with rfl | hk
      · exact hp
      · exact hr k hk

/-- within the round: what is there, and the one that is put behind -/
structure MJ (w2 : World) (g5 m : Nat) (T o : List Key) (p : Key) (A : Option Addr) (c : Nat) (wo : World) : Prop where
  res : mergeF o p = T
  o32 : ∀ k ∈ o, k.length ≤ 32
  p32 : p.length ≤ 32
  len : o.length ≤ m
  acc : Acc w2 24 2 wo A o.length c (fv (o.map kp))
  box : Bk wo g5 24 #[.int .u32 (adr p : Int), .int .i64 (p.length : Int)]
  ap : ¬ sf A g5
  ge : w2.heap.size ≤ g5
theorem MJ.bel {w2 wo w' : World} {g5 m : Nat} {T o : List Key} {p : Key} {A : Option Addr} {c : Nat} (h : MJ w2 g5 m T o p A c wo) (hb : Below wo.heap.size wo w') : MJ w2 g5 m T o p A c w' :=
  ⟨h.res, h.o32, h.p32, h.len, h.acc.go hb, h.box.below hb h.box.lt, h.ap, h.ge⟩

theorem MJ.next {w2 wo : World} {g5 m t : Nat} {T o : List Key} {p q : Key} {A : Option Addr} {c : Nat} (h : MJ w2 g5 m T o p A c wo) (hsp : o = o.take t ++ [q]) (hq : q.length ≤ 32) (hj : joinB q p = true) :
    MJ w2 g5 m T (o.take t) (lcp q p) A c ((wo.setCell ⟨g5, 0, none⟩ (.int .u32 (adr (lcp q p) : Int))).setCell ⟨g5, 1, none⟩ (.int .i64 ((lcp q p).length : Int))).drew := by
  have hl : o.length = (o.take t).length + 1 := by
    have := congrArg List.length hsp
    simpa using this
  have ht : (o.take t).length = t := by rw [List.length_take] at hl ⊢; omega
  have c1 := stores_chg (g := g5) [.int .u32 (adr (lcp q p) : Int), .int .i64 ((lcp q p).length : Int)] 0 wo
  have b1 := stores_all [.int .u32 (adr (lcp q p) : Int), .int .i64 ((lcp q p).length : Int)] h.box rfl
  simp only [stores, Nat.zero_add] at c1 b1
  have hres : mergeF (o.take t) (lcp q p) = T := by
    have h2 := mergeF_snoc (o.take t) q p
    rw [← hsp, if_pos hj] at h2
    exact h2.symm.trans h.res
  have hown : Own wo 24 2 A (o.take t).length c (fv ((o.take t).map kp)) := by
    have h3 := h.acc.own.take (k := t) (by omega)
    rw [← fv_take, ← List.map_take] at h3
    rw [ht]
    exact h3
  refine ⟨hres, fun k hk => h.o32 k (List.mem_of_mem_take hk), Nat.le_trans (lcp_left q p).length_le hq, by have := h.len; omega, ⟨?_, ?_, h.acc.low⟩, bkd b1, h.ap, h.ge⟩
  · exact (hown.chg c1 fun k _ hk e => h.ap (by have e : k = g5 := e; rw [← e]; exact hk)).bel (Below.refl _ _).drew
  · exact (h.acc.bel.trans (c1.below (fun k e => by have e : k = g5 := e; rw [e]; exact h.ge) h.acc.bel.size)).drew

set_option maxRecDepth 100000 in
set_option maxHeartbeats 4000000 in
theorem merge_any {G : Foot} (A : Option Addr) (n c : Nat) (l : List Pf) (w : World) (hn : n ≤ 100000000) (hA : A = none → c = 0) (hl : l.length = n) (hw : ∀ x ∈ l, x.1 < 4294967296) (h : Rg w G 2 A n (fv l)) :
    Calls Tryd.prog 22 #[.slice A n c] w fun e w' => ∃ ks : List Key, IsSort gdP l (ks.map kp) ∧ (∀ k ∈ ks, k.length ≤ 32) ∧ RetK (mergeK (topsK ks)) w e w' := by
  have HT := Lib.hid (tops_any A n c l w hn hA hl hw h)
  have HLn : Hid (l.length ≤ 100000000) := by rw [Hid]; omega
  obtain ⟨i0, hi0, hz0, hz1, hz2⟩ := info_parts info_pf
  have Hi := Lib.hid hi0
  have Hz0 := Lib.hid hz0
  have Hz1 := Lib.hid hz1
  have Hz2 := Lib.hid hz2
  clear h hA hl hw hi0 hz0 hz1 hz2
  go_enter Tryd.func22, Tryd.ntmps22
  go_wp2_with fail
  refine HT.out.mono ?_; rintro e w2 ⟨ks, hs, hk32, A2, c2, rfl, ho2, hlo2, hb2⟩
  have hsl : ks.length ≤ 100000000 := by
    have h1 := strict_len _ l hs.strict fun x hx => ((hs.mem x).1 hx).1
    have h2 := HLn.out
    rw [List.length_map] at h1
    omega
  have htl : (topsK ks).length ≤ 100000000 := by
    have := topsF_len ks []
    unfold topsK
    simp at this
    omega
  have ht32 : ∀ k ∈ topsK ks, k.length ≤ 32 := fun k hk => hk32 k (topsK_sub _ _ hk)
  obtain ⟨ts, hts⟩ : ∃ ts, ts = topsK ks := ⟨_, rfl⟩
  rw [← hts] at ho2 htl ht32 ⊢
  have H2 := Lib.hid (And.intro hs (And.intro hk32 (And.intro hlo2 (And.intro hb2 hts))))
  have HO2 := Lib.hid ho2
  have HK32 := Lib.hid ht32
  clear hs hk32 hlo2 hb2 hts ho2 ht32 HT HLn hsl
  go_wp2_with fail
  go_loopw [3, 5, 6, 7, 8, 12] (fun v3 _ _ _ _ v12 wr => ∃ (i : Nat) (A' : Option Addr) (c' : Nat) (out : List Key), i ≤ ts.length ∧ v12 = .int .i64 i ∧ v3 = .slice A' out.length c' ∧ out = mergeK (ts.take i) ∧ (∀ k ∈ out, k.length ≤ 32) ∧ out.length ≤ i ∧ Acc w2 24 2 wr A' out.length c' (fv (out.map kp))) (fun _ _ _ _ _ v12 _ => ts.length - (intOf v12).toNat)
  case atStart => exact ⟨0, none, 0, [], Nat.zero_le _, rfl, rfl, rfl, (fun k hk => by cases hk), Nat.le_refl _, Own.none_ _ _ _, Below.refl _ _, fun x hx => absurd hx (sf_none x)⟩
  case round =>
    obtain ⟨i, A3, c3, out, hi, rfl, rfl, hout, ho32, hol, hacc⟩ := hrel
    have HAcc := Lib.hid hacc
    have HOut := Lib.hid (And.intro hout ho32)
    clear hacc hout ho32
    by_cases hlt : i < ts.length
    · obtain ⟨x, hx⟩ : ∃ x, ts[i]? = some x := ⟨ts[i], List.getElem?_eq_getElem hlt⟩
      obtain ⟨b, off, rfl⟩ : ∃ b off, A2 = some ⟨b, off, none⟩ := by
        obtain ⟨b, off, e, _⟩ := HO2.out.rg.2 (by omega)
        exact ⟨b, off, e⟩
      have hcell := own_cells (HO2.out.bel HAcc.out.bel) i (kp x) (by simp [hx])
      have k0 := hcell.1
      have k1 := hcell.2
      have hx32 := HK32.out x (List.mem_of_getElem? hx)
      have HX := Lib.hid (And.intro hx hx32)
      simp only [kp] at k0 k1
      clear hcell hx hx32
      go_wp2_with fail
      -- SCOPE
      obtain ⟨w0, hw0⟩ : ∃ w0, w0 = wr.alloc (.cells #[.int .u32 (adr x : Int), .int .i64 (x.length : Int)] 24) := ⟨_, rfl⟩
      rw [← hw0]
      have hJ0 : MJ w2 wr.heap.size out.length (mergeF out x) out x A3 c3 w0 := by
        have hb : Below wr.heap.size wr w0 := by rw [hw0]; exact (Below.refl _ _).alloc (Nat.le_refl _) _
        have hk : Bk w0 wr.heap.size 24 #[.int .u32 (adr x : Int), .int .i64 (x.length : Int)] := by rw [hw0]; exact Bk.new wr _ _
        exact ⟨rfl, HOut.out.2, HX.out.2, Nat.le_refl _, HAcc.out.go hb, hk, fun e => by have := HAcc.out.own.lt _ e; omega, HAcc.out.bel.size⟩
      have HJ0 := Lib.hid hJ0
      clear hJ0 hw0 k0 k1
      refine wp_scope_jumps 0 (fun a' wo => ∃ nn o p Ao co x6 x7 x8 x16 x17 x18 x19 x20 x21 x22 x23 x24 x25 x26 x27 x28 x29 x30 x31 x32 x33 x34 x35 x36 x37 x38, MJ w2 wr.heap.size out.length (mergeF out x) o p Ao co wo ∧ nn = o.length ∧ a' = { tmps := #[.slice A n c, undef, .slice none 0 0, .slice Ao nn co, undef, .pointer (some ⟨wr.heap.size, 0, none⟩), x6, x7, x8, .slice A n c, .slice (some ⟨b, off, none⟩) ts.length c2, .int .i64 (ts.length : Int), .int .i64 (i : Int), .bool true, .pointer (some ⟨b, off + i * 2, none⟩), .agg #[.int .u32 (adr x : Int), .int .i64 (x.length : Int)], x16, x17, x18, x19, x20, x21, x22, x23, x24, x25, x26, x27, x28, x29, x30, x31, x32, x33, x34, x35, x36, x37, x38, u39, undef], defers := [] }) (fun (a' : Act) (_ : World) => match a'.tmps[3]? with | some (Value.slice _ n _) => n | _ => 0) rfl ?first ?pass
      case' first =>
        go_wp2_with fail
        go_step3
        obtain ⟨m, hm⟩ : ∃ m, m = out.length := ⟨_, rfl⟩
        rw [← hm]
        have HM := Lib.hid hm
        have hmo : m ≤ out.length := by have := HJ0.out.len; omega
        clear hm
        rcases hl : out.getLast? with _ | q
        · have hoe : out = [] := List.getLast?_eq_none_iff.1 hl
          have HRes : Hid (mergeF out x = out ++ [x]) := by rw [Hid, ← HJ0.out.res, hoe]; rfl
          have hm0 : m = 0 := by rw [HM.out, hoe]; rfl
          subst hm0
          clear hl hoe
          have hkb := HJ0.out.box
          have ka := fun i => hkb.cell i
          have kl := hkb.lt
          have ha5 := HJ0.out.acc.go ((Below.refl _ _).alloc (Nat.le_refl _) (.cells #[.int .u32 (adr x : Int), .int .i64 (x.length : Int)] 24))
          rw [← HM.out] at ha5
          have HA5 := Lib.hid ha5
          have HG5 : Hid (Rg (w0.alloc (.cells #[.int .u32 (adr x : Int), .int .i64 (x.length : Int)] 24)) (fun k => k = w0.heap.size) 2 (some ⟨w0.heap.size, 0, none⟩) 1 (fv [kp x])) := Rg.new w0 24 2 1 #[.int .u32 (adr x : Int), .int .i64 (x.length : Int)] rfl
          clear ha5 hkb
          go_wp2_with (at_builtin; refine wpList_app _ rfl (.tmp 35) (.tmp 37) _ rfl 24 i0 _ 2 16 Tryd.underlying31 Hi.out Hz0.out Hz1.out Hz2.out rfl (by omega) _ _ c3 (fv (out.map kp)) rfl HA5.out.own _ (some ⟨w0.heap.size, 0, none⟩) 1 1 (by intro h; cases h) (fv [kp x]) rfl HG5.out (fv_one _) (by unfold maxLen; omega) (by omega) ?_; intro A4 c4 w6 ho6 hc6 hf6; have H6 := Lib.hid (HA5.out.app ho6 hc6 hf6); clear ho6 hc6 hf6)
          try simp only [Exit.jump]
          go_wp2_with fail
          go_roundw
          case rel =>
            have h6 := H6.out
            rw [← fv_app, show out.map kp ++ [kp x] = (mergeF out x).map kp from by rw [HRes.out]; simp] at h6
            have hlen : (mergeF out x).length = out.length + 1 := by rw [HRes.out]; simp
            rw [← HM.out] at hlen
            have htk : mergeK (ts.take (i + 1)) = mergeF out x := by
              rw [List.take_add_one, HX.out.1]
              simp only [Option.toList_some, mergeK, List.foldl_append, List.foldl_cons, List.foldl_nil]
              rw [HOut.out.1]
              rfl
            have h32 : ∀ k ∈ mergeF out x, k.length ≤ 32 := fun k hk => by
              unfold mergeF at hk
              exact mergeR_32 out.reverse x (fun y hy => HOut.out.2 y (List.mem_reverse.1 hy)) HX.out.2 k (List.mem_reverse.1 hk)
            have hle : (mergeF out x).length ≤ i + 1 := by
              unfold mergeF
              have := mergeR_len out.reverse x
              simp only [List.length_reverse] at this ⊢
              omega
            exact ⟨i + 1, A4, c4, mergeF out x, by omega, by go_num, by rw [hlen], htk.symm, h32, hle, by rw [hlen]; exact h6⟩
          case measure => simp [intOf]; omega
        · obtain ⟨t, ht⟩ : ∃ t, m = t + 1 := by
            rcases m with _ | t
            · have h0 : out = [] := List.length_eq_zero_iff.1 HM.out.symm
              rw [h0] at hl; cases hl
            · exact ⟨t, rfl⟩
          have hmt : (m : Int) - 1 = (t : Int) := by omega
          have hq : out[t]? = some q := by
            have h := hl
            rw [List.getLast?_eq_getElem?] at h
            have := HM.out
            rwa [show out.length - 1 = t from by omega] at h
          have hsp : out = out.take t ++ [q] := by
            have h := List.take_add_one (l := out) (i := t)
            rw [hq, List.take_of_length_le (by have := HM.out; omega)] at h
            exact h
          obtain ⟨b3, off3, hAo⟩ : ∃ b off, A3 = some ⟨b, off, none⟩ := by
            obtain ⟨b, off, e, _⟩ := HJ0.out.acc.own.rg.2 (by have := HM.out; omega)
            exact ⟨b, off, e⟩
          subst hAo
          have hq32 : q.length ≤ 32 := HJ0.out.o32 q (List.mem_of_getElem? hq)
          have HCj := Lib.hid (joined_key q x hq32 HJ0.out.p32)
          have hq1 := own_cells HJ0.out.acc.own t (kp q) (by simp [hq])
          have q0 := hq1.1
          have q1 := hq1.2
          have ql := own_lt HJ0.out.acc.own
          have hbx := HJ0.out.box
          have p0 := hbx.cell 0
          have p1 := hbx.cell 1
          have pl := hbx.lt
          simp only [kp] at q0 q1
          have HQ := Lib.hid (And.intro hsp hq32)
          have ht0 : (0 : Int) ≤ (t : Int) := by omega
          have ht1 : (t : Int) < (m : Int) := by omega
          have hk0 : decide ((0 : Int) ≤ (t : Int)) = true := decide_eq_true ht0
          have htm : t < m := by omega
          have hne3 : b3 ≠ w0.heap.size := by omega
          have hne5 : wr.heap.size ≠ w0.heap.size := by omega
          have hg5l : wr.heap.size < w0.heap.size := pl
          clear hq1 hq hbx hsp hq32 hl ht
          have p0 : w0.cell? ⟨wr.heap.size, 0, none⟩ = some (.int .u32 (adr x : Int)) := by simpa using p0
          have p1 : w0.cell? ⟨wr.heap.size, 1, none⟩ = some (.int .i64 (x.length : Int)) := by simpa using p1
          have HS0 : Hid (w0.cell? ⟨b3, off3 + t * 2, none⟩ = some (.int .u32 (adr q : Int)) ∧ w0.cell? ⟨b3, off3 + t * 2 + 1, none⟩ = some (.int .i64 (q.length : Int)) ∧ w0.cell? ⟨wr.heap.size, 0, none⟩ = some (.int .u32 (adr x : Int)) ∧ w0.cell? ⟨wr.heap.size, 1, none⟩ = some (.int .i64 (x.length : Int))) := ⟨q0, q1, p0, p1⟩
          by_cases hj : joinB q x = true
          · have HJb : Hid (joinB q x = true) := hj
            rw [hj] at HCj
            clear hj
            go_wp2_with fail
            go_region_held3 (fun w' => w'.cell? ⟨b3, off3 + t * 2, none⟩ = some (.int .u32 (adr q : Int)) ∧ w'.cell? ⟨b3, off3 + t * 2 + 1, none⟩ = some (.int .i64 (q.length : Int)) ∧ w'.cell? ⟨wr.heap.size, 0, none⟩ = some (.int .u32 (adr x : Int)) ∧ w'.cell? ⟨wr.heap.size, 1, none⟩ = some (.int .i64 (x.length : Int))) (exact ⟨by go_simp, by go_simp, by go_simp, by go_simp⟩) (first
              | (go_at_call 24; refine (HCj.out _).mono ?_; rintro e w7 ⟨rfl, hb7⟩; (first
                | (have hx : Below w0.heap.size w0 w7 := ((Below.refl w0.heap.size w0).drew).trans hb7)
                | (have hx : Below w0.heap.size w0 w7 := (((Below.refl w0.heap.size w0).drew).alloc (Nat.le_refl _) _).trans (hb7.mono (by simp)); have hz : Bk w7 w0.heap.size 24 #[.int .u32 0, .int .i64 0] := (Bk.new w0.drew _ _).below hb7 (by simp); have z0 := fun i => hz.cell i; have z1 := fun i => hz.free i; have z2 := hz.lt; have HZ := Lib.hid hz; clear hz)); have HB7 := Lib.hid hx; have r0 := (hx.cell (p := ⟨b3, off3 + t * 2, none⟩) ql).trans q0; have r1 := (hx.cell (p := ⟨b3, off3 + t * 2 + 1, none⟩) ql).trans q1; have r2 := (hx.cell (p := ⟨wr.heap.size, 0, none⟩) pl).trans p0; have r3 := (hx.cell (p := ⟨wr.heap.size, 1, none⟩) pl).trans p1; have rl := Nat.lt_of_lt_of_le ql hx.size; have rm := Nat.lt_of_lt_of_le pl hx.size; clear q0 q1 p0 p1 ql pl; have s7 := hx.size; clear hx hb7))
            all_goals
              first
                | (obtain ⟨w8, hw8⟩ : ∃ w8, w8 = w7.alloc (.cells #[.int .u32 (adr (lcp q x) : Int), .int .i64 ((lcp q x).length : Int)] 24) := ⟨_, rfl⟩; rw [← hw8]; have hB8 : Below w0.heap.size w0 w8 := by rw [hw8]; exact HB7.out.alloc HB7.out.size _
                   obtain ⟨gC, hgC⟩ : ∃ g, g = w7.heap.size := ⟨_, rfl⟩; rw [← hgC]; have hC8 : Bk w8 gC 24 #[.int .u32 (adr (lcp q x) : Int), .int .i64 ((lcp q x).length : Int)] := by rw [hw8, hgC]; exact Bk.new w7 _ _
                   have hgl : w0.heap.size ≤ gC := by omega)
                | (obtain ⟨w8, hw8⟩ : ∃ w8, w8 = (w7.setCell ⟨w0.heap.size, 0, none⟩ (.int .u32 (adr (lcp q x) : Int))).setCell ⟨w0.heap.size, 1, none⟩ (.int .i64 ((lcp q x).length : Int)) := ⟨_, rfl⟩; rw [← hw8]; have hB8 : Below w0.heap.size w0 w8 := by rw [hw8]; exact (HB7.out.setCell (p := ⟨w0.heap.size, 0, none⟩) (Nat.le_refl _) _).setCell (p := ⟨w0.heap.size, 1, none⟩) (Nat.le_refl _) _
                   obtain ⟨gC, hgC⟩ : ∃ g, g = w0.heap.size := ⟨_, rfl⟩; have hC8 : Bk w8 gC 24 #[.int .u32 (adr (lcp q x) : Int), .int .i64 ((lcp q x).length : Int)] := by
                     rw [hw8, hgC]
                     have h := stores_all [.int .u32 (adr (lcp q x) : Int), .int .i64 ((lcp q x).length : Int)] HZ.out rfl
                     simpa only [stores, Nat.zero_add] using h
                   rw [← hgC]; have hgl : w0.heap.size ≤ gC := by omega)
              have HJ8 := Lib.hid (HJ0.out.bel hB8)
              have HC8 := Lib.hid hC8
              try clear z0 z1 z2 HZ
              clear hw8 hgC hB8 hC8 r0 r1 r2 r3 rl rm s7
              have hc0 := fun i => HC8.out.cell i
              have hcl := HC8.out.lt
              have hbx := HJ8.out.box
              have d0 := fun i => hbx.cell i
              have dl := hbx.lt
              have df := fun i => hbx.free i
              have hcg : gC ≠ wr.heap.size := by omega
              have hcap : m ≤ c3 := by have := HJ8.out.acc.own.cap; have := HM.out; omega
              have hcap2 : (t : Int) ≤ (c3 : Int) := by omega
              clear hbx
              go_wp2_with fail
              go_region_held3 (fun w' => w'.cell? ⟨gC, 0, none⟩ = some (.int .u32 (adr (lcp q x) : Int)) ∧ w'.cell? ⟨gC, 1, none⟩ = some (.int .i64 ((lcp q x).length : Int))) (exact ⟨by go_simp, by go_simp⟩) (fail)
              go_wp2_with fail
              have hn := HJ8.out.next HQ.out.1 HQ.out.2 HJb.out
              have htl2 : t = (out.take t).length := by have := HM.out; rw [List.length_take]; omega
              refine wp_goto ?_
              exact ⟨rfl, t, _, _, _, _, _, _, _, _, _, _, _, _, _, _, _, _, _, _, _, _, _, _, _, _, _, _, _, _, _, _, hn, htl2, rfl⟩
          · have hj : joinB q x = false := by simpa using hj
            have HJb : Hid (joinB q x = false) := hj
            rw [hj] at HCj
            clear hj
            go_wp2_with fail
            go_region_held3 (fun w' => w'.cell? ⟨b3, off3 + t * 2, none⟩ = some (.int .u32 (adr q : Int)) ∧ w'.cell? ⟨b3, off3 + t * 2 + 1, none⟩ = some (.int .i64 (q.length : Int)) ∧ w'.cell? ⟨wr.heap.size, 0, none⟩ = some (.int .u32 (adr x : Int)) ∧ w'.cell? ⟨wr.heap.size, 1, none⟩ = some (.int .i64 (x.length : Int))) (exact ⟨by go_simp, by go_simp, by go_simp, by go_simp⟩) (first
              | (go_at_call 24; refine (HCj.out _).mono ?_; rintro e w7 ⟨rfl, hb7⟩; (first
                | (have hx : Below w0.heap.size w0 w7 := ((Below.refl w0.heap.size w0).drew).trans hb7)
                | (have hx : Below w0.heap.size w0 w7 := (((Below.refl w0.heap.size w0).drew).alloc (Nat.le_refl _) _).trans (hb7.mono (by simp)); have hz : Bk w7 w0.heap.size 24 #[.int .u32 0, .int .i64 0] := (Bk.new w0.drew _ _).below hb7 (by simp); have z0 := fun i => hz.cell i; have z1 := fun i => hz.free i; have z2 := hz.lt; have HZ := Lib.hid hz; clear hz)); have HB7 := Lib.hid hx; have r0 := (hx.cell (p := ⟨b3, off3 + t * 2, none⟩) ql).trans q0; have r1 := (hx.cell (p := ⟨b3, off3 + t * 2 + 1, none⟩) ql).trans q1; have r2 := (hx.cell (p := ⟨wr.heap.size, 0, none⟩) pl).trans p0; have r3 := (hx.cell (p := ⟨wr.heap.size, 1, none⟩) pl).trans p1; have rl := Nat.lt_of_lt_of_le ql hx.size; have rm := Nat.lt_of_lt_of_le pl hx.size; clear q0 q1 p0 p1 ql pl; have s7 := hx.size; clear hx hb7))
            all_goals
              first
                | (obtain ⟨w8, hw8⟩ : ∃ w8, w8 = w7.alloc (.cells #[.int .u32 (adr (lcp q x) : Int), .int .i64 ((lcp q x).length : Int)] 24) := ⟨_, rfl⟩; rw [← hw8]; have hB8 : Below w0.heap.size w0 w8 := by rw [hw8]; exact HB7.out.alloc HB7.out.size _
                   obtain ⟨gC, hgC⟩ : ∃ g, g = w7.heap.size := ⟨_, rfl⟩; rw [← hgC]; have hC8 : Bk w8 gC 24 #[.int .u32 (adr (lcp q x) : Int), .int .i64 ((lcp q x).length : Int)] := by rw [hw8, hgC]; exact Bk.new w7 _ _
                   have hgl : w0.heap.size ≤ gC := by omega)
                | (obtain ⟨w8, hw8⟩ : ∃ w8, w8 = (w7.setCell ⟨w0.heap.size, 0, none⟩ (.int .u32 (adr (lcp q x) : Int))).setCell ⟨w0.heap.size, 1, none⟩ (.int .i64 ((lcp q x).length : Int)) := ⟨_, rfl⟩; rw [← hw8]; have hB8 : Below w0.heap.size w0 w8 := by rw [hw8]; exact (HB7.out.setCell (p := ⟨w0.heap.size, 0, none⟩) (Nat.le_refl _) _).setCell (p := ⟨w0.heap.size, 1, none⟩) (Nat.le_refl _) _
                   obtain ⟨gC, hgC⟩ : ∃ g, g = w0.heap.size := ⟨_, rfl⟩; have hC8 : Bk w8 gC 24 #[.int .u32 (adr (lcp q x) : Int), .int .i64 ((lcp q x).length : Int)] := by
                     rw [hw8, hgC]
                     have h := stores_all [.int .u32 (adr (lcp q x) : Int), .int .i64 ((lcp q x).length : Int)] HZ.out rfl
                     simpa only [stores, Nat.zero_add] using h
                   rw [← hgC]; have hgl : w0.heap.size ≤ gC := by omega)
              have HJ8 := Lib.hid (HJ0.out.bel hB8)
              have HC8 := Lib.hid hC8
              try clear z0 z1 z2 HZ
              clear hw8 hgC hB8 hC8 r0 r1 r2 r3 rl rm s7
              have HRes : Hid (mergeF out x = out ++ [x]) := by
                rw [Hid, ← HJ0.out.res]
                have h := HQ.out.1
                have h2 := mergeF_snoc (out.take t) q x
                rw [← h, if_neg (by rw [HJb.out]; decide)] at h2
                exact h2
              have hkb := HJ8.out.box
              have ka := fun i => hkb.cell i
              have kl := hkb.lt
              have ha5 := HJ8.out.acc.go ((Below.refl _ _).alloc (Nat.le_refl _) (.cells #[.int .u32 (adr x : Int), .int .i64 (x.length : Int)] 24))
              rw [← HM.out] at ha5
              have HA5 := Lib.hid ha5
              have HG5 : Hid (Rg (w8.alloc (.cells #[.int .u32 (adr x : Int), .int .i64 (x.length : Int)] 24)) (fun k => k = w8.heap.size) 2 (some ⟨w8.heap.size, 0, none⟩) 1 (fv [kp x])) := Rg.new w8 24 2 1 #[.int .u32 (adr x : Int), .int .i64 (x.length : Int)] rfl
              clear ha5 hkb
              go_wp2_with (at_builtin; refine wpList_app _ rfl (.tmp 35) (.tmp 37) _ rfl 24 i0 _ 2 16 Tryd.underlying31 Hi.out Hz0.out Hz1.out Hz2.out rfl (by omega) _ _ c3 (fv (out.map kp)) rfl HA5.out.own _ (some ⟨w8.heap.size, 0, none⟩) 1 1 (by intro h; cases h) (fv [kp x]) rfl HG5.out (fv_one _) (by unfold maxLen; omega) (by omega) ?_; intro A4 c4 w6 ho6 hc6 hf6; have H6 := Lib.hid (HA5.out.app ho6 hc6 hf6); clear ho6 hc6 hf6)
              try simp only [Exit.jump]
              go_wp2_with fail
              go_roundw
              case rel =>
                have h6 := H6.out
                rw [← fv_app, show out.map kp ++ [kp x] = (mergeF out x).map kp from by rw [HRes.out]; simp] at h6
                have hlen : (mergeF out x).length = out.length + 1 := by rw [HRes.out]; simp
                rw [← HM.out] at hlen
                have htk : mergeK (ts.take (i + 1)) = mergeF out x := by
                  rw [List.take_add_one, HX.out.1]
                  simp only [Option.toList_some, mergeK, List.foldl_append, List.foldl_cons, List.foldl_nil]
                  rw [HOut.out.1]
                  rfl
                have h32 : ∀ k ∈ mergeF out x, k.length ≤ 32 := fun k hk => by
                  unfold mergeF at hk
                  exact mergeR_32 out.reverse x (fun y hy => HOut.out.2 y (List.mem_reverse.1 hy)) HX.out.2 k (List.mem_reverse.1 hk)
                have hle : (mergeF out x).length ≤ i + 1 := by
                  unfold mergeF
                  have := mergeR_len out.reverse x
                  simp only [List.length_reverse] at this ⊢
                  omega
                exact ⟨i + 1, A4, c4, mergeF out x, by omega, by go_num, by rw [hlen], htk.symm, h32, hle, by rw [hlen]; exact h6⟩
              case measure => simp [intOf]; omega

      case' pass =>
        rintro a' wo ⟨nn, o, p, Ao, co, x6, x7, x8, x16, x17, x18, x19, x20, x21, x22, x23, x24, x25, x26, x27, x28, x29, x30, x31, x32, x33, x34, x35, x36, x37, x38, hJ, hnn, rfl⟩
        subst hnn
        have HJ := Lib.hid hJ
        clear hJ HJ0
        obtain ⟨m, hm⟩ : ∃ m, m = o.length := ⟨_, rfl⟩
        rw [← hm]
        have HM := Lib.hid hm
        have hmo : m ≤ out.length := by have := HJ.out.len; omega
        clear hm
        rcases hl : o.getLast? with _ | q
        · have hoe : o = [] := List.getLast?_eq_none_iff.1 hl
          have HRes : Hid (mergeF out x = o ++ [p]) := by rw [Hid, ← HJ.out.res, hoe]; rfl
          have hm0 : m = 0 := by rw [HM.out, hoe]; rfl
          subst hm0
          clear hl hoe
          have hkb := HJ.out.box
          have ka := fun i => hkb.cell i
          have kl := hkb.lt
          have ha5 := HJ.out.acc.go ((Below.refl _ _).alloc (Nat.le_refl _) (.cells #[.int .u32 (adr p : Int), .int .i64 (p.length : Int)] 24))
          rw [← HM.out] at ha5
          have HA5 := Lib.hid ha5
          have HG5 : Hid (Rg (wo.alloc (.cells #[.int .u32 (adr p : Int), .int .i64 (p.length : Int)] 24)) (fun k => k = wo.heap.size) 2 (some ⟨wo.heap.size, 0, none⟩) 1 (fv [kp p])) := Rg.new wo 24 2 1 #[.int .u32 (adr p : Int), .int .i64 (p.length : Int)] rfl
          clear ha5 hkb
          go_wp2_with (at_builtin; refine wpList_app _ rfl (.tmp 35) (.tmp 37) _ rfl 24 i0 _ 2 16 Tryd.underlying31 Hi.out Hz0.out Hz1.out Hz2.out rfl (by omega) _ _ co (fv (o.map kp)) rfl HA5.out.own _ (some ⟨wo.heap.size, 0, none⟩) 1 1 (by intro h; cases h) (fv [kp p]) rfl HG5.out (fv_one _) (by unfold maxLen; omega) (by omega) ?_; intro A4 c4 w6 ho6 hc6 hf6; have H6 := Lib.hid (HA5.out.app ho6 hc6 hf6); clear ho6 hc6 hf6)
          try simp only [Exit.jump]
          go_wp2_with fail
          go_roundw
          case rel =>
            have h6 := H6.out
            rw [← fv_app, show o.map kp ++ [kp p] = (mergeF out x).map kp from by rw [HRes.out]; simp] at h6
            have hlen : (mergeF out x).length = o.length + 1 := by rw [HRes.out]; simp
            rw [← HM.out] at hlen
            have htk : mergeK (ts.take (i + 1)) = mergeF out x := by
              rw [List.take_add_one, HX.out.1]
              simp only [Option.toList_some, mergeK, List.foldl_append, List.foldl_cons, List.foldl_nil]
              rw [HOut.out.1]
              rfl
            have h32 : ∀ k ∈ mergeF out x, k.length ≤ 32 := fun k hk => by
              unfold mergeF at hk
              exact mergeR_32 out.reverse x (fun y hy => HOut.out.2 y (List.mem_reverse.1 hy)) HX.out.2 k (List.mem_reverse.1 hk)
            have hle : (mergeF out x).length ≤ i + 1 := by
              unfold mergeF
              have := mergeR_len out.reverse x
              simp only [List.length_reverse] at this ⊢
              omega
            exact ⟨i + 1, A4, c4, mergeF out x, by omega, by go_num, by rw [hlen], htk.symm, h32, hle, by rw [hlen]; exact h6⟩
          case measure => simp [intOf]; omega
        · obtain ⟨t, ht⟩ : ∃ t, m = t + 1 := by
            rcases m with _ | t
            · have h0 : o = [] := List.length_eq_zero_iff.1 HM.out.symm
              rw [h0] at hl; cases hl
            · exact ⟨t, rfl⟩
          have hmt : (m : Int) - 1 = (t : Int) := by omega
          have hq : o[t]? = some q := by
            have h := hl
            rw [List.getLast?_eq_getElem?] at h
            have := HM.out
            rwa [show o.length - 1 = t from by omega] at h
          have hsp : o = o.take t ++ [q] := by
            have h := List.take_add_one (l := o) (i := t)
            rw [hq, List.take_of_length_le (by have := HM.out; omega)] at h
            exact h
          obtain ⟨b3, off3, hAo⟩ : ∃ b off, Ao = some ⟨b, off, none⟩ := by
            obtain ⟨b, off, e, _⟩ := HJ.out.acc.own.rg.2 (by have := HM.out; omega)
            exact ⟨b, off, e⟩
          subst hAo
          have hq32 : q.length ≤ 32 := HJ.out.o32 q (List.mem_of_getElem? hq)
          have HCj := Lib.hid (joined_key q p hq32 HJ.out.p32)
          have hq1 := own_cells HJ.out.acc.own t (kp q) (by simp [hq])
          have q0 := hq1.1
          have q1 := hq1.2
          have ql := own_lt HJ.out.acc.own
          have hbx := HJ.out.box
          have p0 := hbx.cell 0
          have p1 := hbx.cell 1
          have pl := hbx.lt
          simp only [kp] at q0 q1
          have HQ := Lib.hid (And.intro hsp hq32)
          have ht0 : (0 : Int) ≤ (t : Int) := by omega
          have ht1 : (t : Int) < (m : Int) := by omega
          have hk0 : decide ((0 : Int) ≤ (t : Int)) = true := decide_eq_true ht0
          have htm : t < m := by omega
          have hne3 : b3 ≠ wo.heap.size := by omega
          have hne5 : wr.heap.size ≠ wo.heap.size := by omega
          have hg5l : wr.heap.size < wo.heap.size := pl
          clear hq1 hq hbx hsp hq32 hl ht
          have p0 : wo.cell? ⟨wr.heap.size, 0, none⟩ = some (.int .u32 (adr p : Int)) := by simpa using p0
          have p1 : wo.cell? ⟨wr.heap.size, 1, none⟩ = some (.int .i64 (p.length : Int)) := by simpa using p1
          have HS0 : Hid (wo.cell? ⟨b3, off3 + t * 2, none⟩ = some (.int .u32 (adr q : Int)) ∧ wo.cell? ⟨b3, off3 + t * 2 + 1, none⟩ = some (.int .i64 (q.length : Int)) ∧ wo.cell? ⟨wr.heap.size, 0, none⟩ = some (.int .u32 (adr p : Int)) ∧ wo.cell? ⟨wr.heap.size, 1, none⟩ = some (.int .i64 (p.length : Int))) := ⟨q0, q1, p0, p1⟩
          by_cases hj : joinB q p = true
          · have HJb : Hid (joinB q p = true) := hj
            rw [hj] at HCj
            clear hj
            go_wp2_with fail
            go_region_held3 (fun w' => w'.cell? ⟨b3, off3 + t * 2, none⟩ = some (.int .u32 (adr q : Int)) ∧ w'.cell? ⟨b3, off3 + t * 2 + 1, none⟩ = some (.int .i64 (q.length : Int)) ∧ w'.cell? ⟨wr.heap.size, 0, none⟩ = some (.int .u32 (adr p : Int)) ∧ w'.cell? ⟨wr.heap.size, 1, none⟩ = some (.int .i64 (p.length : Int))) (exact ⟨by go_simp, by go_simp, by go_simp, by go_simp⟩) (first
              | (go_at_call 24; refine (HCj.out _).mono ?_; rintro e w7 ⟨rfl, hb7⟩; (first
                | (have hx : Below wo.heap.size wo w7 := ((Below.refl wo.heap.size wo).drew).trans hb7)
                | (have hx : Below wo.heap.size wo w7 := (((Below.refl wo.heap.size wo).drew).alloc (Nat.le_refl _) _).trans (hb7.mono (by simp)); have hz : Bk w7 wo.heap.size 24 #[.int .u32 0, .int .i64 0] := (Bk.new wo.drew _ _).below hb7 (by simp); have z0 := fun i => hz.cell i; have z1 := fun i => hz.free i; have z2 := hz.lt; have HZ := Lib.hid hz; clear hz)); have HB7 := Lib.hid hx; have r0 := (hx.cell (p := ⟨b3, off3 + t * 2, none⟩) ql).trans q0; have r1 := (hx.cell (p := ⟨b3, off3 + t * 2 + 1, none⟩) ql).trans q1; have r2 := (hx.cell (p := ⟨wr.heap.size, 0, none⟩) pl).trans p0; have r3 := (hx.cell (p := ⟨wr.heap.size, 1, none⟩) pl).trans p1; have rl := Nat.lt_of_lt_of_le ql hx.size; have rm := Nat.lt_of_lt_of_le pl hx.size; clear q0 q1 p0 p1 ql pl; have s7 := hx.size; clear hx hb7))
            all_goals
              first
                | (obtain ⟨w8, hw8⟩ : ∃ w8, w8 = w7.alloc (.cells #[.int .u32 (adr (lcp q p) : Int), .int .i64 ((lcp q p).length : Int)] 24) := ⟨_, rfl⟩; rw [← hw8]; have hB8 : Below wo.heap.size wo w8 := by rw [hw8]; exact HB7.out.alloc HB7.out.size _
                   obtain ⟨gC, hgC⟩ : ∃ g, g = w7.heap.size := ⟨_, rfl⟩; rw [← hgC]; have hC8 : Bk w8 gC 24 #[.int .u32 (adr (lcp q p) : Int), .int .i64 ((lcp q p).length : Int)] := by rw [hw8, hgC]; exact Bk.new w7 _ _
                   have hgl : wo.heap.size ≤ gC := by omega)
                | (obtain ⟨w8, hw8⟩ : ∃ w8, w8 = (w7.setCell ⟨wo.heap.size, 0, none⟩ (.int .u32 (adr (lcp q p) : Int))).setCell ⟨wo.heap.size, 1, none⟩ (.int .i64 ((lcp q p).length : Int)) := ⟨_, rfl⟩; rw [← hw8]; have hB8 : Below wo.heap.size wo w8 := by rw [hw8]; exact (HB7.out.setCell (p := ⟨wo.heap.size, 0, none⟩) (Nat.le_refl _) _).setCell (p := ⟨wo.heap.size, 1, none⟩) (Nat.le_refl _) _
                   obtain ⟨gC, hgC⟩ : ∃ g, g = wo.heap.size := ⟨_, rfl⟩; have hC8 : Bk w8 gC 24 #[.int .u32 (adr (lcp q p) : Int), .int .i64 ((lcp q p).length : Int)] := by
                     rw [hw8, hgC]
                     have h := stores_all [.int .u32 (adr (lcp q p) : Int), .int .i64 ((lcp q p).length : Int)] HZ.out rfl
                     simpa only [stores, Nat.zero_add] using h
                   rw [← hgC]; have hgl : wo.heap.size ≤ gC := by omega)
              have HJ8 := Lib.hid (HJ.out.bel hB8)
              have HC8 := Lib.hid hC8
              try clear z0 z1 z2 HZ
              clear hw8 hgC hB8 hC8 r0 r1 r2 r3 rl rm s7
              have hc0 := fun i => HC8.out.cell i
              have hcl := HC8.out.lt
              have hbx := HJ8.out.box
              have d0 := fun i => hbx.cell i
              have dl := hbx.lt
              have df := fun i => hbx.free i
              have hcg : gC ≠ wr.heap.size := by omega
              have hcap : m ≤ co := by have := HJ8.out.acc.own.cap; have := HM.out; omega
              have hcap2 : (t : Int) ≤ (co : Int) := by omega
              clear hbx
              go_wp2_with fail
              go_region_held3 (fun w' => w'.cell? ⟨gC, 0, none⟩ = some (.int .u32 (adr (lcp q p) : Int)) ∧ w'.cell? ⟨gC, 1, none⟩ = some (.int .i64 ((lcp q p).length : Int))) (exact ⟨by go_simp, by go_simp⟩) (fail)
              go_wp2_with fail
              have hn := HJ8.out.next HQ.out.1 HQ.out.2 HJb.out
              have htl2 : t = (o.take t).length := by have := HM.out; rw [List.length_take]; omega
              refine wp_goto ?_
              exact ⟨rfl, ⟨t, _, _, _, _, _, _, _, _, _, _, _, _, _, _, _, _, _, _, _, _, _, _, _, _, _, _, _, _, _, _, hn, htl2, rfl⟩, by first | exact htm | (show t < m; exact htm) | (simp; omega)⟩
          · have hj : joinB q p = false := by simpa using hj
            have HJb : Hid (joinB q p = false) := hj
            rw [hj] at HCj
            clear hj
            go_wp2_with fail
            go_region_held3 (fun w' => w'.cell? ⟨b3, off3 + t * 2, none⟩ = some (.int .u32 (adr q : Int)) ∧ w'.cell? ⟨b3, off3 + t * 2 + 1, none⟩ = some (.int .i64 (q.length : Int)) ∧ w'.cell? ⟨wr.heap.size, 0, none⟩ = some (.int .u32 (adr p : Int)) ∧ w'.cell? ⟨wr.heap.size, 1, none⟩ = some (.int .i64 (p.length : Int))) (exact ⟨by go_simp, by go_simp, by go_simp, by go_simp⟩) (first
              | (go_at_call 24; refine (HCj.out _).mono ?_; rintro e w7 ⟨rfl, hb7⟩; (first
                | (have hx : Below wo.heap.size wo w7 := ((Below.refl wo.heap.size wo).drew).trans hb7)
                | (have hx : Below wo.heap.size wo w7 := (((Below.refl wo.heap.size wo).drew).alloc (Nat.le_refl _) _).trans (hb7.mono (by simp)); have hz : Bk w7 wo.heap.size 24 #[.int .u32 0, .int .i64 0] := (Bk.new wo.drew _ _).below hb7 (by simp); have z0 := fun i => hz.cell i; have z1 := fun i => hz.free i; have z2 := hz.lt; have HZ := Lib.hid hz; clear hz)); have HB7 := Lib.hid hx; have r0 := (hx.cell (p := ⟨b3, off3 + t * 2, none⟩) ql).trans q0; have r1 := (hx.cell (p := ⟨b3, off3 + t * 2 + 1, none⟩) ql).trans q1; have r2 := (hx.cell (p := ⟨wr.heap.size, 0, none⟩) pl).trans p0; have r3 := (hx.cell (p := ⟨wr.heap.size, 1, none⟩) pl).trans p1; have rl := Nat.lt_of_lt_of_le ql hx.size; have rm := Nat.lt_of_lt_of_le pl hx.size; clear q0 q1 p0 p1 ql pl; have s7 := hx.size; clear hx hb7))
            all_goals
              first
                | (obtain ⟨w8, hw8⟩ : ∃ w8, w8 = w7.alloc (.cells #[.int .u32 (adr (lcp q p) : Int), .int .i64 ((lcp q p).length : Int)] 24) := ⟨_, rfl⟩; rw [← hw8]; have hB8 : Below wo.heap.size wo w8 := by rw [hw8]; exact HB7.out.alloc HB7.out.size _
                   obtain ⟨gC, hgC⟩ : ∃ g, g = w7.heap.size := ⟨_, rfl⟩; rw [← hgC]; have hC8 : Bk w8 gC 24 #[.int .u32 (adr (lcp q p) : Int), .int .i64 ((lcp q p).length : Int)] := by rw [hw8, hgC]; exact Bk.new w7 _ _
                   have hgl : wo.heap.size ≤ gC := by omega)
                | (obtain ⟨w8, hw8⟩ : ∃ w8, w8 = (w7.setCell ⟨wo.heap.size, 0, none⟩ (.int .u32 (adr (lcp q p) : Int))).setCell ⟨wo.heap.size, 1, none⟩ (.int .i64 ((lcp q p).length : Int)) := ⟨_, rfl⟩; rw [← hw8]; have hB8 : Below wo.heap.size wo w8 := by rw [hw8]; exact (HB7.out.setCell (p := ⟨wo.heap.size, 0, none⟩) (Nat.le_refl _) _).setCell (p := ⟨wo.heap.size, 1, none⟩) (Nat.le_refl _) _
                   obtain ⟨gC, hgC⟩ : ∃ g, g = wo.heap.size := ⟨_, rfl⟩; have hC8 : Bk w8 gC 24 #[.int .u32 (adr (lcp q p) : Int), .int .i64 ((lcp q p).length : Int)] := by
                     rw [hw8, hgC]
                     have h := stores_all [.int .u32 (adr (lcp q p) : Int), .int .i64 ((lcp q p).length : Int)] HZ.out rfl
                     simpa only [stores, Nat.zero_add] using h
                   rw [← hgC]; have hgl : wo.heap.size ≤ gC := by omega)
              have HJ8 := Lib.hid (HJ.out.bel hB8)
              have HC8 := Lib.hid hC8
              try clear z0 z1 z2 HZ
              clear hw8 hgC hB8 hC8 r0 r1 r2 r3 rl rm s7
              have HRes : Hid (mergeF out x = o ++ [p]) := by
                rw [Hid, ← HJ.out.res]
                have h := HQ.out.1
                have h2 := mergeF_snoc (o.take t) q p
                rw [← h, if_neg (by rw [HJb.out]; decide)] at h2
                exact h2
              have hkb := HJ8.out.box
              have ka := fun i => hkb.cell i
              have kl := hkb.lt
              have ha5 := HJ8.out.acc.go ((Below.refl _ _).alloc (Nat.le_refl _) (.cells #[.int .u32 (adr p : Int), .int .i64 (p.length : Int)] 24))
              rw [← HM.out] at ha5
              have HA5 := Lib.hid ha5
              have HG5 : Hid (Rg (w8.alloc (.cells #[.int .u32 (adr p : Int), .int .i64 (p.length : Int)] 24)) (fun k => k = w8.heap.size) 2 (some ⟨w8.heap.size, 0, none⟩) 1 (fv [kp p])) := Rg.new w8 24 2 1 #[.int .u32 (adr p : Int), .int .i64 (p.length : Int)] rfl
              clear ha5 hkb
              go_wp2_with (at_builtin; refine wpList_app _ rfl (.tmp 35) (.tmp 37) _ rfl 24 i0 _ 2 16 Tryd.underlying31 Hi.out Hz0.out Hz1.out Hz2.out rfl (by omega) _ _ co (fv (o.map kp)) rfl HA5.out.own _ (some ⟨w8.heap.size, 0, none⟩) 1 1 (by intro h; cases h) (fv [kp p]) rfl HG5.out (fv_one _) (by unfold maxLen; omega) (by omega) ?_; intro A4 c4 w6 ho6 hc6 hf6; have H6 := Lib.hid (HA5.out.app ho6 hc6 hf6); clear ho6 hc6 hf6)
              try simp only [Exit.jump]
              go_wp2_with fail
              go_roundw
              case rel =>
                have h6 := H6.out
                rw [← fv_app, show o.map kp ++ [kp p] = (mergeF out x).map kp from by rw [HRes.out]; simp] at h6
                have hlen : (mergeF out x).length = o.length + 1 := by rw [HRes.out]; simp
                rw [← HM.out] at hlen
                have htk : mergeK (ts.take (i + 1)) = mergeF out x := by
                  rw [List.take_add_one, HX.out.1]
                  simp only [Option.toList_some, mergeK, List.foldl_append, List.foldl_cons, List.foldl_nil]
                  rw [HOut.out.1]
                  rfl
                have h32 : ∀ k ∈ mergeF out x, k.length ≤ 32 := fun k hk => by
                  unfold mergeF at hk
                  exact mergeR_32 out.reverse x (fun y hy => HOut.out.2 y (List.mem_reverse.1 hy)) HX.out.2 k (List.mem_reverse.1 hk)
                have hle : (mergeF out x).length ≤ i + 1 := by
                  unfold mergeF
                  have := mergeR_len out.reverse x
                  simp only [List.length_reverse] at this ⊢
                  omega
                exact ⟨i + 1, A4, c4, mergeF out x, by omega, by go_num, by rw [hlen], htk.symm, h32, hle, by rw [hlen]; exact h6⟩
              case measure => simp [intOf]; omega

    · obtain rfl : i = ts.length := by omega
      go_wp2_with fail
      go_ret
      obtain ⟨hs, hk32, hlo2, hb2, hts⟩ := H2.out
      have e := HOut.out.1
      rw [List.take_length] at e
      subst e
      subst hts
      exact ⟨ks, hs, hk32, A3, c3, rfl, HAcc.out.own, fun x hx => Nat.le_trans hb2.size (HAcc.out.low x hx), hb2.trans (HAcc.out.bel.mono hb2.size)⟩
end Go.Proofs.YtpabblkppbfbjaaDoor.wlk
