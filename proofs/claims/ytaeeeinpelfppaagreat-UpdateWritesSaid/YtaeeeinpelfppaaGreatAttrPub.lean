/- What attr.Decode returns. Condition: at most 50000 bytes. attr's told functions Good, Norm, Same, Flags, Hop, Well. Condition: at most 10^5 pieces and numbers together. -/
import Derived.Test.YtaeeeinpelfppaaGreatAttrDec
import Derived.Great.Walk
namespace Go.Proofs.YtaeeeinpelfppaaGreat.attr
open Go.RowKit Go.Proofs.YtaeeeinpelfppaaGreat.kit Go.Proofs.YtaeeeinpelfppaaGreat.mem Go.Proofs.YtaeeeinpelfppaaGreat.foot Go.Proofs.YtaeeeinpelfppaaGreat.nums Go.Proofs.YtaeeeinpelfppaaGreat.asn Go.Proofs.YtaeeeinpelfppaaGreat.pth Go.Proofs.YtaeeeinpelfppaaGreat.octet
set_option linter.unusedVariables false
set_option linter.unusedSimpArgs false
theorem nums4_le (v : List UInt8) : (nums4 v).length ≤ v.length := by
  have key : ∀ n (v : List UInt8), v.length ≤ n → (nums4 v).length ≤ v.length := by
    intro n
    induction n with
    | zero => intro v hv; obtain rfl : v = [] := List.eq_nil_of_length_eq_zero (by omega); simp [nums4]
    | succ n ih =>
      intro v hv
      unfold nums4
      split
      · rename_i a b c d t
        have := ih t (by simp at hv; omega)
        simp
        omega
      · simp
  exact key _ v (Nat.le_refl _)
theorem layS_sz (a : Atr) (k : Nat) (v : List UInt8) (hv : v.length ≤ 50000) (hp : nsz a.path ≤ 100000) (hc : a.comms.length ≤ 50000) : nsz (layS a k v).1.path ≤ 100000 ∧ (layS a k v).1.comms.length ≤ 50000 := by
  unfold layS
  split
  · exact ⟨hp, hc⟩
  · refine ⟨?_, hc⟩
    have h1 := nsz_norm ((pcs v).getD [])
    have h2 : nsz ((pcs v).getD []) ≤ v.length := by
      rcases h : pcs v with _ | ps
      · exact Nat.zero_le _
      · exact pcs_nsz h
    show nsz (normS ((pcs v).getD [])) ≤ 100000
    omega
  · exact ⟨hp, hc⟩
  · exact ⟨hp, hc⟩
  · exact ⟨hp, hc⟩
  · exact ⟨hp, hc⟩
  · refine ⟨hp, ?_⟩
    have := nums4_le v
    show (nums4 v).length ≤ 50000
    omega
  · exact ⟨hp, hc⟩
theorem wrongS_sz (a : Atr) (f k : Nat) (v : List UInt8) (hv : v.length ≤ 50000) (hp : nsz a.path ≤ 100000) (hc : a.comms.length ≤ 50000) : nsz (wrongS a f k v).1.path ≤ 100000 ∧ (wrongS a f k v).1.comms.length ≤ 50000 := by
  have hl := layS_sz a k v hv hp hc
  unfold wrongS
  repeat' split
  all_goals first | exact ⟨hp, hc⟩ | exact hl
theorem wrongS_comms (a : Atr) (f k : Nat) (v : List UInt8) (hk : k ≠ 8) : (wrongS a f k v).1.comms = a.comms := by
  have hl : (layS a k v).1.comms = a.comms := by
    unfold layS
    split <;> first | rfl | exact absurd rfl hk
  unfold wrongS
  repeat' split
  all_goals first | rfl | exact hl
theorem wrongS_ne1 (a : Atr) (f k : Nat) (v : List UInt8) : (wrongS a f k v).2 ≠ 1 := by
  have hs : sub2 v ≠ 1 := by unfold sub2; split <;> decide
  have hl : (layS a k v).2 ≠ 1 := by
    unfold layS
    split <;> first | exact hs | (dsimp only; split <;> decide) | (dsimp only; decide)
  unfold wrongS
  repeat' split
  all_goals first | exact hl | (dsimp only; decide)
def seenZ : Array Value := Array.replicate 256 (.bool false)
theorem info_seen : (Tryz.prog.info? 88).map (·.zero) = some (some (.agg seenZ)) := by kernel_rfl
theorem run_seen (w : World) : (Instr.alloc 88 true (.tuple #[])).run Tryz.prog w = .ok (.pointer (some ⟨w.heap.size, 0, none⟩)) (w.alloc (.cells seenZ 88)) := by
  have h := info_seen
  generalize seenZ = z at *
  cases hi : Tryz.prog.info? 88 with
  | none => rw [hi] at h; cases h
  | some i =>
    rw [hi] at h
    have hz : i.zero = some (.agg z) := by simpa using h
    simp [Instr.alloc, zeroValue, typeInfo, hi, hz, newVar, newRow, run_newObj_alloc, Value.cells]
/-- what is read handed back: the attributes, or the notice -/
def RetDec (d : Dec) (w : World) (e : Ending) (w' : World) : Prop :=
  match d with
  | .ok a => ∃ Ap cp Ac cc, e = .returned (.tuple #[.agg (atc a Ap cp Ac cc).toArray, .agg #[.int .i64 0, .int .i64 0, .slice none 0 0]]) ∧ Am w' (fun k => w.heap.size ≤ k) a Ap cp Ac cc ∧ Below w.heap.size w w'
  | .err s d => ∃ A c, e = .returned (.tuple #[.agg zeroC.toArray, .agg #[.int .i64 3, .int .i64 (s : Int), .slice A d.length c]]) ∧ Bn w' (fun k => w.heap.size ≤ k) A c d ∧ Below w.heap.size w w'
theorem Bn.nil_ (w : World) (G : Foot) : Bn w G none 0 [] := ⟨fun _ => rfl, Nat.le_refl _, Nat.zero_le _, Rg.nil _ _ _ _⟩
/-- the start of the loop -/
theorem DQ.start {w w1 w2 : World} {r : Nat} {l : List UInt8} (hw1 : w1 = ((w.alloc (.cells zeroC.toArray 29)).alloc (.cells #[.int .i64 0, .int .i64 0, .slice none 0 0] 33)).alloc (.cells zeroC.toArray 29)) (hb : Below w1.heap.size w1 w2) (hr : w1.heap.size ≤ r) (hrd : Rdr w2 r l false) :
    DQ w r w2.heap.size l [] [] zeroA (w2.alloc (.cells seenZ 88)) := by
  have e1 : (w.alloc (.cells zeroC.toArray 29)).heap.size = w.heap.size + 1 := by simp
  have e2 : ((w.alloc (.cells zeroC.toArray 29)).alloc (.cells #[.int .i64 0, .int .i64 0, .slice none 0 0] 33)).heap.size = w.heap.size + 2 := by simp
  have hs1 : w1.heap.size = w.heap.size + 3 := by rw [hw1]; simp
  have k1 := Bk.new w 29 zeroC.toArray
  have k2 := Bk.new (w.alloc (.cells zeroC.toArray 29)) 33 #[.int .i64 0, .int .i64 0, .slice none 0 0]
  have k3 := Bk.new ((w.alloc (.cells zeroC.toArray 29)).alloc (.cells #[.int .i64 0, .int .i64 0, .slice none 0 0] 33)) 29 zeroC.toArray
  rw [e1] at k2
  rw [e2] at k3
  have k1 := (k1.alloc (.cells #[.int .i64 0, .int .i64 0, .slice none 0 0] 33)).alloc (.cells zeroC.toArray 29)
  have k2 := k2.alloc (.cells zeroC.toArray 29)
  have hb1 : Below w.heap.size w w1 := by
    rw [hw1]
    exact (((Below.refl _ _).alloc (Nat.le_refl _) _).alloc (by simp) _).alloc (by simp; omega) _
  rw [← hw1] at k1 k2 k3
  have hb2 : Below w1.heap.size w1 (w2.alloc (.cells seenZ 88)) := hb.alloc hb.size _
  have hb3 : Below w2.heap.size w2 (w2.alloc (.cells seenZ 88)) := (Below.refl _ _).alloc (Nat.le_refl _) _
  refine ⟨k1.below hb2 k1.lt, k2.below hb2 k2.lt, ⟨none, 0, none, 0, k3.below hb2 k3.lt, Am.zero _ _, fun _ => ⟨rfl, rfl, rfl⟩⟩, hrd.below hb3 hrd.lt, ⟨seenZ, Bk.new w2 _ _, by unfold seenZ; simp, fun k hk => by unfold seenZ; simp [hk]⟩, hb1.trans (hb2.mono hb1.size), BitsOk.zero, by omega, hrd.lt⟩
set_option maxRecDepth 100000 in
set_option maxHeartbeats 8000000 in
theorem Decode_any (A : Option Addr) (c : Nat) (l : List UInt8) (w : World) (hl : l.length ≤ 50000) (hA : A = none → c = 0) (hs : Bs w w.heap.size A l) :
    Calls Tryz.prog 24 #[.slice A l.length c] w (RetDec (decS l) w) := by
  have HSz : Hid ((Tryz.prog.info? 29).map (·.size) = some 9) := info_atr
  have HSn : Hid ((Tryz.prog.info? 33).map (·.size) = some 3) := info_ntc
  have HSo : Hid ((Tryz.prog.info? 90).map (·.size) = some 4) := info_one
  obtain ⟨w1, hw1⟩ : ∃ w1, w1 = ((w.alloc (.cells zeroC.toArray 29)).alloc (.cells #[.int .i64 0, .int .i64 0, .slice none 0 0] 33)).alloc (.cells zeroC.toArray 29) := ⟨_, rfl⟩
  have hb1 : Below w.heap.size w w1 := by
    rw [hw1]
    exact (((Below.refl _ _).alloc (Nat.le_refl _) _).alloc (by simp) _).alloc (by simp; omega) _
  have HNw := Lib.hid (New_any A c w.heap.size l w1 (by omega) hA hb1.size (hs.below hb1 (Nat.le_refl _)))
  have HSt : Hid (∀ (r : Nat) (w2 : World), Below w1.heap.size w1 w2 → w1.heap.size ≤ r → Rdr w2 r l false → DQ w r w2.heap.size l [] [] zeroA (w2.alloc (.cells seenZ 88))) := fun r w2 h1 h2 h3 => DQ.start hw1 h1 h2 h3
  obtain ⟨D, hD⟩ : ∃ D, D = decS l := ⟨_, rfl⟩
  have HD0 : Hid (decQ l [] zeroA = D) := hD.symm
  rw [← hD]
  obtain ⟨Q, hQ⟩ : ∃ Q, Q = RetDec D w := ⟨_, rfl⟩
  have HQe : Hid (∀ (s : Nat) (d : List UInt8) (A : Option Addr) (c : Nat) (w' : World), D = .err s d → Bn w' (fun k => w.heap.size ≤ k) A c d → Below w.heap.size w w' → Q (.returned (.tuple #[.agg zeroC.toArray, .agg #[.int .i64 3, .int .i64 (s : Int), .slice A d.length c]])) w') := fun s d A c w' h1 h2 h3 => by
    rw [hQ, h1]
    exact ⟨A, c, rfl, h2, h3⟩
  have HQo : Hid (∀ (a : Atr) (Ap : Option Addr) (cp : Nat) (Ac : Option Addr) (cc : Nat) (w' : World), D = .ok a → Am w' (fun k => w.heap.size ≤ k) a Ap cp Ac cc → Below w.heap.size w w' → Q (.returned (.tuple #[.agg (atc a Ap cp Ac cc).toArray, .agg #[.int .i64 0, .int .i64 0, .slice none 0 0]])) w') := fun a Ap cp Ac cc w' h1 h2 h3 => by
    rw [hQ, h1]
    exact ⟨Ap, cp, Ac, cc, rfl, h2, h3⟩
  rw [← hQ]
  have HNt1 : Hid (∀ w', Calls Tryz.prog 56 #[.int .i64 1, .slice none 0 0] w' fun e w2 => e = .returned (.agg #[.int .i64 3, .int .i64 1, .slice none 0 0]) ∧ Below w'.heap.size w' w2) := fun w' => notice_any 1 none 0 0 w'
  have HRs := Lib.hid run_seen
  have hw0 := hw1
  simp only [zeroC] at hw0
  clear hD hQ hw1 hA hs hb1
  go_enter Tryz.func24, Tryz.ntmps24
  go_upto_region 2 with fail
  rw [show (_ : World) = w1 from hw0.symm]
  clear hw0
  go_upto_region 3 with (go_at_call 18; refine HNw.out.mono ?_; rintro e w2 ⟨⟨r, rfl, h1, h2⟩, h3⟩; have HQ2 := Lib.hid (HSt.out r w2 h3 h1 h2); clear h1 h2 h3)
  go_wp2_with (refine Great.wpList_allocTo rfl _ rfl _ _ (HRs.out _) ?_)
  go_loopw [] (fun wr => ∃ (q : List UInt8) (seen : List Nat) (a : Atr), decQ q seen a = D ∧ q.length ≤ l.length ∧ DQ w r w2.heap.size q seen seen a wr ∧ nsz a.path ≤ 100000 ∧ a.comms.length ≤ 50000) (fun wr => lenAt wr r)
  case atStart => exact ⟨l, [], zeroA, HD0.out, Nat.le_refl _, HQ2.out, Nat.zero_le _, Nat.zero_le _⟩
  case round =>
    obtain ⟨q, seen, a, hd, hql, hdq, hps, hcs⟩ := hrel
    have HD := Lib.hid hd
    have HQ0 := Lib.hid hdq
    have HLfx := Lib.hid (Left_any r q false wr hdq.rd)
    have HLn := Lib.hid (rdr_len hdq.rd)
    rcases Nat.eq_zero_or_pos q.length with h0 | hpos
    · have hq0 : q = [] := List.eq_nil_of_length_eq_zero h0
      subst hq0
      have HLfx : Hid (Calls Tryz.prog 25 #[.pointer (some ⟨r, 0, none⟩)] wr fun e w' => e = .returned (.int .i64 0) ∧ wr = w') := HLfx.out
      have HDo : Hid (D = .ok (normA a)) := by rw [Hid, ← hd, decQ_nil]
      obtain ⟨Ap, cp, Ac, cc, hk1, hk2, _⟩ := hdq.at_
      have HK := Lib.hid hk1
      have HM := Lib.hid hk2
      have HNm := Lib.hid (norm_any a Ap Ac cp cc _ wr hk2 hps (by omega))
      clear hd hdq hk1 hk2 h0
      go_wp2_with (first
        | (go_at_call 25; refine HLfx.out.mono ?_; rintro e w' ⟨rfl, rfl⟩)
        | (refine wpList_loadBk rfl 29 (.tmp 4) rfl (w.heap.size + 2) (by rfl) 29 (atc a Ap cp Ac cc).toArray _ HK.out Tryz.underlying29 (by rfl) HSz.out ?_)
        | (go_at_call 58; refine HNm.out.mono ?_; rintro e w3 ⟨Bp, dp, Bc, dc, rfl, h1, h2⟩; have HM3 := Lib.hid h1; have HB3 := Lib.hid h2; have HZ2 := Lib.hid (HQ0.out.z2.below h2 HQ0.out.z2.lt); have HZ3 := Lib.hid (HQ0.out.z3.below h2 HQ0.out.z3.lt); clear h1 h2)
        | (refine wpList_storeBk rfl 29 (.tmp 2) (.tmp 44) rfl w.heap.size (by rfl) (atc (normA a) Bp dp Bc dc).toArray (by rfl) 29 zeroC.toArray HZ2.out HSz.out rfl (by rfl) ?_; intro w5 h5 h6 h7; have H5 := Lib.hid h5; have H6 := Lib.hid h6; have HZ5 := Lib.hid (HZ3.out.chg h6 (by omega)); clear h5 h6 h7)
        | (refine wpList_storeBk rfl 33 (.tmp 3) (.tmp 45) rfl (w.heap.size + 1) (by rfl) #[.int .i64 0, .int .i64 0, .slice none 0 0] (by rfl) 33 #[.int .i64 0, .int .i64 0, .slice none 0 0] HZ5.out HSn.out rfl (by rfl) ?_; intro w6 h5 h6 h7; have H7 := Lib.hid h5; have H8 := Lib.hid h6; have H9 := Lib.hid (H5.out.chg h6 (by omega)); clear h5 h6 h7))
      have hb3 := HQ0.out.bel.trans (HB3.out.mono HQ0.out.bel.size)
      have hz := HZ2.out.lt
      have hz3 := HZ3.out.lt
      have hlt := HQ0.out.z3.lt
      refine bodyPost_ret (res_cc rfl _ _ w.heap.size (w.heap.size + 1) 29 33 (atc (normA a) Bp dp Bc dc).toArray #[.int .i64 0, .int .i64 0, .slice none 0 0] (0, 0) (0, 0) _ _ rfl H9.out Tryz.underlying29 rfl HSz.out rfl H7.out Tryz.underlying33 rfl HSn.out) rfl ?_
      exact HQo.out _ Bp dp Bc dc _ HDo.out (((HM3.out.chg H6.out (fun k _ hk e => by omega)).chg H8.out (fun k _ hk e => by omega)).mono fun k _ hk => by omega) ((hb3.trans (H6.out.below (fun k e => by omega) hb3.size)).trans (H8.out.below (fun k e => by omega) (Nat.le_trans hb3.size H6.out.size)))
    · have HNx := Lib.hid (next_any r q wr (by omega) hdq.rd)
      have hne : q ≠ [] := fun e => by rw [e] at hpos; exact absurd hpos (by decide)
      clear hd hdq
      go_upto_region 6 with (first
        | (go_at_call 25; refine HLfx.out.mono ?_; rintro e w' ⟨rfl, rfl⟩)
        | (go_at_call 55; refine HNx.out.mono ?_; rintro e w3 ⟨f, k, vA, v, vc, aA, al, ac, q', bad, rfl, h1, h2, h3, h4, hf, hk, hv1, hq1, h5⟩; have HRd3 := Lib.hid h1; have HGr3 := Lib.hid h2; have HV3 := Lib.hid h3; have HA3 := Lib.hid h4; have HS3 := Lib.hid h5; clear h1 h2 h3 h4 h5)
        | (refine wpList_storeBk rfl 90 (.tmp 7) (.tmp 19) rfl w3.heap.size (by rfl) (oneV f k vA v.length vc aA al.length ac) (by rfl) 90 #[.int .i64 0, .int .i64 0, .slice none 0 0, .slice none 0 0] (Bk.new w3 _ _) HSo.out rfl (by rfl) ?_; intro w4 h5 h6 h7; have H5 := Lib.hid h5; have H6 := Lib.hid h6; clear h5 h6 h7))
      have hsz3 := HGr3.out.size
      have hlr := HQ0.out.lr
      have hrs := HQ0.out.rs
      have hbel := HQ0.out.bel.size
      have hsbr : w2.heap.size < wr.heap.size := by
        obtain ⟨cs, s1, _⟩ := HQ0.out.sn
        exact s1.lt
      have hsb : w2.heap.size < w3.heap.size := by omega
      have hk256 : k < 256 := by omega
      have hk1 : (k : Int) < 256 := by omega
      have HB34 : Hid (Below w3.heap.size w3 w4) := ((Below.refl _ _).alloc (Nat.le_refl _) _).trans (H6.out.below (fun k e => Nat.le_of_eq e.symm) (by simp))
      have hcg := chg_of_grown HGr3.out
      have hbw3 : Below w.heap.size w w3 := HQ0.out.bel.trans (hcg.below (fun k e => by omega) hbel)
      have hbw4 : Below w.heap.size w w4 := hbw3.trans (HB34.out.mono hbw3.size)
      have HZ2 := Lib.hid ((HQ0.out.z2.chg hcg (by omega)).below HB34.out (HQ0.out.z2.chg hcg (by omega)).lt)
      have HZ3 := Lib.hid ((HQ0.out.z3.chg hcg (by omega)).below HB34.out (HQ0.out.z3.chg hcg (by omega)).lt)
      have x1 := H5.out.cell 1
      have x3 := H5.out.cell 3
      simp [oneV] at x1 x3
      clear hcg
      rcases HS3.out with ⟨rfl, ha⟩ | ⟨rfl, ha⟩
      · have HDe : Hid (D = .err 1 []) := HD.out.symm.trans (decQ_none hne ha)
        clear ha hne x1 x3
        go_wp2_with (first
                  | (go_at_call 56; refine (HNt1.out _).mono ?_; rintro e w6 ⟨rfl, h1⟩; have HBn := Lib.hid (hbw4.trans (h1.mono hbw4.size)); have HZ2 := Lib.hid (HZ2.out.below h1 HZ2.out.lt); have HZ3 := Lib.hid (HZ3.out.below h1 HZ3.out.lt); clear h1)
                  | (refine wpList_storeBk rfl 29 (.tmp 2) (.tmp 29) rfl w.heap.size (by rfl) zeroC.toArray (by rfl) 29 zeroC.toArray HZ2.out HSz.out rfl (by rfl) ?_; intro w7 h5 h6 h7; have K5 := Lib.hid h5; have K6 := Lib.hid h6; have HZ5 := Lib.hid (HZ3.out.chg h6 (by omega)); clear h5 h6 h7)
                  | (refine wpList_storeBk rfl 33 (.tmp 3) (.tmp 30) rfl (w.heap.size + 1) (by rfl) #[.int .i64 3, .int .i64 1, .slice none 0 0] (by rfl) 33 #[.int .i64 0, .int .i64 0, .slice none 0 0] HZ5.out HSn.out rfl (by rfl) ?_; intro w8 h5 h6 h7; have K7 := Lib.hid h5; have K8 := Lib.hid h6; have K9 := Lib.hid (K5.out.chg h6 (by omega)); clear h5 h6 h7))
        have hb3 := HBn.out
        have hlt := HQ0.out.z3.lt
        refine bodyPost_ret (res_cc rfl _ _ w.heap.size (w.heap.size + 1) 29 33 zeroC.toArray #[.int .i64 3, .int .i64 1, .slice none 0 0] (0, 0) (0, 0) _ _ rfl K9.out Tryz.underlying29 rfl HSz.out rfl K7.out Tryz.underlying33 rfl HSn.out) rfl ?_
        exact HQe.out 1 [] none 0 _ HDe.out (Bn.nil_ _ _) ((HBn.out.trans (K6.out.below (fun k e => by omega) HBn.out.size)).trans (K8.out.below (fun k e => by omega) (Nat.le_trans HBn.out.size K6.out.size)))
      · have HDs := Lib.hid (HD.out.symm.trans (decQ_some ha))
        have HQ4 := Lib.hid ((HQ0.out.read HRd3.out HGr3.out).go HB34.out)
        obtain ⟨cs, s1, s2, s3⟩ := HQ4.out.sn
        have c0 := (s1.cell k).trans (s3 k hk256)
        have cf := s1.free k
        have clt := s1.lt
        have HAt := Lib.hid ha
        clear ha hne s1 s2 s3
        by_cases hks : k ∈ seen
        · have HDe : Hid (D = .err 1 []) := by
            rw [Hid, HDs.out, if_pos hks]
          rw [decide_eq_true hks] at c0
          clear x3 HDs
          go_wp2_with (first
                    | (go_at_call 56; refine (HNt1.out _).mono ?_; rintro e w6 ⟨rfl, h1⟩; have HBn := Lib.hid (hbw4.trans (h1.mono hbw4.size)); have HZ2 := Lib.hid (HZ2.out.below h1 HZ2.out.lt); have HZ3 := Lib.hid (HZ3.out.below h1 HZ3.out.lt); clear h1)
                    | (refine wpList_storeBk rfl 29 (.tmp 2) (.tmp 29) rfl w.heap.size (by rfl) zeroC.toArray (by rfl) 29 zeroC.toArray HZ2.out HSz.out rfl (by rfl) ?_; intro w7 h5 h6 h7; have K5 := Lib.hid h5; have K6 := Lib.hid h6; have HZ5 := Lib.hid (HZ3.out.chg h6 (by omega)); clear h5 h6 h7)
                    | (refine wpList_storeBk rfl 33 (.tmp 3) (.tmp 30) rfl (w.heap.size + 1) (by rfl) #[.int .i64 3, .int .i64 1, .slice none 0 0] (by rfl) 33 #[.int .i64 0, .int .i64 0, .slice none 0 0] HZ5.out HSn.out rfl (by rfl) ?_; intro w8 h5 h6 h7; have K7 := Lib.hid h5; have K8 := Lib.hid h6; have K9 := Lib.hid (K5.out.chg h6 (by omega)); clear h5 h6 h7))
          have hb3 := HBn.out
          have hlt := HQ0.out.z3.lt
          refine bodyPost_ret (res_cc rfl _ _ w.heap.size (w.heap.size + 1) 29 33 zeroC.toArray #[.int .i64 3, .int .i64 1, .slice none 0 0] (0, 0) (0, 0) _ _ rfl K9.out Tryz.underlying29 rfl HSz.out rfl K7.out Tryz.underlying33 rfl HSn.out) rfl ?_
          exact HQe.out 1 [] none 0 _ HDe.out (Bn.nil_ _ _) ((HBn.out.trans (K6.out.below (fun k e => by omega) HBn.out.size)).trans (K8.out.below (fun k e => by omega) (Nat.le_trans HBn.out.size K6.out.size)))
        · rw [decide_eq_false hks] at c0
          have HQ5 := Lib.hid (HQ4.out.mark hk256)
          have HX5 := Lib.hid (H5.out.far (p := ⟨w2.heap.size, k, none⟩) (by show w3.heap.size ≠ w2.heap.size; omega) (.bool true))
          have HKs := Lib.hid hks
          clear hks
          go_upto_region 9 with fail
          clear c0 cf clt x1 x3
          have hch : Chg (fun j => j = w2.heap.size) w4 (w4.setCell ⟨w2.heap.size, k, none⟩ (.bool true)) := (Chg.refl (fun j => j = w2.heap.size) w4).put (p := ⟨w2.heap.size, k, none⟩) (.inl rfl) _
          have hbw5 : Below w.heap.size w (w4.setCell ⟨w2.heap.size, k, none⟩ (.bool true)) := hbw4.trans (hch.below (fun j e => by omega) hbw4.size)
          have HV5 := Lib.hid ((HV3.out.bel HB34.out).chg hch fun j _ h1 e => by omega)
          have HA5 := Lib.hid ((HA3.out.bel HB34.out).chg hch fun j _ h1 e => by omega)
          have HZ2 := Lib.hid (HZ2.out.chg hch (by omega))
          have HZ3 := Lib.hid (HZ3.out.chg hch (by omega))
          have hs5 : (w4.setCell ⟨w2.heap.size, k, none⟩ (.bool true)).heap.size = w4.heap.size := by simp [World.setCell]
          have hs34 := HB34.out.size
          generalize hw5 : w4.setCell ⟨w2.heap.size, k, none⟩ (.bool true) = w5 at *
          clear hw5 hch HQ4 H5 H6 HRd3
          obtain ⟨Ap, cp, Ac, cc, a1, a2, a3⟩ := HQ5.out.at_
          have HWr := Lib.hid (wrong_any f vc al.length ac (w.heap.size + 2) k vA aA a Ap Ac cp cc (fun j => (w.heap.size + 2 < j ∧ j ≠ r ∧ j ≠ w2.heap.size) ∧ j < w5.heap.size) w5 v hf ⟨HQ5.out.bits.1.1, HQ5.out.bits.1.2⟩ (HQ5.out.bits.2 k HKs.out) (by omega) (fun e => a3 (e ▸ HKs.out)) a1 (a2.mono fun j hj h => ⟨h, hj⟩) (fun j h => ⟨h.2, by omega⟩) HV5.out.bs HV5.out.nil)
          have HA3 : Hid (8 ∉ seen → a.comms = [] ∧ Ac = none ∧ cc = 0) := a3
          clear a1 a2 a3
          have HSq := Lib.hid (wrongS_sz a f k v (by omega) hps hcs)
          have HN1 := Lib.hid (wrongS_ne1 a f k v)
          have HCm := Lib.hid (wrongS_comms a f k v)
          have hql2 : q'.length ≤ l.length := by omega
          obtain ⟨s, hs⟩ : ∃ s, s = (wrongS a f k v).2 := ⟨_, rfl⟩
          rw [← hs] at HWr HN1
          have HS := Lib.hid hs
          rw [if_neg HKs.out] at HDs
          rcases Nat.eq_zero_or_pos s with h0 | hp
          · have d0 : ((s : Int) != 0) = false := by rw [h0]; rfl
            have HZ := Lib.hid h0
            clear hs h0
            go_wp2_with (first
              | (refine wpList_loadBk rfl 90 (.tmp 7) rfl w3.heap.size (by rfl) 90 (oneV f k vA v.length vc aA al.length ac) _ HX5.out Tryz.underlying90 (by rfl) HSo.out ?_)
              | (go_at_call 57; refine HWr.out.mono ?_; intro e w6 h1; have HR6 := Lib.hid h1; obtain rfl := h1.1; clear h1))
            have hs0 : (wrongS a f k v).2 = 0 := by rw [← HS.out]; exact HZ.out
            have hr6 := HR6.out
            rw [HS.out] at hr6
            have hd6 := HQ5.out.step (Ap := Ap) (cp := cp) (fun h => (HA3.out h).2) HKs.out hs0 hr6 HCm.out fun h => (HA3.out h).1
            have HD6 := Lib.hid hd6
            have HDe : Hid (D = decQ q' (k :: seen) (wrongS a f k v).1) := by
              rw [Hid, HDs.out, if_neg (by simp [hs0])]
            clear hr6 hd6 hs0
            go_roundw
            case rel => exact ⟨q', k :: seen, (wrongS a f k v).1, HDe.out.symm, hql2, HD6.out, HSq.out.1, HSq.out.2⟩
            case measure => rw [rdr_len HD6.out.rd, HLn.out]; exact att1_lt HAt.out
          · have d0 : ((s : Int) != 0) = true := by
              rw [bne_iff_ne]
              omega
            have HDe : Hid (D = .err s (if s = 11 then [] else al)) := by
              rw [Hid, HDs.out, ← HS.out, if_pos (by omega)]
            have hall := HA5.out.cap
            obtain ⟨d, dA, dc, hd, hn, hb⟩ : ∃ (d : List UInt8) (dA : Option Addr) (dc : Nat), (if s = 11 then [] else al) = d ∧ (∀ w', Calls Tryz.prog 56 #[.int .i64 (s : Int), .slice aA al.length ac] w' fun e w2 => e = .returned (.agg #[.int .i64 3, .int .i64 (s : Int), .slice dA d.length dc]) ∧ Below w'.heap.size w' w2) ∧ ∀ w' G, Bn w' G aA ac al → Bn w' G dA dc d := by
              by_cases h11 : s = 11
              · subst h11
                refine ⟨[], none, 0, rfl, fun w' => ?_, fun w' G _ => Bn.nil_ _ _⟩
                exact notice_any 11 aA al.length ac w'
              · refine ⟨al, aA, ac, if_neg h11, fun w' => ?_, fun w' G h => h⟩
                have h := notice_any (s : Int) aA al.length ac w'
                rw [if_neg (by have := HN1.out; omega)] at h
                exact h
            rw [hd] at HDe
            have HNt := Lib.hid hn
            have HBd := Lib.hid hb
            clear hs hp hd hn hb
            go_wp2_with (first
              | (refine wpList_loadBk rfl 90 (.tmp 7) rfl w3.heap.size (by rfl) 90 (oneV f k vA v.length vc aA al.length ac) _ HX5.out Tryz.underlying90 (by rfl) HSo.out ?_)
              | (go_at_call 57; refine HWr.out.mono ?_; intro e w6 h1; have HC6 := Lib.hid h1.2.1; have x3 := (HX5.out.chg h1.2.1 (by omega)).cell 3; simp [oneV] at x3; have HB6 := Lib.hid (hbw5.trans (h1.2.1.below (fun j e => by omega) hbw5.size)); have HZ2 := Lib.hid (HZ2.out.chg h1.2.1 (by omega)); have HZ3 := Lib.hid (HZ3.out.chg h1.2.1 (by omega)); have HA6 := Lib.hid (HA5.out.chg h1.2.1 (fun j _ h3 e => by omega)); obtain rfl := h1.1; clear h1)
              | (go_at_call 56; refine (HNt.out _).mono ?_; rintro e w7 ⟨rfl, h1⟩; have HBn := Lib.hid (HB6.out.trans (h1.mono HB6.out.size)); have HZ2 := Lib.hid (HZ2.out.below h1 HZ2.out.lt); have HZ3 := Lib.hid (HZ3.out.below h1 HZ3.out.lt); have HA7 := Lib.hid (HA6.out.bel h1); clear h1)
              | (refine wpList_storeBk rfl 29 (.tmp 2) (.tmp 38) rfl w.heap.size (by rfl) zeroC.toArray (by rfl) 29 zeroC.toArray HZ2.out HSz.out rfl (by rfl) ?_; intro w8 h5 h6 h7; have K5 := Lib.hid h5; have K6 := Lib.hid h6; have HZ5 := Lib.hid (HZ3.out.chg h6 (by omega)); clear h5 h6 h7)
              | (refine wpList_storeBk rfl 33 (.tmp 3) (.tmp 42) rfl (w.heap.size + 1) (by rfl) #[.int .i64 3, .int .i64 (s : Int), .slice dA d.length dc] (by rfl) 33 #[.int .i64 0, .int .i64 0, .slice none 0 0] HZ5.out HSn.out rfl (by rfl) ?_; intro w9 h5 h6 h7; have K7 := Lib.hid h5; have K8 := Lib.hid h6; have K9 := Lib.hid (K5.out.chg h6 (by omega)); clear h5 h6 h7))
            have hb3 := HBn.out
            have hlt := HQ0.out.z3.lt
            refine bodyPost_ret (res_cc rfl _ _ w.heap.size (w.heap.size + 1) 29 33 zeroC.toArray #[.int .i64 3, .int .i64 (s : Int), .slice dA d.length dc] (0, 0) (0, 0) _ _ rfl K9.out Tryz.underlying29 rfl HSz.out rfl K7.out Tryz.underlying33 rfl HSn.out) rfl ?_
            exact HQe.out s d dA dc _ HDe.out (HBd.out _ _ (((HA7.out.chg K6.out (fun j _ h3 e => by omega)).chg K8.out (fun j _ h3 e => by omega)).mono fun j _ h => by omega)) ((HBn.out.trans (K6.out.below (fun k e => by omega) HBn.out.size)).trans (K8.out.below (fun k e => by omega) (Nat.le_trans HBn.out.size K6.out.size)))
end Go.Proofs.YtaeeeinpelfppaaGreat.attr

namespace Go.Proofs.YtaeeeinpelfppaaGreat.attr
open Go.RowKit Go.Proofs.YtaeeeinpelfppaaGreat.kit Go.Proofs.YtaeeeinpelfppaaGreat.mem Go.Proofs.YtaeeeinpelfppaaGreat.foot Go.Proofs.YtaeeeinpelfppaaGreat.nums Go.Proofs.YtaeeeinpelfppaaGreat.asn Go.Proofs.YtaeeeinpelfppaaGreat.pth Go.Proofs.YtaeeeinpelfppaaGreat.octet
set_option linter.unusedVariables false
set_option linter.unusedSimpArgs false
set_option maxRecDepth 100000 in
set_option maxHeartbeats 2000000 in
theorem GoodP_any (a : Atr) (Ap Ac : Option Addr) (cp cc : Nat) (G : Foot) (w : World) (z : Bool) (hz : z = true ↔ GoodA a) (hm : Am w G a Ap cp Ac cc) (hp : nsz a.path ≤ 100000) (hcm : a.comms.length ≤ 1000000) :
    Calls Tryz.prog 73 #[.agg (atc a Ap cp Ac cc).toArray] w fun e w' => e = .returned (.bool z) ∧ Below w.heap.size w w' := by
  have HSz : Hid ((Tryz.prog.info? 29).map (·.size) = some 9) := info_atr
  have hb1 : Below w.heap.size w (w.alloc (.cells (atc a Ap cp Ac cc).toArray 29)) := (Below.refl _ _).alloc (Nat.le_refl _) _
  have HB1 := Lib.hid hb1
  have HG := Lib.hid (good_any a Ap Ac cp cc G _ z hz (hm.bel hb1) hp hcm)
  have HK0 : Hid (Bk (w.alloc (.cells (atc a Ap cp Ac cc).toArray 29)) w.heap.size 29 (atc a Ap cp Ac cc).toArray) := Bk.new w _ _
  have HCl : Hid ((atc a Ap cp Ac cc).length = 9) := rfl
  clear hz hm hp hcm hb1
  generalize atc a Ap cp Ac cc = cs at *
  go_enter Tryz.func73, Tryz.ntmps73
  go_wp2_with (first
    | (refine wpList_loadBk rfl 29 (.tmp 1) rfl w.heap.size (by rfl) 29 cs.toArray _ HK0.out Tryz.underlying29 (by rfl) (by rw [List.size_toArray, HCl.out]; exact HSz.out) ?_)
    | (go_at_call 81; refine HG.out.mono ?_; rintro e w2 ⟨rfl, hb2⟩; have HB2 := Lib.hid (HB1.out.trans (hb2.mono HB1.out.size)); clear hb2))
  go_ret
  exact ⟨rfl, HB2.out⟩
set_option maxRecDepth 100000 in
set_option maxHeartbeats 2000000 in
theorem SameP_any (a b : Atr) (Ap Ac Bp Bc : Option Addr) (cp cc dp dc : Nat) (G H : Foot) (w : World) (z : Bool) (hz : z = true ↔ a = b) (hm : Am w G a Ap cp Ac cc) (hn : Am w H b Bp dp Bc dc) (hp : nsz a.path ≤ 1000000) (hq : nsz b.path ≤ 1000000) (hcm : a.comms.length ≤ 1000000) (hdm : b.comms.length ≤ 1000000) :
    Calls Tryz.prog 47 #[.agg (atc a Ap cp Ac cc).toArray, .agg (atc b Bp dp Bc dc).toArray] w fun e w' => e = .returned (.bool z) ∧ Below w.heap.size w w' := by
  have HSz : Hid ((Tryz.prog.info? 29).map (·.size) = some 9) := info_atr
  have hb1 : Below w.heap.size w ((w.alloc (.cells (atc a Ap cp Ac cc).toArray 29)).alloc (.cells (atc b Bp dp Bc dc).toArray 29)) := ((Below.refl _ _).alloc (Nat.le_refl _) _).alloc (by simp) _
  have HB1 := Lib.hid hb1
  have HG := Lib.hid (same_any a b Ap Ac Bp Bc cp cc dp dc G H _ z hz (hm.bel hb1) (hn.bel hb1) hp hq hcm hdm)
  have HK0 : Hid (Bk ((w.alloc (.cells (atc a Ap cp Ac cc).toArray 29)).alloc (.cells (atc b Bp dp Bc dc).toArray 29)) w.heap.size 29 (atc a Ap cp Ac cc).toArray) := (Bk.new w _ _).alloc _
  have HK1 : Hid (Bk ((w.alloc (.cells (atc a Ap cp Ac cc).toArray 29)).alloc (.cells (atc b Bp dp Bc dc).toArray 29)) (w.heap.size + 1) 29 (atc b Bp dp Bc dc).toArray) := by have := Bk.new (w.alloc (.cells (atc a Ap cp Ac cc).toArray 29)) 29 (atc b Bp dp Bc dc).toArray; rwa [World.size_alloc] at this
  have HCl : Hid ((atc a Ap cp Ac cc).length = 9) := rfl
  have HDl : Hid ((atc b Bp dp Bc dc).length = 9) := rfl
  clear hz hm hn hp hq hcm hdm hb1
  generalize atc a Ap cp Ac cc = cs at *
  generalize atc b Bp dp Bc dc = ds at *
  go_enter Tryz.func47, Tryz.ntmps47
  go_wp2_with (first
    | (refine wpList_loadBk rfl 29 (.tmp 2) rfl w.heap.size (by rfl) 29 cs.toArray _ HK0.out Tryz.underlying29 (by rfl) (by rw [List.size_toArray, HCl.out]; exact HSz.out) ?_)
    | (refine wpList_loadBk rfl 29 (.tmp 3) rfl (w.heap.size + 1) (by rfl) 29 ds.toArray _ HK1.out Tryz.underlying29 (by rfl) (by rw [List.size_toArray, HDl.out]; exact HSz.out) ?_)
    | (go_at_call 88; refine HG.out.mono ?_; rintro e w2 ⟨rfl, hb2⟩; have HB2 := Lib.hid (HB1.out.trans (hb2.mono HB1.out.size)); clear hb2))
  go_ret
  exact ⟨rfl, HB2.out⟩
/-- the first of the three that any way must have, that a has not; 0: none -/
def missK (h : Int) : Nat := if bitI h 1 = false then 1 else if bitI h 2 = false then 2 else if bitI h 3 = false then 3 else 0
def missD (m : Nat) : List UInt8 := if m = 0 then [] else [UInt8.ofNat m]
def missC (m : Nat) : Int := if m = 0 then 0 else 3
/-- a notice handed back -/
def RetN (c s : Int) (d : List UInt8) (w : World) (e : Ending) (w' : World) : Prop := ∃ A n, e = .returned (.agg #[.int .i64 c, .int .i64 s, .slice A d.length n]) ∧ Bn w' (fun k => w.heap.size ≤ k) A n d ∧ Below w.heap.size w w'
theorem missK_at {h : Int} {k : Nat} (h1 : 1 ≤ k) (h3 : k ≤ 3) (hp : ∀ j : Nat, 1 ≤ j → j < k → bitI h j = true) (hn : bitI h k = false) : missK h = k := by
  have hk : k = 1 ∨ k = 2 ∨ k = 3 := by omega
  rcases hk with rfl | rfl | rfl
  · simp [missK, hn]
  · simp [missK, hn, hp 1 (by omega) (by omega)]
  · simp [missK, hn, hp 1 (by omega) (by omega), hp 2 (by omega) (by omega)]
theorem missK_no {h : Int} (hp : ∀ j : Nat, 1 ≤ j → j < 4 → bitI h j = true) : missK h = 0 := by
  simp [missK, hp 1 (by omega) (by omega), hp 2 (by omega) (by omega), hp 3 (by omega) (by omega)]
set_option maxRecDepth 100000 in
set_option maxHeartbeats 4000000 in
theorem Well_any (a : Atr) (Ap Ac : Option Addr) (cp cc : Nat) (w : World) :
    Calls Tryz.prog 26 #[.agg (atc a Ap cp Ac cc).toArray] w (RetN (missC (missK a.has)) (missC (missK a.has)) (missD (missK a.has)) w) := by
  have HSz : Hid ((Tryz.prog.info? 29).map (·.size) = some 9) := info_atr
  have HSn : Hid ((Tryz.prog.info? 33).map (·.size) = some 3) := info_ntc
  have HHas := Lib.hid (fun (k : Nat) (hk : k ≤ 8) (w' : World) => has_any a Ap Ac cp cc k hk w')
  have HNt := Lib.hid (fun (A : Option Addr) (n c : Nat) (w' : World) => notice_any 3 A n c w')
  obtain ⟨C0, hC0⟩ : ∃ C0 : Array Value, C0 = #[.int .i64 0, .int .i64 0, .slice none 0 0] := ⟨_, rfl⟩
  have HW : Hid (∃ w1, w1 = (w.alloc (.cells (atc a Ap cp Ac cc).toArray 29)).alloc (.cells C0 33) ∧ Below w.heap.size w w1 ∧ Bk w1 w.heap.size 29 (atc a Ap cp Ac cc).toArray ∧ Bk w1 (w.heap.size + 1) 33 C0) := ⟨_, rfl, ((Below.refl _ _).alloc (Nat.le_refl _) _).alloc (by simp) _, (Bk.new w _ _).alloc _, by have := Bk.new (w.alloc (.cells (atc a Ap cp Ac cc).toArray 29)) 33 C0; rwa [World.size_alloc] at this⟩
  obtain ⟨Q, hQ⟩ : ∃ Q, Q = RetN (missC (missK a.has)) (missC (missK a.has)) (missD (missK a.has)) w := ⟨_, rfl⟩
  have HQ0 : Hid (∀ w', Below w.heap.size w w' → (∀ j : Nat, 1 ≤ j → j < 4 → bitI a.has j = true) → Q (.returned (.agg #[.int .i64 0, .int .i64 0, .slice none 0 0])) w') := fun w' hb hp => by
    rw [hQ, missK_no hp]
    exact ⟨none, 0, rfl, Bn.nil_ _ _, hb⟩
  have HQ1 : Hid (∀ (k : Nat) (A : Option Addr) (n : Nat) w', 1 ≤ k → k ≤ 3 → (∀ j : Nat, 1 ≤ j → j < k → bitI a.has j = true) → bitI a.has k = false → Bn w' (fun k => w.heap.size ≤ k) A n [UInt8.ofNat k] → Below w.heap.size w w' → Q (.returned (.agg #[.int .i64 3, .int .i64 3, .slice A 1 n])) w') := fun k A n w' h1 h3 hp hn hs hb => by
    rw [hQ, missK_at h1 h3 hp hn]
    have e1 : missC k = 3 := by unfold missC; rw [if_neg (by omega)]
    have e2 : missD k = [UInt8.ofNat k] := by unfold missD; rw [if_neg (by omega)]
    rw [e1, e2]
    exact ⟨A, n, rfl, hs, hb⟩
  rw [← hQ]
  have HCl : Hid ((atc a Ap cp Ac cc).length = 9) := rfl
  clear hQ
  generalize atc a Ap cp Ac cc = cs at *
  generalize bitI a.has = bt at *
  obtain ⟨w1, hw1, hb1, hk0, hz0⟩ := HW.out
  have HB1 := Lib.hid hb1
  have HK0 := Lib.hid hk0
  have HZ0 := Lib.hid hz0
  have HC0 := Lib.hid hC0
  clear hb1 hk0 hz0
  go_enter Tryz.func26, Tryz.ntmps26
  go_upto_region 1 with fail
  rw [← hC0, ← hw1]
  clear hw1 HW hC0
  obtain ⟨g, hg⟩ : ∃ g, g = w.heap.size := ⟨_, rfl⟩
  rw [← hg] at HK0 HZ0 ⊢
  have HG := Lib.hid hg
  clear hg
  go_wp2_with fail
  go_loopw [3] (fun v3 wr => ∃ k : Nat, 1 ≤ k ∧ k ≤ 4 ∧ v3 = .int .i64 k ∧ (∀ j : Nat, 1 ≤ j → j < k → bt j = true) ∧ Below w1.heap.size w1 wr) (fun v3 _ => 4 - (intOf v3).toNat)
  case atStart => exact ⟨1, by omega, by omega, rfl, fun j h1 h2 => by omega, Below.refl _ _⟩
  case round =>
    obtain ⟨k, hk1, hk4, rfl, hp, hb⟩ := hrel
    have HP := Lib.hid hp
    have HB := Lib.hid hb
    have KA := Lib.hid (HK0.out.below hb HK0.out.lt)
    have KZ := Lib.hid (HZ0.out.below hb HZ0.out.lt)
    clear hp hb
    by_cases hlt : k ≤ 3
    · have hlt' : (k : Int) ≤ 3 := by omega
      have HHx := Lib.hid (HHas.out k (by omega) wr)
      rcases hbk : bt k with _ | _
      · rw [hbk] at HHx
        have HBk := Lib.hid hbk
        have e8 : IntKind.u8.wrap (k : Int) = (k : Int) := by
          have : k = 1 ∨ k = 2 ∨ k = 3 := by omega
          rcases this with rfl | rfl | rfl <;> rfl
        clear hbk
        go_wp2_with (first
          | (refine wpList_loadBk rfl 29 (.tmp 1) rfl g (by rfl) 29 cs.toArray _ KA.out Tryz.underlying29 (by rfl) (by rw [List.size_toArray, HCl.out]; exact HSz.out) ?_)
          | (go_at_call 60; refine HHx.out.mono ?_; rintro e w2 ⟨rfl, h1⟩; have HB2 := Lib.hid (HB.out.trans (h1.mono HB.out.size)); have KZ2 := Lib.hid (KZ.out.below h1 KZ.out.lt); clear h1)
          | (go_at_call 56; refine (HNt.out _ _ _ _).mono ?_; rintro e w3 ⟨rfl, h1⟩; rw [if_neg (by decide)]; have HX3 := Lib.hid h1; clear h1)
          | (refine wpList_storeBk rfl 33 (.tmp 2) (.tmp 15) rfl (g + 1) (by rfl) #[.int .i64 3, .int .i64 3, .slice (some ⟨w2.heap.size, 0, none⟩) 1 1] (by rfl) 33 C0 ((KZ2.out.alloc _).below HX3.out (KZ2.out.alloc _).lt) HSn.out (by rw [HC0.out]; rfl) (by rfl) ?_; intro w4 h5 h6 h7; have K4 := Lib.hid h5; have C4 := Lib.hid h6; clear h5 h6 h7))
        have HL := HB1.out.size
        have hx : Below w2.heap.size w2 w3 := ((Below.refl _ _).alloc (Nat.le_refl _) _).trans (HX3.out.mono (by simp))
        have hN3 : Bn w3 (fun k => w2.heap.size ≤ k) (some ⟨w2.heap.size, 0, none⟩) 1 [UInt8.ofNat k] := by
          have hr : Rg (w2.alloc (.cells #[.int .u8 (k : Int)] 5)) (fun b => b = w2.heap.size) 1 (some ⟨w2.heap.size, 0, none⟩) 1 [Value.int .u8 (k : Int)] := Rg.new w2 5 1 1 #[.int .u8 (k : Int)] rfl
          have e : bv [UInt8.ofNat k] = [Value.int .u8 (k : Int)] := by
            have : k = 1 ∨ k = 2 ∨ k = 3 := by omega
            rcases this with rfl | rfl | rfl <;> rfl
          have h1 : Bn (w2.alloc (.cells #[.int .u8 (k : Int)] 5)) (fun b => b = w2.heap.size) (some ⟨w2.heap.size, 0, none⟩) 1 [UInt8.ofNat k] := ⟨(fun h => by cases h), Nat.le_refl _, by decide, by rw [e]; exact hr⟩
          exact (h1.bel HX3.out).mono fun j _ hj => by rw [hj]; exact Nat.le_refl _
        have hg2 : g + 1 < w2.heap.size := KZ2.out.lt
        have hN4 := (hN3.chg C4.out (fun j _ hj e => by rw [e] at hj; omega)).mono (H := fun j => w.heap.size ≤ j) fun j _ hj => Nat.le_trans (by rw [← HG.out]; omega) hj
        have hb2 := HB1.out.trans (HB2.out.mono HB1.out.size)
        have hb3 := hb2.trans (hx.mono hb2.size)
        have hb4 := hb3.trans (C4.out.below (fun j e => by rw [e, HG.out]; exact Nat.le_succ _) hb3.size)
        exact bodyPost_ret (results_cell_row rfl _ _ (g + 1) 33 _ (0, 0) _ rfl K4.out Tryz.underlying33 rfl info_ntc) rfl (HQ1.out k _ _ _ hk1 hlt HP.out HBk.out hN4 hb4)
      · rw [hbk] at HHx
        have HP2 : Hid (∀ j : Nat, 1 ≤ j → j < k + 1 → bt j = true) := fun j h1 h2 => by
          rcases Nat.lt_or_ge j k with h | h
          · exact HP.out j h1 h
          · obtain rfl : j = k := by omega
            exact hbk
        clear hbk
        go_wp2_with (first
          | (refine wpList_loadBk rfl 29 (.tmp 1) rfl g (by rfl) 29 cs.toArray _ KA.out Tryz.underlying29 (by rfl) (by rw [List.size_toArray, HCl.out]; exact HSz.out) ?_)
          | (go_at_call 60; refine HHx.out.mono ?_; rintro e w2 ⟨rfl, h1⟩; have HB2 := Lib.hid (HB.out.trans (h1.mono HB.out.size)); clear h1))
        go_roundw
        case rel => exact ⟨k + 1, by omega, by omega, by go_num, HP2.out, HB2.out⟩
        case measure => simp [intOf]; omega
    · obtain rfl : k = 4 := by omega
      have KY := KZ.out
      rw [HC0.out] at KY
      have y0 := KY.cell 0
      have y1 := KY.cell 1
      have y2 := KY.cell 2
      simp at y0 y1 y2
      have z0 := KY.free 0
      have z1 := KY.free 1
      have z2 := KY.free 2
      have HKY := Lib.hid KY
      clear KY
      go_wp2_with fail
      have hb2 := HB1.out.trans (HB.out.mono HB1.out.size)
      have K4 := ((HKY.out.put 0 (.int .i64 0)).put 1 (.int .i64 0)).put 2 (.slice none 0 0)
      refine bodyPost_ret (results_cell_row rfl _ _ (g + 1) 33 _ (0, 0) _ rfl K4 Tryz.underlying33 rfl info_ntc) rfl (HQ0.out _ ?_ HP.out)
      exact ((hb2.setCell (by rw [HG.out]; exact Nat.le_succ _) _).setCell (by rw [HG.out]; exact Nat.le_succ _) _).setCell (by rw [HG.out]; exact Nat.le_succ _) _
end Go.Proofs.YtaeeeinpelfppaaGreat.attr
