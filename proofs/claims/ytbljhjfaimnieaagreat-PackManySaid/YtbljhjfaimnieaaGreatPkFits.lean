/- The plain law: the bytes of good attributes are read as these. No condition. What update.Room, pack.fits and pack.Fits return. Condition: at most 100000 numbers and pieces. -/
import Derived.Test.YtbljhjfaimnieaaGreatAttrPub
import Derived.Test.YtbljhjfaimnieaaGreatRefNorm8
import Derived.Test.YtbljhjfaimnieaaGreatRefGood04
import Derived.Test.YtbljhjfaimnieaaGreatOctLives
namespace Go.Proofs.YtbljhjfaimnieaaGreat.attr
open Go.RowKit Go.Proofs.YtbljhjfaimnieaaGreat.kit Go.Proofs.YtbljhjfaimnieaaGreat.mem Go.Proofs.YtbljhjfaimnieaaGreat.foot Go.Proofs.YtbljhjfaimnieaaGreat.nums Go.Proofs.YtbljhjfaimnieaaGreat.asn Go.Proofs.YtbljhjfaimnieaaGreat.pth Go.Proofs.YtbljhjfaimnieaaGreat.octet
set_option linter.unusedVariables false
set_option linter.unusedSimpArgs false
theorem attB_val (a : Atr) (k : Nat) : (attB a k).length ≤ (valB a k).length + 4 := by
  unfold attB
  split <;> simp <;> omega
theorem encB_len {a : Atr} (hg : GoodA a) : (encB a).length ≤ 50000 := by
  have hp := pathB_eq a.path
  have hc := n4s_len a.comms
  have h3 := hg.ways.2
  have h5 := hg.ways.1.2.1
  have h6 := hg.few
  have hb : ∀ k, (if bitI a.has k = true then attB a k else []).length ≤ (valB a k).length + 4 := fun k => by
    split
    · exact attB_val a k
    · simp
  have v1 : (valB a 1).length = 1 := rfl
  have v2 : (valB a 2).length = (pathB a.path).length := rfl
  have v3 : (valB a 3).length = 4 := rfl
  have v4 : (valB a 4).length = 4 := rfl
  have v5 : (valB a 5).length = 4 := rfl
  have v6 : (valB a 6).length = 0 := rfl
  have v7 : (valB a 7).length = 8 := rfl
  have v8 : (valB a 8).length = (n4s a.comms).length := rfl
  have b1 := hb 1
  have b2 := hb 2
  have b3 := hb 3
  have b4 := hb 4
  have b5 := hb 5
  have b6 := hb 6
  have b7 := hb 7
  have b8 := hb 8
  unfold encB
  simp only [encU, List.length_append, List.length_nil, Nat.zero_add, Nat.reduceAdd]
  omega
end Go.Proofs.YtbljhjfaimnieaaGreat.attr

namespace Go.Proofs.YtbljhjfaimnieaaGreat.pck
open Go.RowKit Go.Proofs.YtbljhjfaimnieaaGreat.kit Go.Proofs.YtbljhjfaimnieaaGreat.mem Go.Proofs.YtbljhjfaimnieaaGreat.foot Go.Proofs.YtbljhjfaimnieaaGreat.nums Go.Proofs.YtbljhjfaimnieaaGreat.asn Go.Proofs.YtbljhjfaimnieaaGreat.pth Go.Proofs.YtbljhjfaimnieaaGreat.octet Go.Proofs.YtbljhjfaimnieaaGreat.attr
set_option linter.unusedVariables false
set_option linter.unusedSimpArgs false
/-- a whole block read, behind a guard or not -/
theorem loadG {P : Program} {ops : Array Oper} {rest : List Oper} {o : Oper} {a : Act} {w : World} {Q : Exit → Act → World → Prop} (hw : Region.wanted o (yielded ops a.tmps) = true) (ty : TypeId) (x : Operand) (ho : o.op = .load ty x)
    (g : Nat) (hx : a.eval x = .pointer (some ⟨g, 0, none⟩)) (t : TypeId) (cs : Array Value) (d : TypeDesc) (hg : Bk w g t cs)
    (hu : P.underlying ty = some d) (hd : (match d with | .struct _ | .array _ _ => true | _ => false) = true) (hi : (P.info? ty).map (·.size) = some cs.size)
    (h : wpList P ops Q rest (a.put o.dst (.agg cs)) w) : wpList P ops Q (o :: rest) a w :=
  wpList_step fun K hK => by
    rw [if_pos hw]
    exact wp_load_row ty x ho g hx t cs (0, 0) d hg hu hd hi (hK _ _ h)
theorem fldN (a b : Int) (A : Option Addr) (n c : Nat) (w : World) : (Instr.field 85 (.agg #[.int .i64 a, .int .i64 b, .slice A n c]) 0).run Tryz.prog w = .ok (.int .i64 a) w := by kernel_rfl
/-- what room is left beside good attributes -/
def roomA (a : Atr) : Nat := 4073 - (encB a).length
/-- attributes that may be told beside a prefix -/
def FitA (a : Atr) : Prop := GoodA a ∧ missK a.has = 0 ∧ 5 ≤ roomA a
section
variable (a : Atr) (Ap Ac : Option Addr) (cp cc : Nat) (G : Foot) (w : World)
set_option maxRecDepth 100000 in
set_option maxHeartbeats 2000000 in
theorem Room_any (hm : Am w G a Ap cp Ac cc) (hp : nsz a.path ≤ 100000) (hc : a.comms.length ≤ 100000) (hg : GoodA a) :
    Calls Tryz.prog 37 #[.agg (atc a Ap cp Ac cc).toArray] w fun e w' => e = .returned (.int .i64 (roomA a : Int)) ∧ Below w.heap.size w w' := by
  have HSz : Hid ((Tryz.prog.info? 26).map (·.size) = some 9) := info_atr
  have HC : Hid ((atc a Ap cp Ac cc).length = 9) := rfl
  have hb1 : Below w.heap.size w (w.alloc (.cells (atc a Ap cp Ac cc).toArray 26)) := (Below.refl _ _).alloc (Nat.le_refl _) _
  have HB1 := Lib.hid hb1
  have HK := Lib.hid (Bk.new w 26 (atc a Ap cp Ac cc).toArray)
  have HG := Lib.hid (GoodP_any a Ap Ac cp cc G _ true (by simp [hg]) (hm.bel hb1) hp (by omega))
  have HS := Lib.hid (fun w' (h : Below w.heap.size w w') => Size_yes a Ap Ac cp cc G w' (hm.bel h) hp hc hg)
  have hle := encB_len hg
  have HR : Hid (max (4073 - ((encB a).length : Int)) 0 = (roomA a : Int)) := by rw [Hid]; unfold roomA; omega
  clear hm hb1 hg
  generalize (encB a).length = n at *
  obtain ⟨g, hg⟩ : ∃ g, g = w.heap.size := ⟨_, rfl⟩
  obtain ⟨w1, hw1⟩ : ∃ w1, w1 = w.alloc (.cells (atc a Ap cp Ac cc).toArray 26) := ⟨_, rfl⟩
  rw [← hw1] at HB1 HK HG
  rw [← hg] at HK
  generalize atc a Ap cp Ac cc = cs at *
  go_enter Tryz.func37, Tryz.ntmps37
  go_upto_region 1 with fail
  rw [← hw1, ← hg]
  clear hw1 hg
  go_wp2_with (first
    | (refine wpList_loadBk rfl 26 (.tmp 1) rfl g (by rfl) 26 cs.toArray _ (by first | exact HK2.out | exact HK.out) Tryz.underlying26 (by rfl) (by rw [List.size_toArray, HC.out]; exact HSz.out) ?_)
    | (go_at_call 52; refine HG.out.mono ?_; rintro e w2 ⟨rfl, h⟩; have HB2 := Lib.hid (HB1.out.trans (h.mono HB1.out.size)); have HK2 := Lib.hid (HK.out.below h HK.out.lt); clear h)
    | (go_at_call 70; refine (HS.out w2 HB2.out).mono ?_; rintro e w3 ⟨rfl, h⟩; have HB3 := Lib.hid (HB2.out.trans (h.mono HB2.out.size)); clear h))
  go_ret
  exact ⟨by rw [← HR.out]; rfl, HB3.out⟩
set_option maxRecDepth 100000 in
set_option maxHeartbeats 2000000 in
theorem fits_any (z : Bool) (hz : z = true ↔ FitA a) (hm : Am w G a Ap cp Ac cc) (hp : nsz a.path ≤ 100000) (hc : a.comms.length ≤ 100000) :
    Calls Tryz.prog 29 #[.agg (atc a Ap cp Ac cc).toArray] w fun e w' => e = .returned (.bool z) ∧ Below w.heap.size w w' := by
  have HSz : Hid ((Tryz.prog.info? 26).map (·.size) = some 9) := info_atr
  have HC : Hid ((atc a Ap cp Ac cc).length = 9) := rfl
  have hfl := fldN
  have hb1 : Below w.heap.size w (w.alloc (.cells (atc a Ap cp Ac cc).toArray 26)) := (Below.refl _ _).alloc (Nat.le_refl _) _
  have HB1 := Lib.hid hb1
  obtain ⟨zg, hzg⟩ := bool_of (GoodA a)
  have HG := Lib.hid (GoodP_any a Ap Ac cp cc G _ zg hzg (hm.bel hb1) hp (by omega))
  have HU : Hid (∀ w', Below (w.alloc (.cells (atc a Ap cp Ac cc).toArray 26)).heap.size (w.alloc (.cells (atc a Ap cp Ac cc).toArray 26)) w' → Bk w' w.heap.size 26 (atc a Ap cp Ac cc).toArray) := fun w' h => (Bk.new w _ _).below h (by simp)
  have HW := Lib.hid (fun w' => Well_any a Ap Ac cp cc w')
  have HR : Hid (zg = true → ∀ w', Below w.heap.size w w' → Calls Tryz.prog 37 #[.agg (atc a Ap cp Ac cc).toArray] w' fun e w2 => e = .returned (.int .i64 (roomA a : Int)) ∧ Below w'.heap.size w' w2) := fun hg w' h => Room_any a Ap Ac cp cc G w' (hm.bel h) hp hc (hzg.1 hg)
  have HZ : Hid (z = (zg && (decide (missC (missK a.has) = 0) && decide (5 ≤ (roomA a : Int))))) := by
    have hk : missC (missK a.has) = 0 ↔ missK a.has = 0 := by unfold missC; split <;> simp_all
    rw [Hid, Bool.eq_iff_iff, hz]
    unfold FitA
    simp only [Bool.and_eq_true, decide_eq_true_iff, hzg, hk]
    constructor <;> rintro ⟨h1, h2, h3⟩ <;> exact ⟨h1, h2, by omega⟩
  clear hm hb1 hz hzg
  unfold attr.RetN at HW
  generalize missC (missK a.has) = mc at *
  generalize missD (missK a.has) = md at *
  generalize roomA a = ra at *
  obtain ⟨g, hg⟩ : ∃ g, g = w.heap.size := ⟨_, rfl⟩
  obtain ⟨w1, hw1⟩ : ∃ w1, w1 = w.alloc (.cells (atc a Ap cp Ac cc).toArray 26) := ⟨_, rfl⟩
  rw [← hw1] at HB1 HU HG
  rw [← hg] at HU
  generalize atc a Ap cp Ac cc = cs at *
  have HK := Lib.hid (HU.out w1 (Below.refl _ _))
  go_enter Tryz.func29, Tryz.ntmps29
  go_upto_region 1 with fail
  rw [← hw1, ← hg]
  clear hw1 hg
  rcases zg with _ | _
  · have hz : z = false := HZ.out
    subst hz
    clear HZ
    go_wp2_with (refine wpList_loadBk rfl 26 (.tmp 1) rfl g (by rfl) 26 cs.toArray _ HK.out Tryz.underlying26 (by rfl) (by rw [List.size_toArray, HC.out]; exact HSz.out) ?_)
    refine HG.out.mono ?_
    rintro e w2 ⟨rfl, h⟩
    have HB2 := Lib.hid (HB1.out.trans (h.mono HB1.out.size))
    clear h
    go_wp2_with fail
    go_ret
    exact ⟨rfl, HB2.out⟩
  · have HR1 := Lib.hid (HR.out rfl)
    rcases hd : decide (mc = 0) with _ | _
    · rw [hd] at HZ
      have hz : z = false := HZ.out
      have hd2 : (mc == 0) = false := by rw [beq_eq_false_iff_ne]; simpa using hd
      subst hz
      clear HZ hd
      go_wp2_with (refine loadG (by rfl) 26 (.tmp 1) rfl g (by rfl) 26 cs.toArray _ (by first | exact HK2.out | exact HK.out) Tryz.underlying26 (by rfl) (by rw [List.size_toArray, HC.out]; exact HSz.out) ?_)
      refine HG.out.mono ?_
      rintro e w2 ⟨rfl, h⟩
      have HB2 := Lib.hid (HB1.out.trans (h.mono HB1.out.size))
      have HX2 := Lib.hid h
      have HK2 := Lib.hid (HU.out w2 h)
      clear h
      go_wp2_with (refine loadG (by rfl) 26 (.tmp 1) rfl g (by rfl) 26 cs.toArray _ (by first | exact HK2.out | exact HK.out) Tryz.underlying26 (by rfl) (by rw [List.size_toArray, HC.out]; exact HSz.out) ?_)
      refine (HW.out w2).mono ?_
      rintro e w3 ⟨An, cn, rfl, h1, h⟩
      have HB3 := Lib.hid (HB2.out.trans (h.mono HB2.out.size))
      clear h1 h
      go_wp2_with fail
      go_ret
      exact ⟨rfl, HB3.out⟩
    · rw [hd] at HZ
      have hm0 : mc = 0 := by simpa using hd
      subst hm0
      clear hd
      go_wp2_with (refine loadG (by rfl) 26 (.tmp 1) rfl g (by rfl) 26 cs.toArray _ (by first | exact HK3.out | exact HK2.out | exact HK.out) Tryz.underlying26 (by rfl) (by rw [List.size_toArray, HC.out]; exact HSz.out) ?_)
      refine HG.out.mono ?_
      rintro e w2 ⟨rfl, h⟩
      have HB2 := Lib.hid (HB1.out.trans (h.mono HB1.out.size))
      have HX2 := Lib.hid h
      have HK2 := Lib.hid (HU.out w2 h)
      clear h
      go_wp2_with (refine loadG (by rfl) 26 (.tmp 1) rfl g (by rfl) 26 cs.toArray _ (by first | exact HK3.out | exact HK2.out | exact HK.out) Tryz.underlying26 (by rfl) (by rw [List.size_toArray, HC.out]; exact HSz.out) ?_)
      refine (HW.out w2).mono ?_
      rintro e w3 ⟨An, cn, rfl, h1, h⟩
      have HB3 := Lib.hid (HB2.out.trans (h.mono HB2.out.size))
      have HX3 := Lib.hid (HX2.out.trans (h.mono HX2.out.size))
      have HK3 := Lib.hid (HU.out w3 HX3.out)
      clear h1 h
      go_wp2_with (refine loadG (by rfl) 26 (.tmp 1) rfl g (by rfl) 26 cs.toArray _ (by first | exact HK3.out | exact HK2.out | exact HK.out) Tryz.underlying26 (by rfl) (by rw [List.size_toArray, HC.out]; exact HSz.out) ?_)
      refine (HR1.out w3 HB3.out).mono ?_
      rintro e w4 ⟨rfl, h⟩
      have HB4 := Lib.hid (HB3.out.trans (h.mono HB3.out.size))
      clear h
      go_wp2_with fail
      go_ret
      exact ⟨by rw [HZ.out]; simp, HB4.out⟩
set_option maxRecDepth 100000 in
theorem Fits_any (z : Bool) (hz : z = true ↔ FitA a) (hm : Am w G a Ap cp Ac cc) (hp : nsz a.path ≤ 100000) (hc : a.comms.length ≤ 100000) :
    Calls Tryz.prog 10 #[.agg (atc a Ap cp Ac cc).toArray] w fun e w' => e = .returned (.bool z) ∧ Below w.heap.size w w' := by
  have HSz : Hid ((Tryz.prog.info? 26).map (·.size) = some 9) := info_atr
  have HC : Hid ((atc a Ap cp Ac cc).length = 9) := rfl
  have hb1 : Below w.heap.size w (w.alloc (.cells (atc a Ap cp Ac cc).toArray 26)) := (Below.refl _ _).alloc (Nat.le_refl _) _
  have HB1 := Lib.hid hb1
  have HF := Lib.hid (fits_any a Ap Ac cp cc G _ z hz (hm.bel hb1) hp hc)
  have HK := Lib.hid (Bk.new w 26 (atc a Ap cp Ac cc).toArray)
  clear hm hb1 hz
  generalize atc a Ap cp Ac cc = cs at *
  go_enter Tryz.func10, Tryz.ntmps10
  go_wp2_with (first
    | (refine wpList_loadBk rfl 26 (.tmp 1) rfl w.heap.size (by rfl) 26 cs.toArray _ HK.out Tryz.underlying26 (by rfl) (by rw [List.size_toArray, HC.out]; exact HSz.out) ?_)
    | (go_at_call 29; refine HF.out.mono ?_; rintro e w2 ⟨rfl, h⟩; have HB2 := Lib.hid (HB1.out.trans (h.mono HB1.out.size)); clear h))
  go_ret
  exact ⟨rfl, HB2.out⟩
end
end Go.Proofs.YtbljhjfaimnieaaGreat.pck
