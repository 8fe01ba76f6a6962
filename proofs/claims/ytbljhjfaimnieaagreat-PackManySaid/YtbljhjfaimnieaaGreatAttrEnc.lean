/- What attr.numbers, value and encoded return. Conditions as each lemma states. -/
import Derived.Test.YtbljhjfaimnieaaGreatAttrAll
import Derived.Test.YtbljhjfaimnieaaGreatOctLives
import Derived.Test.YtbljhjfaimnieaaGreatWriter
import Derived.Test.YtbljhjfaimnieaaGreatOwn
namespace Go.Proofs.YtbljhjfaimnieaaGreat.attr
open Go.RowKit Go.Proofs.YtbljhjfaimnieaaGreat.kit Go.Proofs.YtbljhjfaimnieaaGreat.mem Go.Proofs.YtbljhjfaimnieaaGreat.foot Go.Proofs.YtbljhjfaimnieaaGreat.nums Go.Proofs.YtbljhjfaimnieaaGreat.asn Go.Proofs.YtbljhjfaimnieaaGreat.pth Go.Proofs.YtbljhjfaimnieaaGreat.octet
set_option linter.unusedVariables false
set_option linter.unusedSimpArgs false
def n4s (l : List Nat) : List UInt8 := l.flatMap fun n : Nat => be4 (n : Int)
def segB (s : Sg) : List UInt8 := [octet.byteOf s.1, octet.byteOf (s.2.length : Int)] ++ n4s s.2
def pathB (p : List Sg) : List UInt8 := p.flatMap segB
def valB (a : Atr) (k : Nat) : List UInt8 :=
  match k with
  | 1 => [octet.byteOf a.orig]
  | 2 => pathB a.path
  | 3 => be4 a.hop
  | 4 => be4 a.med
  | 5 => be4 a.pref
  | 7 => be4 a.aas ++ be4 a.aid
  | 8 => n4s a.comms
  | _ => []
theorem n4s_len : ∀ l : List Nat, (n4s l).length = 4 * l.length
  | [] => rfl
  | n :: l => by
    have := n4s_len l
    simp only [n4s, List.flatMap_cons, List.length_append, List.length_cons] at this ⊢
    have h : (be4 (n : Int)).length = 4 := rfl
    omega
theorem n4s_app (a b : List Nat) : n4s (a ++ b) = n4s a ++ n4s b := by simp [n4s]
theorem pathB_app (a b : List Sg) : pathB (a ++ b) = pathB a ++ pathB b := by simp [pathB]
theorem pathB_len : ∀ p : List Sg, (pathB p).length ≤ 4 * nsz p
  | [] => by simp [pathB, nsz]
  | s :: p => by
    have ih := pathB_len p
    have h1 := n4s_len s.2
    simp only [pathB, nsz, List.flatMap_cons, List.map_cons, List.sum_cons, List.length_append, segB, List.length_cons, List.length_nil] at ih ⊢
    omega
/-- bytes handed back in new memory -/
def RetB (l : List UInt8) (w : World) (e : Ending) (w' : World) : Prop := ∃ A c, e = .returned (.slice A l.length c) ∧ foot.Own w' 5 1 A l.length c (bv l) ∧ (∀ k, sf A k → w.heap.size ≤ k) ∧ Below w.heap.size w w'
theorem RetB.bytes {l : List UInt8} {w : World} {e : Ending} {w' : World} (h : RetB l w e w') : RetBytes l w e w' := by
  obtain ⟨A, c, rfl, h1, h2, h3⟩ := h
  refine ⟨A, c, rfl, h1.nil, h1.cap, h1.max, ?_, h3, fun ad e => h2 _ ⟨ad, e, rfl⟩⟩
  have := h1.rg.rd
  exact this
theorem RetB.up {l : List UInt8} {w w2 w3 : World} {e : Ending} (hb : Below w.heap.size w w2) (h : RetB l w2 e w3) : RetB l w e w3 := by
  obtain ⟨A, c, h1, h2, h3, h4⟩ := h
  exact ⟨A, c, h1, h2, fun k hk => Nat.le_trans hb.size (h3 k hk), hb.trans (h4.mono hb.size)⟩
theorem BytesB_any (B b : Nat) (l : List UInt8) (w : World) (hw : Wtr w B b l) (hlen : l.length ≤ 1099511627776) :
    Calls Tryz.prog 124 #[.pointer (some ⟨b, 0, none⟩)] w (RetB l w) := by
  obtain ⟨h1, A, c, hk, ho⟩ := hw
  have k0 := hk.cell 0
  simp at k0
  obtain ⟨A', c', e, hA, _, _⟩ := own_form ho
  injection e with e1 e2 e3
  subst e1 e3
  have HC := Lib.hid (clone_own A c w.heap.size l w hlen hA (Nat.le_refl _) (Rd.of_own ho))
  clear hk ho hA hlen
  go_enter Tryz.func124, Tryz.ntmps124
  go_wp2_with fail
  refine HC.out.mono ?_
  rintro e w2 ⟨A', c', rfl, h2, h3⟩
  have HF : Hid (RetB l w (.returned (.slice A' l.length c')) w2) := ⟨A', c', rfl, (foot.Own.of_row h2).1, (foot.Own.of_row h2).2, h3⟩
  clear h2 h3
  go_wp2_with fail
  go_ret
  exact HF.out
set_option maxRecDepth 100000 in
set_option maxHeartbeats 2000000 in
theorem numbers_any (B b : Nat) (l0 : List UInt8) (A : Option Addr) (c : Nat) (ns : List Nat) (G : Foot) (w : World) (hw : Wtr w B b l0) (hlen : l0.length + 4 * ns.length ≤ 10000000) (h32 : W32 ns) (hs : Sn w G A c ns) (hG : ∀ k, G k → k < B) :
    Calls Tryz.prog 138 #[.pointer (some ⟨b, 0, none⟩), .slice A ns.length c] w fun e w' => e = .returned (.tuple #[]) ∧ Wtr w' B b (l0 ++ n4s ns) ∧ Below B w w' := by
  have HS := Lib.hid hs
  have HG := Lib.hid hG
  have HW := Lib.hid hw
  have H32 := Lib.hid h32
  have HU : Hid (∀ (l : List UInt8) (n : Nat) (w' : World), Wtr w' B b l → l.length ≤ 10000000 → n < 4294967296 → Calls Tryz.prog 139 #[.pointer (some ⟨b, 0, none⟩), .int .u32 n] w' fun e w2 => e = .returned (.pointer (some ⟨b, 0, none⟩)) ∧ Wtr w2 B b (l ++ be4 (n : Int)) ∧ Below B w' w2) := fun l n w' h1 h2 h3 => by
    refine (U32_any B b l n w' h1 (by omega) (by omega) (by omega)).mono ?_
    rintro e w2 ⟨rfl, k1, k2⟩
    exact ⟨rfl, k1, h1.only k2⟩
  clear hs hG hw h32
  go_enter Tryz.func138, Tryz.ntmps138
  go_wp2_with fail
  go_loopw [8] (fun v8 wr => ∃ i : Nat, i ≤ ns.length ∧ v8 = .int .i64 i ∧ Wtr wr B b (l0 ++ n4s (ns.take i)) ∧ Below B w wr) (fun v8 _ => ns.length - (intOf v8).toNat)
  case atStart => exact ⟨0, by omega, rfl, by simpa [n4s] using HW.out, Below.refl _ _⟩
  case round =>
    obtain ⟨i, hi, rfl, hwr, hb⟩ := hrel
    have HWr := Lib.hid hwr
    have HB := Lib.hid hb
    clear hwr hb
    by_cases hlt : i < ns.length
    · obtain ⟨p1, o1, rfl, g1, l1, c1⟩ := HS.out.us.at_ hlt
      have q1 := (HB.out.cell (p := ⟨p1, o1 + i, none⟩) (HG.out _ g1)).trans c1
      have hi1 : (i : Int) < (ns.length : Int) := by omega
      have hln : (l0 ++ n4s (ns.take i)).length ≤ 10000000 := by
        rw [List.length_append, n4s_len, List.length_take]
        omega
      have HUx := Lib.hid (HU.out _ ns[i] wr HWr.out hln (H32.out _ (List.getElem_mem hlt)))
      have HNe : Hid (l0 ++ n4s (ns.take i) ++ be4 (ns[i] : Int) = l0 ++ n4s (ns.take (i + 1))) := by
        rw [Hid, List.take_succ_eq_append_getElem hlt, n4s_app, List.append_assoc]
        simp [n4s]
      clear c1 l1 g1 hln
      generalize ns[i] = x at *
      go_wp2_with (go_at_call 139; refine HUx.out.mono ?_; rintro e w2 ⟨rfl, h1, h2⟩; have HW2 := Lib.hid h1; have HB2 := Lib.hid (HB.out.trans h2); clear h1 h2)
      go_roundw
      case rel => exact ⟨i + 1, by omega, by go_num, by rw [← HNe.out]; exact HW2.out, HB2.out⟩
      case measure => simp [intOf]; omega
    · obtain rfl : i = ns.length := by omega
      rw [List.take_length] at HWr
      go_wp2_with fail
      exact bodyPost_end (results_none rfl _ _ _) rfl ⟨rfl, HWr.out, HB.out⟩
end Go.Proofs.YtbljhjfaimnieaaGreat.attr
