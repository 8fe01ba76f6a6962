/- Attributes and ways as cells: what they say, how they are read. Conditions as each lemma states. Bits of an integer of 64 bits. Condition as each lemma states. What attr.has, hop, flags and ways return. Conditions as each lemma states. What attr.norm and attr.Norm return. Condition: at most 10^5 pieces and numbers together. What confluencelaw04.Few, confluencelaw08.Few and confluencelaw28.One return. Condition: at most 10^6 pieces. What confluencelaw28.One returns. No condition. What attr.same returns. Condition: at most 10^6 pieces and numbers together. What attr.good returns. Condition: at most 10^5 pieces and numbers together. -/
import Derived.Test.YtbljhjfaimnieaaGreatPathAll
import Derived.Test.YtbljhjfaimnieaaGreatGround
import Derived.Laws.Bits128
import Derived.Laws.Bits64
namespace Go.Proofs.YtbljhjfaimnieaaGreat.attr
open Go.RowKit Go.Joins Go.ChangeShapes Go.WideShapes Go.ChangeAt Go.Proofs.YtbljhjfaimnieaaGreat.kit Go.Proofs.YtbljhjfaimnieaaGreat.mem Go.Proofs.YtbljhjfaimnieaaGreat.foot Go.Proofs.YtbljhjfaimnieaaGreat.nums Go.Proofs.YtbljhjfaimnieaaGreat.asn Go.Proofs.YtbljhjfaimnieaaGreat.pth
set_option linter.unusedVariables false
set_option linter.unusedSimpArgs false
/-- what is told of a way -/
structure Atr where
  has : Int
  orig : Int
  path : List Sg
  hop : Int
  med : Int
  pref : Int
  aas : Int
  aid : Int
  comms : List Nat
/-- its cells -/
def atc (a : Atr) (Ap : Option Addr) (cp : Nat) (Ac : Option Addr) (cc : Nat) : List Value :=
  [.int .i64 a.has, .int .i64 a.orig, .slice Ap a.path.length cp, .int .u32 a.hop, .int .u32 a.med, .int .u32 a.pref, .int .u32 a.aas, .int .u32 a.aid, .slice Ac a.comms.length cc]
structure Awf (a : Atr) : Prop where
  has : (Lit.int .i64 a.has).wf = true
  orig : (Lit.int .i64 a.orig).wf = true
  hop : (Lit.int .u32 a.hop).wf = true
  med : (Lit.int .u32 a.med).wf = true
  pref : (Lit.int .u32 a.pref).wf = true
  aas : (Lit.int .u32 a.aas).wf = true
  aid : (Lit.int .u32 a.aid).wf = true
/-- a slice of pieces as it is read -/
structure Sp (w : World) (G : Foot) (A : Option Addr) (c : Nat) (l : List Sg) : Prop where
  nil : A = none → c = 0
  cap : l.length ≤ c
  max : c ≤ maxLen
  els : Els 2 rSeg w G A l
theorem Sp.bel {w w' : World} {G : Foot} {A : Option Addr} {c : Nat} {l : List Sg} (h : Sp w G A c l) (hb : Below w.heap.size w w') : Sp w' G A c l := ⟨h.nil, h.cap, h.max, h.els.bel keeps_seg hb⟩
theorem Sp.chg {w w' : World} {F G : Foot} {A : Option Addr} {c : Nat} {l : List Sg} (h : Sp w G A c l) (hc : Chg F w w') (hd : ∀ k, k < w.heap.size → G k → ¬ F k) : Sp w' G A c l := ⟨h.nil, h.cap, h.max, h.els.chg keeps_seg hc hd⟩
theorem Sp.mono {w : World} {G H : Foot} {A : Option Addr} {c : Nat} {l : List Sg} (h : Sp w G A c l) (hG : ∀ k, k < w.heap.size → G k → H k) : Sp w H A c l := ⟨h.nil, h.cap, h.max, h.els.mono keeps_seg hG⟩
theorem Sp.empty (w : World) (G : Foot) : Sp w G none 0 [] := ⟨fun _ => rfl, Nat.le_refl _, Nat.zero_le _, Els.nil_ _ _ _⟩
theorem Sp.of_lst {B : Foot} {w w' : World} {A : Option Addr} {c : Nat} {vs : List Value} {l : List Sg} (h : Lst 2 rSeg 67 B w w' A l.length c vs l) : Sp w' (fun k => w.heap.size ≤ k ∨ B k) A c l := ⟨h.acc.own.nil, h.acc.own.cap, h.acc.own.max, h.els keeps_seg⟩
theorem Sn.chg {w w' : World} {F G : Foot} {A : Option Addr} {c : Nat} {l : List Nat} (h : Sn w G A c l) (hc : Chg F w w') (hd : ∀ k, k < w.heap.size → G k → ¬ F k) : Sn w' G A c l := ⟨h.nil, h.cap, h.max, Rg.chg h.us hc hd⟩
theorem Sn.mono {w : World} {G H : Foot} {A : Option Addr} {c : Nat} {l : List Nat} (h : Sn w G A c l) (hG : ∀ k, k < w.heap.size → G k → H k) : Sn w H A c l := ⟨h.nil, h.cap, h.max, Rg.mono h.us hG⟩
/-- the memory behind the cells -/
structure Am (w : World) (G : Foot) (a : Atr) (Ap : Option Addr) (cp : Nat) (Ac : Option Addr) (cc : Nat) : Prop where
  wf : Awf a
  sp : Sp w G Ap cp a.path
  sn : Sn w G Ac cc a.comms
  w32 : W32 a.comms
section
variable {w w' : World} {F G H : Foot} {a : Atr} {Ap Ac : Option Addr} {cp cc : Nat}
theorem Am.bel (h : Am w G a Ap cp Ac cc) (hb : Below w.heap.size w w') : Am w' G a Ap cp Ac cc := ⟨h.wf, h.sp.bel hb, h.sn.bel hb, h.w32⟩
theorem Am.chg (h : Am w G a Ap cp Ac cc) (hc : Chg F w w') (hd : ∀ k, k < w.heap.size → G k → ¬ F k) : Am w' G a Ap cp Ac cc := ⟨h.wf, h.sp.chg hc hd, Sn.chg h.sn hc hd, h.w32⟩
theorem Am.mono (h : Am w G a Ap cp Ac cc) (hG : ∀ k, k < w.heap.size → G k → H k) : Am w H a Ap cp Ac cc := ⟨h.wf, h.sp.mono hG, Sn.mono h.sn hG, h.w32⟩
theorem atc_one : ∀ u ∈ atc a Ap cp Ac cc, u.oneCell' = true := by
  intro u hu
  simp only [atc, List.mem_cons, List.not_mem_nil, or_false] at hu
  rcases hu with rfl | rfl | rfl | rfl | rfl | rfl | rfl | rfl | rfl <;> rfl
end
/-- attributes handed back, what they lead to in new memory -/
def RetA (a : Atr) (w : World) (e : Ending) (w' : World) : Prop := ∃ Ap cp Ac cc, e = .returned (.agg (atc a Ap cp Ac cc).toArray) ∧ Am w' (fun k => w.heap.size ≤ k) a Ap cp Ac cc ∧ Below w.heap.size w w'
def zeroA : Atr := ⟨0, 0, [], 0, 0, 0, 0, 0, []⟩
theorem Am.zero (w : World) (G : Foot) : Am w G zeroA none 0 none 0 := ⟨by constructor <;> decide, Sp.empty w G, Sn.empty w G, fun n hn => by cases hn⟩
end Go.Proofs.YtbljhjfaimnieaaGreat.attr

namespace Go.Proofs.YtbljhjfaimnieaaGreat.attr
open Go
theorem and_pow (k n : Nat) : n &&& 2 ^ k = n / 2 ^ k % 2 * 2 ^ k := by
  apply Nat.eq_of_testBit_eq
  intro i
  rw [Nat.testBit_and, Nat.testBit_two_pow, Nat.testBit_mul_two_pow]
  by_cases h : k = i
  · subst h
    simp only [decide_true, Bool.and_true, Nat.sub_self, Nat.le_refl, Bool.true_and]
    rw [Nat.testBit_zero, Nat.testBit_eq_decide_div_mod_eq]
    simp
  · by_cases h2 : k ≤ i
    · have : (n / 2 ^ k % 2).testBit (i - k) = false := by
        apply Nat.testBit_lt_two_pow
        have h3 : n / 2 ^ k % 2 < 2 := Nat.mod_lt _ (by omega)
        have h4 : 2 ^ 1 ≤ 2 ^ (i - k) := Nat.pow_le_pow_right (by omega) (by omega)
        omega
      simp [h, this]
    · simp [h, h2]
/-- whether the bit is there -/
def bitI (h : Int) (k : Nat) : Bool := decide (h / 2 ^ k % 2 = 1)
theorem i64_and_pow (h : Int) (k : Nat) (hk : k < 62) : bits .and .i64 h (2 ^ k) = if bitI h k = true then 2 ^ k else 0 := by
  have h1 : (BitVec.ofInt 64 (2 ^ k)).toNat = 2 ^ k := by
    rw [BitVec.toNat_ofInt]
    have h2 : (2 : Nat) ^ k < 2 ^ 62 := Nat.pow_lt_pow_right (by omega) hk
    have : ((2 : Int) ^ k) = ((2 ^ k : Nat) : Int) := by simp
    rw [this]
    generalize (2 : Nat) ^ k = p at *
    omega
  have key : (BitVec.ofInt 64 h &&& BitVec.ofInt 64 (2 ^ k)).toNat = (h % ((2 ^ 64 : Nat) : Int)).toNat / 2 ^ k % 2 * 2 ^ k := by
    rw [BitVec.toNat_and, BitVec.toNat_ofInt, h1, and_pow]
  show IntKind.i64.wrap ((BitVec.ofInt 64 h &&& BitVec.ofInt 64 (2 ^ k)).toNat : Nat) = _
  rw [key]
  have e1 : (((h % ((2 ^ 64 : Nat) : Int)).toNat / 2 ^ k : Nat) : Int) % 2 = h / 2 ^ k % 2 := by
    have e2 : (((h % ((2 ^ 64 : Nat) : Int)).toNat / 2 ^ k : Nat) : Int) = h % ((2 ^ 64 : Nat) : Int) / ((2 ^ k : Nat) : Int) := by
      rw [Int.natCast_ediv, Int.toNat_of_nonneg (Int.emod_nonneg _ (by decide))]
    rw [e2]
    have e3 : ((2 ^ 64 : Nat) : Int) = ((2 ^ k : Nat) : Int) * (2 * ((2 ^ (63 - k) : Nat) : Int)) := by
      rw [← Int.mul_assoc]
      have : (2 : Nat) ^ 64 = 2 ^ k * 2 * 2 ^ (63 - k) := by
        rw [← Nat.pow_succ, ← Nat.pow_add]
        congr 1
        omega
      rw [this]
      simp
    have e4 : h / ((2 ^ k : Nat) : Int) = h % ((2 ^ 64 : Nat) : Int) / ((2 ^ k : Nat) : Int) + 2 * (((2 ^ (63 - k) : Nat) : Int) * (h / ((2 ^ 64 : Nat) : Int))) := by
      have e5 : h = h % ((2 ^ 64 : Nat) : Int) + ((2 ^ k : Nat) : Int) * (2 * (((2 ^ (63 - k) : Nat) : Int) * (h / ((2 ^ 64 : Nat) : Int)))) := by
        have := Int.emod_add_mul_ediv h ((2 ^ 64 : Nat) : Int)
        conv => lhs; rw [← this]
        congr 1
        conv => lhs; rw [e3]
        rw [← e3]
        grind
      conv => lhs; rw [e5]
      rw [Int.add_mul_ediv_left _ _ (by have : 0 < (2 : Nat) ^ k := Nat.pow_pos (by omega); generalize (2 : Nat) ^ k = p at *; omega)]
    have e6 : (2 : Int) ^ k = ((2 ^ k : Nat) : Int) := by simp
    rw [e6, e4]
    omega
  unfold bitI
  have hp : (2 : Nat) ^ k < 2 ^ 62 := Nat.pow_lt_pow_right (by omega) hk
  have e6 : (2 : Int) ^ k = ((2 ^ k : Nat) : Int) := by simp
  rcases Nat.mod_two_eq_zero_or_one ((h % ((2 ^ 64 : Nat) : Int)).toNat / 2 ^ k) with h0 | h0
  · have : ¬ h / 2 ^ k % 2 = 1 := by rw [← e1]; omega
    rw [h0]
    simp [this, IntKind.wrap_i64]
  · have : h / 2 ^ k % 2 = 1 := by rw [← e1]; omega
    rw [h0, Nat.one_mul, IntKind.wrap_i64]
    simp only [this, decide_true, if_true]
    rw [e6]
    omega
theorem i64_and510 (n : Int) : bits .and .i64 n 510 = n % 512 - n % 2 := by
  have h1 : (BitVec.ofInt 64 510).toNat = 510 := by decide
  have a1 : ∀ m : Nat, m &&& 510 = m % 512 - m % 2 := by
    intro m
    have e : m &&& 510 = (m &&& 511) &&& 510 := by rw [Nat.and_assoc]; rfl
    have e2 : m &&& 511 = m % 512 := Nat.and_two_pow_sub_one_eq_mod m 9
    rw [e, e2]
    have h3 : m % 512 < 512 := Nat.mod_lt _ (by omega)
    have h4 : m % 2 = m % 512 % 2 := by omega
    rw [h4]
    generalize m % 512 = r at *
    have : ∀ r : Fin 512, r.val &&& 510 = r.val - r.val % 2 := by decide +kernel
    exact this ⟨r, h3⟩
  have key : (BitVec.ofInt 64 n &&& BitVec.ofInt 64 510).toNat = (n % ((2 ^ 64 : Nat) : Int)).toNat % 512 - (n % ((2 ^ 64 : Nat) : Int)).toNat % 2 := by
    rw [BitVec.toNat_and, BitVec.toNat_ofInt, h1, a1]
  show IntKind.i64.wrap ((BitVec.ofInt 64 n &&& BitVec.ofInt 64 510).toNat : Nat) = _
  rw [key, IntKind.wrap_i64]
  omega
end Go.Proofs.YtbljhjfaimnieaaGreat.attr

namespace Go.Proofs.YtbljhjfaimnieaaGreat.attr
open Go.RowKit Go.Proofs.YtbljhjfaimnieaaGreat.kit Go.Proofs.YtbljhjfaimnieaaGreat.mem Go.Proofs.YtbljhjfaimnieaaGreat.foot Go.Proofs.YtbljhjfaimnieaaGreat.nums Go.Proofs.YtbljhjfaimnieaaGreat.asn Go.Proofs.YtbljhjfaimnieaaGreat.pth
set_option linter.unusedVariables false
set_option linter.unusedSimpArgs false
theorem has_any (a : Atr) (Ap Ac : Option Addr) (cp cc : Nat) (k : Nat) (hk : k ≤ 8) (w : World) :
    Calls Tryz.prog 79 #[.agg (atc a Ap cp Ac cc).toArray, .int .i64 (k : Int)] w fun e w' => e = .returned (.bool (bitI a.has k)) ∧ Below w.heap.size w w' := by
  have HB : Hid (Below w.heap.size w (w.alloc (.cells (atc a Ap cp Ac cc).toArray 26))) := (Below.refl _ _).alloc (Nat.le_refl _) _
  have HK : Hid (Bk (w.alloc (.cells (atc a Ap cp Ac cc).toArray 26)) w.heap.size 26 (atc a Ap cp Ac cc).toArray) := Bk.new w _ _
  have q0 : (w.alloc (.cells (atc a Ap cp Ac cc).toArray 26)).cell? ⟨w.heap.size, 0, none⟩ = some (.int .i64 a.has) := by rw [HK.out.cell]; rfl
  obtain ⟨b, hb⟩ : ∃ b, b = bitI a.has k := ⟨_, rfl⟩
  have hp := i64_and_pow a.has k (by omega)
  have hsh : wrap64 (2 ^ min k 64 : Int) = 2 ^ k := by
    have : ∀ k : Fin 9, wrap64 (2 ^ min k.val 64 : Int) = 2 ^ k.val := by decide +kernel
    exact this ⟨k, by omega⟩
  have hpos : ¬ (2 : Int) ^ k = 0 := by
    have : ∀ k : Fin 9, ¬ (2 : Int) ^ k.val = 0 := by decide +kernel
    exact this ⟨k, by omega⟩
  rw [← hb] at hp ⊢
  clear hb hk
  generalize atc a Ap cp Ac cc = cs at *
  generalize a.has = h at *
  obtain ⟨w1, hw1⟩ : ∃ w1, w1 = w.alloc (.cells cs.toArray 26) := ⟨_, rfl⟩
  rw [← hw1] at HB HK q0
  have hb2 : (bits BinOp.and IntKind.i64 h (2 ^ k) != 0) = b := by
    rw [hp]
    cases b <;> simp [hpos]
  have HE : Hid ((bits BinOp.and IntKind.i64 h (wrap64 (2 ^ min k 64)) != 0) = b) := by rw [Hid, hsh]; exact hb2
  clear hp hpos hsh hb2
  go_enter Tryz.func79, Tryz.ntmps79
  go_upto_region 1 with fail
  rw [← hw1]
  clear hw1
  go_quiet (fail)
  go_wp2_with fail
  go_ret
  exact ⟨by rw [← HE.out]; rfl, below_drewN HB.out _⟩
def hopB (n : Int) : Bool := (n != 0) && (n != 4294967295) && (n / 268435456 != 14)
theorem hop_any (n : Int) (hn : (Lit.int .u32 n).wf = true) (w : World) : Calls Tryz.prog 102 #[.int .u32 n] w fun e w' => e = .returned (.bool (hopB n)) ∧ w = w' := by
  have hw := wf_u32 hn
  obtain ⟨b, hb⟩ : ∃ b, b = hopB n := ⟨_, rfl⟩
  rw [← hb]
  unfold hopB at hb
  by_cases h0 : n = 0
  · subst h0
    simp at hb
    subst hb
    go_enter Tryz.func102, Tryz.ntmps102
    go_wp2_with fail
    go_ret
    exact ⟨rfl, rfl⟩
  · have d0 : (n == 0) = false := by rw [beq_eq_false_iff_ne]; exact h0
    have d1 : (n != 0) = true := by simp [h0]
    by_cases h1 : n = 4294967295
    · subst h1
      simp at hb
      subst hb
      go_enter Tryz.func102, Tryz.ntmps102
      go_wp2_with fail
      go_ret
      exact ⟨rfl, rfl⟩
    · have e0 : (n == 4294967295) = false := by rw [beq_eq_false_iff_ne]; exact h1
      have e1 : (n != 4294967295) = true := by simp [h1]
      have HBb : Hid (b = (n / 268435456 != 14)) := by rw [Hid, hb, d1, e1]; rfl
      clear hb
      go_enter Tryz.func102, Tryz.ntmps102
      go_wp2_with fail
      go_ret
      exact ⟨by rw [HBb.out]; rfl, rfl⟩
/-- a type's flags -/
def flg (k : Int) : Int := if k = 4 then 128 else if k = 7 ∨ k = 8 then 192 else if 1 ≤ k ∧ k ≤ 6 then 64 else 0
set_option maxHeartbeats 1000000 in
theorem flags_any (k : Int) (w : World) : Calls Tryz.prog 121 #[.int .i64 k] w fun e w' => e = .returned (.int .i64 (flg k)) ∧ w = w' := by
  by_cases hk : 1 ≤ k ∧ k ≤ 8
  · have h : k = 1 ∨ k = 2 ∨ k = 3 ∨ k = 4 ∨ k = 5 ∨ k = 6 ∨ k = 7 ∨ k = 8 := by omega
    clear hk
    rcases h with rfl | rfl | rfl | rfl | rfl | rfl | rfl | rfl
    all_goals
      go_enter Tryz.func121, Tryz.ntmps121
      go_wp2_with fail
      go_ret
      exact ⟨rfl, rfl⟩
  · have hz : flg k = 0 := by unfold flg; rw [if_neg (by omega), if_neg (by omega), if_neg (by omega)]
    rw [hz]
    have d1 : (k == 1) = false := by rw [beq_eq_false_iff_ne]; omega
    have d2 : (k == 2) = false := by rw [beq_eq_false_iff_ne]; omega
    have d3 : (k == 3) = false := by rw [beq_eq_false_iff_ne]; omega
    have d4 : (k == 4) = false := by rw [beq_eq_false_iff_ne]; omega
    have d5 : (k == 5) = false := by rw [beq_eq_false_iff_ne]; omega
    have d6 : (k == 6) = false := by rw [beq_eq_false_iff_ne]; omega
    have d7 : (k == 7) = false := by rw [beq_eq_false_iff_ne]; omega
    have d8 : (k == 8) = false := by rw [beq_eq_false_iff_ne]; omega
    clear hz hk
    go_enter Tryz.func121, Tryz.ntmps121
    go_wp2_with fail
    go_ret
    exact ⟨rfl, rfl⟩
/-- a path may be told -/
def WaysS (l : List Sg) : Prop := GoodS l ∧ (allP l).length ≤ 2000
set_option maxRecDepth 100000 in
set_option maxHeartbeats 2000000 in
theorem ways_any (A : Option Addr) (c : Nat) (l : List Sg) (G : Foot) (w : World) (z : Bool) (hz : z = true ↔ WaysS l) (hl : nsz l ≤ 100000) (hs : Els 2 rSeg w G A l) :
    Calls Tryz.prog 103 #[.slice A l.length c] w fun e w' => e = .returned (.bool z) ∧ Below w.heap.size w w' := by
  have HS := Lib.hid hs
  have HZ := Lib.hid hz
  have hll := nsz_len l
  have HG : Hid (∀ (g : Bool) (w' : World), (g = true ↔ GoodS l) → Below w.heap.size w w' → Calls Tryz.prog 131 #[.slice A l.length c] w' fun e w2 => e = .returned (.bool g) ∧ Below w'.heap.size w' w2) := fun g w' hg hb => Good_any A c l G w' g hg hl (hs.bel keeps_seg hb)
  obtain ⟨g, hg⟩ : ∃ g : Bool, g = true ↔ GoodS l := by
    rcases Classical.em (GoodS l) with h | h
    · exact ⟨true, by simp [h]⟩
    · exact ⟨false, by simp [h]⟩
  have HGg := Lib.hid hg
  have hal := allP_sz l
  clear hs hz hg
  go_enter Tryz.func103, Tryz.ntmps103
  go_wp2_with fail
  go_loopw [3, 8] (fun v3 v8 wr => ∃ i n : Nat, i ≤ l.length ∧ v8 = .int .i64 i ∧ v3 = .int .i64 n ∧ n = (allP (l.take i)).length ∧ Below w.heap.size w wr) (fun _ v8 _ => l.length - (intOf v8).toNat)
  case atStart => exact ⟨0, 0, by omega, rfl, rfl, rfl, Below.refl _ _⟩
  case round =>
    obtain ⟨i, n, hi, rfl, rfl, hn, hb⟩ := hrel
    have HB := Lib.hid hb
    have HN := Lib.hid hn
    have hn1 := allP_sz (l.take i)
    have hn2 := nsz_take l i
    have hn3 : n ≤ 100000 := by omega
    clear hb hn hn1 hn2
    by_cases hlt : i < l.length
    · have hsz := nsz_at hlt
      obtain ⟨b, off, cs, rfl, _, hbl, hrr, hc⟩ := HS.out.at_ keeps_seg hlt
      obtain ⟨A1, c1, rfl, _, _, _, _, _, _⟩ := seg_at hrr
      have q0 := (HB.out.cell (p := ⟨b, off + i * 2 + 0, none⟩) hbl).trans (hc 0 _ rfl)
      have q1 := (HB.out.cell (p := ⟨b, off + i * 2 + 1, none⟩) hbl).trans (hc 1 _ rfl)
      rw [Nat.add_zero] at q0
      have hi1 : (i : Int) < (l.length : Int) := by omega
      have HBa : Hid (Below w.heap.size w (wr.alloc (.cells #[.int .i64 l[i].1, .slice A1 l[i].2.length c1] 67))) := HB.out.alloc HB.out.size _
      have HN2 : Hid (n + l[i].2.length = (allP (l.take (i + 1))).length) := by rw [Hid, allP_take hlt, List.length_append, HN.out]
      have hn4 : l[i].2.length ≤ 100000 := by omega
      clear hc hrr hbl hsz hal
      generalize l[i].1 = k1 at *
      generalize l[i].2.length = m at *
      go_wp2_with fail
      go_roundw
      case rel => exact ⟨i + 1, n + m, by omega, by go_num, by go_num, HN2.out, HBa.out⟩
      case measure => simp [intOf]; omega
    · obtain rfl : i = l.length := by omega
      rw [List.take_length] at HN
      have HGa := Lib.hid (HG.out g wr HGg.out HB.out)
      by_cases h2 : n ≤ 2000
      · have d2 : decide ((n : Int) ≤ 2000) = true := by rw [decide_eq_true_iff]; omega
        have HZg : Hid (z = g) := by
          rw [Hid, Bool.eq_iff_iff, HZ.out, HGg.out]
          exact ⟨fun h => h.1, fun h => ⟨h, by rw [← HN.out]; exact h2⟩⟩
        have hcs : g = true ∨ g = false := by cases g <;> simp
        rcases hcs with rfl | rfl
        all_goals
          go_wp2_with (go_at_call 131; refine HGa.out.mono ?_; rintro e w2 ⟨rfl, hb2⟩; have HB2 := Lib.hid (HB.out.trans (hb2.mono HB.out.size)); clear hb2)
          go_ret
          exact ⟨by rw [HZg.out]; rfl, HB2.out⟩
      · have d2 : decide ((n : Int) ≤ 2000) = false := by rw [decide_eq_false_iff_not]; omega
        have HZf : Hid (z = false) := by
          rw [Hid, ← Bool.not_eq_true, HZ.out]
          intro h
          have := h.2
          rw [← HN.out] at this
          omega
        have hcs : g = true ∨ g = false := by cases g <;> simp
        rcases hcs with rfl | rfl
        all_goals
          go_wp2_with (go_at_call 131; refine HGa.out.mono ?_; rintro e w2 ⟨rfl, hb2⟩; have HB2 := Lib.hid (HB.out.trans (hb2.mono HB.out.size)); clear hb2)
          go_ret
          exact ⟨by rw [HZf.out]; rfl, HB2.out⟩
end Go.Proofs.YtbljhjfaimnieaaGreat.attr

namespace Go.Proofs.YtbljhjfaimnieaaGreat.attr
open Go.RowKit Go.Proofs.YtbljhjfaimnieaaGreat.kit Go.Proofs.YtbljhjfaimnieaaGreat.mem Go.Proofs.YtbljhjfaimnieaaGreat.foot Go.Proofs.YtbljhjfaimnieaaGreat.nums Go.Proofs.YtbljhjfaimnieaaGreat.asn Go.Proofs.YtbljhjfaimnieaaGreat.pth
set_option linter.unusedVariables false
set_option linter.unusedSimpArgs false
def selI (b : Bool) (x : Int) : Int := bif b then x else 0
def selL {α : Type} (b : Bool) (l : List α) : List α := bif b then l else []
/-- attributes in their own form -/
def normA (a : Atr) : Atr := ⟨a.has % 512 - a.has % 2, selI (bitI a.has 1) a.orig, selL (bitI a.has 2) (normS a.path), selI (bitI a.has 3) a.hop, selI (bitI a.has 4) a.med, selI (bitI a.has 5) a.pref, selI (bitI a.has 7) a.aas, selI (bitI a.has 7) a.aid, selL (bitI a.has 8) (setN a.comms)⟩
theorem info_atr : (Tryz.prog.info? 26).map (·.size) = some 9 := by kernel_rfl
def zeroC : List Value := [.int .i64 0, .int .i64 0, .slice none 0 0, .int .u32 0, .int .u32 0, .int .u32 0, .int .u32 0, .int .u32 0, .slice none 0 0]
/-- the argument, the result, what is being made -/
structure NX (w : World) (g1 g2 g3 : Nat) (cs : List Value) (r : Atr) (Ap : Option Addr) (cp : Nat) (Ac : Option Addr) (cc : Nat) (wx : World) : Prop where
  a : Bk wx g1 26 cs.toArray
  z : Bk wx g2 26 zeroC.toArray
  o : Bk wx g3 26 (atc r Ap cp Ac cc).toArray
  m : Am wx (fun k => g3 < k) r Ap cp Ac cc
  b : Below w.heap.size w wx
  l1 : w.heap.size ≤ g1
  l2 : g1 < g2
  l3 : g2 < g3
def NS (w : World) (g1 g2 g3 : Nat) (cs : List Value) (r : Atr) (wx : World) : Prop := ∃ Ap cp Ac cc, NX w g1 g2 g3 cs r Ap cp Ac cc wx
section
variable {w wx wy : World} {g1 g2 g3 : Nat} {cs : List Value} {r r' : Atr} {Ap Ac Ap' Ac' : Option Addr} {cp cc cp' cc' : Nat}
theorem NX.bel (h : NX w g1 g2 g3 cs r Ap cp Ac cc wx) (hb : Below wx.heap.size wx wy) : NX w g1 g2 g3 cs r Ap cp Ac cc wy :=
  ⟨h.a.below hb h.a.lt, h.z.below hb h.z.lt, h.o.below hb h.o.lt, h.m.bel hb, h.b.trans (hb.mono h.b.size), h.l1, h.l2, h.l3⟩
/-- a cell of it written -/
theorem NX.put (h : NX w g1 g2 g3 cs r Ap cp Ac cc wx) (j : Nat) (u : Value) (hj : (atc r Ap cp Ac cc).toArray.setIfInBounds j u = (atc r' Ap' cp' Ac' cc').toArray) (hm : Am wx (fun k => g3 < k) r' Ap' cp' Ac' cc') : NX w g1 g2 g3 cs r' Ap' cp' Ac' cc' (wx.setCell ⟨g3, j, none⟩ u) := by
  have hc : Chg (fun k => k = g3) wx (wx.setCell ⟨g3, j, none⟩ u) := (Chg.refl (fun k => k = g3) wx).put (p := ⟨g3, j, none⟩) (.inl rfl) u
  have h1 := h.l1
  have h2 := h.l2
  have h3 := h.l3
  refine ⟨h.a.chg hc (by omega), h.z.chg hc (by omega), ?_, hm.chg hc (fun k _ hk e => by omega), h.b.trans (hc.below (fun k e => by omega) h.b.size), h1, h2, h3⟩
  rw [← hj]
  exact h.o.put j u
end
set_option maxRecDepth 100000 in
set_option maxHeartbeats 8000000 in
theorem norm_any (a : Atr) (Ap Ac : Option Addr) (cp cc : Nat) (G : Foot) (w : World) (hm : Am w G a Ap cp Ac cc) (hp : nsz a.path ≤ 100000) (hcm : a.comms.length ≤ 1000000) :
    Calls Tryz.prog 71 #[.agg (atc a Ap cp Ac cc).toArray] w (RetA (normA a) w) := by
  have HM := Lib.hid hm
  have HHas : Hid (∀ (k : Nat) (w' : World), k ≤ 8 → Calls Tryz.prog 79 #[.agg (atc a Ap cp Ac cc).toArray, .int .i64 (k : Int)] w' fun e w2 => e = .returned (.bool (bitI a.has k)) ∧ Below w'.heap.size w' w2) := fun k w' hk => has_any a Ap Ac cp cc k hk w'
  have HPn : Hid (∀ w', Below w.heap.size w w' → Calls Tryz.prog 94 #[.slice Ap a.path.length cp] w' (RetP (normS a.path) w')) := fun w' hb => Norm_any Ap cp a.path G w' (by omega) (hm.sp.els.bel keeps_seg hb)
  have HSe : Hid (∀ w', Below w.heap.size w w' → Calls Tryz.prog 95 #[.slice Ac a.comms.length cc] w' fun e w2 => RetNums (setN a.comms) w' e w2) := fun w' hb => by
    refine (Set_any Ac cc a.comms G w' (by omega) hm.sn.nil hm.sn.cap hm.sn.max (Rg.bel hm.sn.us hb)).mono ?_
    rintro e w2 ⟨t, ht, _, hr⟩
    obtain rfl := ht.eq (setN_ok a.comms)
    exact hr
  have HW := Lib.hid hm.wf
  have HW32 := Lib.hid hm.w32
  have HSz : Hid ((Tryz.prog.info? 26).map (·.size) = some 9) := info_atr
  obtain ⟨b1, hb1⟩ : ∃ b, b = bitI a.has 1 := ⟨_, rfl⟩
  have HH1 := Lib.hid (fun w' => HHas.out 1 w' (by omega))
  rw [← hb1] at HH1
  obtain ⟨b2, hb2⟩ : ∃ b, b = bitI a.has 2 := ⟨_, rfl⟩
  have HH2 := Lib.hid (fun w' => HHas.out 2 w' (by omega))
  rw [← hb2] at HH2
  obtain ⟨b3, hb3⟩ : ∃ b, b = bitI a.has 3 := ⟨_, rfl⟩
  have HH3 := Lib.hid (fun w' => HHas.out 3 w' (by omega))
  rw [← hb3] at HH3
  obtain ⟨b4, hb4⟩ : ∃ b, b = bitI a.has 4 := ⟨_, rfl⟩
  have HH4 := Lib.hid (fun w' => HHas.out 4 w' (by omega))
  rw [← hb4] at HH4
  obtain ⟨b5, hb5⟩ : ∃ b, b = bitI a.has 5 := ⟨_, rfl⟩
  have HH5 := Lib.hid (fun w' => HHas.out 5 w' (by omega))
  rw [← hb5] at HH5
  obtain ⟨b7, hb7⟩ : ∃ b, b = bitI a.has 7 := ⟨_, rfl⟩
  have HH7 := Lib.hid (fun w' => HHas.out 7 w' (by omega))
  rw [← hb7] at HH7
  obtain ⟨b8, hb8⟩ : ∃ b, b = bitI a.has 8 := ⟨_, rfl⟩
  have HH8 := Lib.hid (fun w' => HHas.out 8 w' (by omega))
  rw [← hb8] at HH8
  have HN : Hid (normA a = ⟨a.has % 512 - a.has % 2, selI b1 a.orig, selL b2 (normS a.path), selI b3 a.hop, selI b4 a.med, selI b5 a.pref, selI b7 a.aas, selI b7 a.aid, selL b8 (setN a.comms)⟩) := by rw [Hid, hb1, hb2, hb3, hb4, hb5, hb7, hb8]; rfl
  clear hb1 hb2 hb3 hb4 hb5 hb7 hb8 HHas hm
  obtain ⟨N, hN⟩ : ∃ N, N = normA a := ⟨_, rfl⟩
  have HNq := Lib.hid (hN.trans HN.out)
  rw [← hN]
  clear hN HN
  obtain ⟨Q, hQ⟩ : ∃ Q, Q = RetA N w := ⟨_, rfl⟩
  have HQ : Hid (∀ (Ap : Option Addr) (cp : Nat) (Ac : Option Addr) (cc : Nat) (w' : World), Am w' (fun k => w.heap.size + 3 ≤ k) N Ap cp Ac cc → Below w.heap.size w w' → Q (.returned (.agg (atc N Ap cp Ac cc).toArray)) w') := fun Ap cp Ac cc w' h1 h2 => by
    rw [hQ]
    exact ⟨Ap, cp, Ac, cc, rfl, h1.mono (fun k _ hk => by omega), h2⟩
  rw [← hQ]
  clear hQ
  have hand := i64_and510 a.has
  obtain ⟨h0, hh0⟩ : ∃ h0, h0 = a.has % 512 - a.has % 2 := ⟨_, rfl⟩
  rw [← hh0] at hand
  have HH0 := Lib.hid hh0
  clear hh0
  obtain ⟨cs, hcs⟩ : ∃ cs, cs = atc a Ap cp Ac cc := ⟨_, rfl⟩
  have HC : Hid (cs.toArray[0]? = some (.int .i64 a.has) ∧ cs.toArray[1]? = some (.int .i64 a.orig) ∧ cs.toArray[2]? = some (.slice Ap a.path.length cp) ∧ cs.toArray[3]? = some (.int .u32 a.hop) ∧ cs.toArray[4]? = some (.int .u32 a.med) ∧ cs.toArray[5]? = some (.int .u32 a.pref) ∧ cs.toArray[6]? = some (.int .u32 a.aas) ∧ cs.toArray[7]? = some (.int .u32 a.aid) ∧ cs.toArray[8]? = some (.slice Ac a.comms.length cc)) := by rw [hcs]; exact ⟨rfl, rfl, rfl, rfl, rfl, rfl, rfl, rfl, rfl⟩
  have HCl : Hid (cs.length = 9) := by rw [hcs]; rfl
  rw [← hcs] at HH1 HH2 HH3 HH4 HH5 HH7 HH8 ⊢
  clear hcs
  have HX0 : Hid (NX w w.heap.size (w.heap.size + 1) (w.heap.size + 1 + 1) cs ⟨h0, 0, [], 0, 0, 0, 0, 0, []⟩ none 0 none 0 (((w.alloc (.cells cs.toArray 26)).alloc (.cells zeroC.toArray 26)).alloc (.cells (atc ⟨h0, 0, [], 0, 0, 0, 0, 0, []⟩ none 0 none 0).toArray 26))) := by
    have hb1 := Bk.new w 26 cs.toArray
    have hb2 := Bk.new (w.alloc (.cells cs.toArray 26)) 26 zeroC.toArray
    have hb3 := Bk.new ((w.alloc (.cells cs.toArray 26)).alloc (.cells zeroC.toArray 26)) 26 (atc ⟨h0, 0, [], 0, 0, 0, 0, 0, []⟩ none 0 none 0).toArray
    have e2 : (w.alloc (.cells cs.toArray 26)).heap.size = w.heap.size + 1 := by simp
    have e3 : ((w.alloc (.cells cs.toArray 26)).alloc (.cells zeroC.toArray 26)).heap.size = w.heap.size + 1 + 1 := by simp
    rw [e2] at hb2
    rw [e3] at hb3
    refine ⟨(hb1.alloc _).alloc _, hb2.alloc _, hb3, ⟨⟨?_, rfl, rfl, rfl, rfl, rfl, rfl⟩, Sp.empty _ _, Sn.empty _ _, fun n hn => by cases hn⟩, (((Below.refl _ _).alloc (Nat.le_refl _) _).alloc (by simp) _).alloc (by simp; omega) _, Nat.le_refl _, by omega, by omega⟩
    have h1 := HH0.out
    simp [Lit.wf, IntKind.min, IntKind.max, IntKind.signed, IntKind.bits]
    omega
  obtain ⟨w0, hw0⟩ : ∃ w0, w0 = ((w.alloc (.cells cs.toArray 26)).alloc (.cells zeroC.toArray 26)).alloc (.cells (atc ⟨h0, 0, [], 0, 0, 0, 0, 0, []⟩ none 0 none 0).toArray 26) := ⟨_, rfl⟩
  rw [← hw0] at HX0
  obtain ⟨r0, hr0⟩ : ∃ r0 : Atr, r0 = ⟨h0, 0, [], 0, 0, 0, 0, 0, []⟩ := ⟨_, rfl⟩
  rw [← hr0] at HX0
  have HR0 := Lib.hid hr0
  clear hr0
  simp only [zeroC, atc] at hw0
  obtain ⟨hc0, hc1, hc2, hc3, hc4, hc5, hc6, hc7, hc8⟩ := HC.out
  go_enter Tryz.func71, Tryz.ntmps71
  go_upto_region 2 with fail
  generalize hg3 : w.heap.size + 1 + 1 = g3 at HX0 hw0 ⊢
  generalize hg2 : w.heap.size + 1 = g2 at HX0 hw0 ⊢
  generalize hg1 : w.heap.size = g1 at HX0 hw0 ⊢
  simp only [List.length_nil] at hw0
  rw [show (_ : World) = w0 from hw0.symm]
  clear hw0 hand
  have HX := HX0
  clear HX0
  obtain ⟨r1, hr1⟩ : ∃ r : Atr, r = ⟨h0, selI b1 a.orig, [], 0, 0, 0, 0, 0, []⟩ := ⟨_, rfl⟩
  have HR1 := Lib.hid hr1
  clear hr1
  go_upto_if 9 with (first
    | (refine wpList_loadBk rfl 26 (.tmp 1) rfl g1 (by rfl) 26 cs.toArray _ HX.out.a Tryz.underlying26 (by rfl) (by rw [List.size_toArray, HCl.out]; exact HSz.out) ?_)
    | (go_at_call 79; refine (HH1.out _).mono ?_; rintro e wy ⟨rfl, hby⟩; have HX := Lib.hid (HX.out.bel hby); clear hby))
  go_cut [] (fun wx => NS w g1 g2 g3 cs r1 wx)
  case first =>
    rcases b1 with _ | _
    · go_wp2_with fail
      go_meet
      have hx := HX.out
      rw [HR0.out] at hx
      rw [HR1.out]
      exact ⟨_, _, _, _, hx⟩
    · have kl := HX.out.o.lt
      have ka := HX.out.a.lt
      have k1 := (HX.out.o.cell 1).trans (show _ = some _ from rfl)
      have kf1 := HX.out.o.free 1
      have q1 := (HX.out.a.cell 1).trans hc1
      go_wp2_with fail
      go_meet
      have hx := HX.out
      rw [HR0.out] at hx
      rw [HR1.out]
      exact ⟨_, _, _, _, hx.put 1 _ rfl ⟨⟨hx.m.wf.has, HW.out.orig, hx.m.wf.hop, hx.m.wf.med, hx.m.wf.pref, hx.m.wf.aas, hx.m.wf.aid⟩, hx.m.sp, hx.m.sn, hx.m.w32⟩⟩
  case rest =>
  clear HX
  obtain ⟨Ap1, cp1, Ac1, cc1, hx⟩ := hcut
  have HX := Lib.hid hx
  clear hx
  obtain ⟨r2, hr2⟩ : ∃ r : Atr, r = ⟨h0, selI b1 a.orig, selL b2 (normS a.path), 0, 0, 0, 0, 0, []⟩ := ⟨_, rfl⟩
  have HR2 := Lib.hid hr2
  clear hr2
  go_upto_if 14 with (first
    | (refine wpList_loadBk rfl 26 (.tmp 1) rfl g1 (by rfl) 26 cs.toArray _ HX.out.a Tryz.underlying26 (by rfl) (by rw [List.size_toArray, HCl.out]; exact HSz.out) ?_)
    | (go_at_call 79; refine (HH2.out _).mono ?_; rintro e wy ⟨rfl, hby⟩; have HX := Lib.hid (HX.out.bel hby); clear hby))
  go_cut [] (fun wx => NS w g1 g2 g3 cs r2 wx)
  case first =>
    rcases b2 with _ | _
    · go_wp2_with fail
      go_meet
      have hx := HX.out
      rw [HR1.out] at hx
      rw [HR2.out]
      exact ⟨_, _, _, _, hx⟩
    · have kl := HX.out.o.lt
      have ka := HX.out.a.lt
      have k2 := (HX.out.o.cell 2).trans (show _ = some _ from rfl)
      have kf2 := HX.out.o.free 2
      have q2 := (HX.out.a.cell 2).trans hc2
      go_wp2_with (go_at_call 94; refine (HPn.out _ HX.out.b).mono ?_; rintro e wz ⟨A1, c1, vs, rfl, hL⟩; have HL : Hid (Sp wz (fun k => g3 < k) A1 c1 (normS a.path)) := (Sp.of_lst hL).mono (fun k _ hk => by have := HX.out.o.lt; rcases hk with hk | hk <;> exact Nat.lt_of_lt_of_le this hk); have HX := Lib.hid (HX.out.bel hL.acc.bel); have kl := HX.out.o.lt; have k2 := (HX.out.o.cell 2).trans (show _ = some _ from rfl); have kf2 := HX.out.o.free 2; clear hL)
      go_meet
      have hx := HX.out
      rw [HR1.out] at hx
      rw [HR2.out]
      exact ⟨_, _, _, _, hx.put 2 _ rfl ⟨⟨hx.m.wf.has, hx.m.wf.orig, hx.m.wf.hop, hx.m.wf.med, hx.m.wf.pref, hx.m.wf.aas, hx.m.wf.aid⟩, HL.out, hx.m.sn, hx.m.w32⟩⟩
  case rest =>
  clear HX
  obtain ⟨Ap2, cp2, Ac2, cc2, hx⟩ := hcut
  have HX := Lib.hid hx
  clear hx
  obtain ⟨r3, hr3⟩ : ∃ r : Atr, r = ⟨h0, selI b1 a.orig, selL b2 (normS a.path), selI b3 a.hop, 0, 0, 0, 0, []⟩ := ⟨_, rfl⟩
  have HR3 := Lib.hid hr3
  clear hr3
  go_upto_if 20 with (first
    | (refine wpList_loadBk rfl 26 (.tmp 1) rfl g1 (by rfl) 26 cs.toArray _ HX.out.a Tryz.underlying26 (by rfl) (by rw [List.size_toArray, HCl.out]; exact HSz.out) ?_)
    | (go_at_call 79; refine (HH3.out _).mono ?_; rintro e wy ⟨rfl, hby⟩; have HX := Lib.hid (HX.out.bel hby); clear hby))
  go_cut [] (fun wx => NS w g1 g2 g3 cs r3 wx)
  case first =>
    rcases b3 with _ | _
    · go_wp2_with fail
      go_meet
      have hx := HX.out
      rw [HR2.out] at hx
      rw [HR3.out]
      exact ⟨_, _, _, _, hx⟩
    · have kl := HX.out.o.lt
      have ka := HX.out.a.lt
      have k3 := (HX.out.o.cell 3).trans (show _ = some _ from rfl)
      have kf3 := HX.out.o.free 3
      have q3 := (HX.out.a.cell 3).trans hc3
      go_wp2_with fail
      go_meet
      have hx := HX.out
      rw [HR2.out] at hx
      rw [HR3.out]
      exact ⟨_, _, _, _, hx.put 3 _ rfl ⟨⟨hx.m.wf.has, hx.m.wf.orig, HW.out.hop, hx.m.wf.med, hx.m.wf.pref, hx.m.wf.aas, hx.m.wf.aid⟩, hx.m.sp, hx.m.sn, hx.m.w32⟩⟩
  case rest =>
  clear HX
  obtain ⟨Ap3, cp3, Ac3, cc3, hx⟩ := hcut
  have HX := Lib.hid hx
  clear hx
  obtain ⟨r4, hr4⟩ : ∃ r : Atr, r = ⟨h0, selI b1 a.orig, selL b2 (normS a.path), selI b3 a.hop, selI b4 a.med, 0, 0, 0, []⟩ := ⟨_, rfl⟩
  have HR4 := Lib.hid hr4
  clear hr4
  go_upto_if 25 with (first
    | (refine wpList_loadBk rfl 26 (.tmp 1) rfl g1 (by rfl) 26 cs.toArray _ HX.out.a Tryz.underlying26 (by rfl) (by rw [List.size_toArray, HCl.out]; exact HSz.out) ?_)
    | (go_at_call 79; refine (HH4.out _).mono ?_; rintro e wy ⟨rfl, hby⟩; have HX := Lib.hid (HX.out.bel hby); clear hby))
  go_cut [] (fun wx => NS w g1 g2 g3 cs r4 wx)
  case first =>
    rcases b4 with _ | _
    · go_wp2_with fail
      go_meet
      have hx := HX.out
      rw [HR3.out] at hx
      rw [HR4.out]
      exact ⟨_, _, _, _, hx⟩
    · have kl := HX.out.o.lt
      have ka := HX.out.a.lt
      have k4 := (HX.out.o.cell 4).trans (show _ = some _ from rfl)
      have kf4 := HX.out.o.free 4
      have q4 := (HX.out.a.cell 4).trans hc4
      go_wp2_with fail
      go_meet
      have hx := HX.out
      rw [HR3.out] at hx
      rw [HR4.out]
      exact ⟨_, _, _, _, hx.put 4 _ rfl ⟨⟨hx.m.wf.has, hx.m.wf.orig, hx.m.wf.hop, HW.out.med, hx.m.wf.pref, hx.m.wf.aas, hx.m.wf.aid⟩, hx.m.sp, hx.m.sn, hx.m.w32⟩⟩
  case rest =>
  clear HX
  obtain ⟨Ap4, cp4, Ac4, cc4, hx⟩ := hcut
  have HX := Lib.hid hx
  clear hx
  obtain ⟨r5, hr5⟩ : ∃ r : Atr, r = ⟨h0, selI b1 a.orig, selL b2 (normS a.path), selI b3 a.hop, selI b4 a.med, selI b5 a.pref, 0, 0, []⟩ := ⟨_, rfl⟩
  have HR5 := Lib.hid hr5
  clear hr5
  go_upto_if 30 with (first
    | (refine wpList_loadBk rfl 26 (.tmp 1) rfl g1 (by rfl) 26 cs.toArray _ HX.out.a Tryz.underlying26 (by rfl) (by rw [List.size_toArray, HCl.out]; exact HSz.out) ?_)
    | (go_at_call 79; refine (HH5.out _).mono ?_; rintro e wy ⟨rfl, hby⟩; have HX := Lib.hid (HX.out.bel hby); clear hby))
  go_cut [] (fun wx => NS w g1 g2 g3 cs r5 wx)
  case first =>
    rcases b5 with _ | _
    · go_wp2_with fail
      go_meet
      have hx := HX.out
      rw [HR4.out] at hx
      rw [HR5.out]
      exact ⟨_, _, _, _, hx⟩
    · have kl := HX.out.o.lt
      have ka := HX.out.a.lt
      have k5 := (HX.out.o.cell 5).trans (show _ = some _ from rfl)
      have kf5 := HX.out.o.free 5
      have q5 := (HX.out.a.cell 5).trans hc5
      go_wp2_with fail
      go_meet
      have hx := HX.out
      rw [HR4.out] at hx
      rw [HR5.out]
      exact ⟨_, _, _, _, hx.put 5 _ rfl ⟨⟨hx.m.wf.has, hx.m.wf.orig, hx.m.wf.hop, hx.m.wf.med, HW.out.pref, hx.m.wf.aas, hx.m.wf.aid⟩, hx.m.sp, hx.m.sn, hx.m.w32⟩⟩
  case rest =>
  clear HX
  obtain ⟨Ap5, cp5, Ac5, cc5, hx⟩ := hcut
  have HX := Lib.hid hx
  clear hx
  obtain ⟨r7, hr7⟩ : ∃ r : Atr, r = ⟨h0, selI b1 a.orig, selL b2 (normS a.path), selI b3 a.hop, selI b4 a.med, selI b5 a.pref, selI b7 a.aas, selI b7 a.aid, []⟩ := ⟨_, rfl⟩
  have HR7 := Lib.hid hr7
  clear hr7
  go_upto_if 35 with (first
    | (refine wpList_loadBk rfl 26 (.tmp 1) rfl g1 (by rfl) 26 cs.toArray _ HX.out.a Tryz.underlying26 (by rfl) (by rw [List.size_toArray, HCl.out]; exact HSz.out) ?_)
    | (go_at_call 79; refine (HH7.out _).mono ?_; rintro e wy ⟨rfl, hby⟩; have HX := Lib.hid (HX.out.bel hby); clear hby))
  go_cut [] (fun wx => NS w g1 g2 g3 cs r7 wx)
  case first =>
    rcases b7 with _ | _
    · go_wp2_with fail
      go_meet
      have hx := HX.out
      rw [HR5.out] at hx
      rw [HR7.out]
      exact ⟨_, _, _, _, hx⟩
    · have kl := HX.out.o.lt
      have ka := HX.out.a.lt
      have k6 := (HX.out.o.cell 6).trans (show _ = some _ from rfl)
      have kf6 := HX.out.o.free 6
      have q6 := (HX.out.a.cell 6).trans hc6
      have k7 := (HX.out.o.cell 7).trans (show _ = some _ from rfl)
      have kf7 := HX.out.o.free 7
      have q7 := (HX.out.a.cell 7).trans hc7
      go_wp2_with fail
      go_region
      all_goals
        go_wp2_with fail
        go_meet
        have hx := HX.out
        rw [HR5.out] at hx
        rw [HR7.out]
        refine ⟨_, _, _, _, ((hx.put (r' := ⟨h0, selI b1 a.orig, selL b2 (normS a.path), selI b3 a.hop, selI b4 a.med, selI b5 a.pref, selI true a.aas, 0, []⟩) 6 _ rfl ⟨⟨hx.m.wf.has, hx.m.wf.orig, hx.m.wf.hop, hx.m.wf.med, hx.m.wf.pref, HW.out.aas, hx.m.wf.aid⟩, hx.m.sp, hx.m.sn, hx.m.w32⟩).put (r' := ⟨h0, selI b1 a.orig, selL b2 (normS a.path), selI b3 a.hop, selI b4 a.med, selI b5 a.pref, selI true a.aas, selI true a.aid, []⟩) 7 _ rfl ⟨⟨hx.m.wf.has, hx.m.wf.orig, hx.m.wf.hop, hx.m.wf.med, hx.m.wf.pref, HW.out.aas, HW.out.aid⟩, ?_, ?_, hx.m.w32⟩).bel (Below.refl _ _).drew⟩
        · exact hx.m.sp.chg (F := fun k => k = g3) ((Chg.refl (fun k => k = g3) wy).put (p := ⟨g3, 6, none⟩) (.inl rfl) _) (fun k _ hk e => by omega)
        · exact Sn.chg (F := fun k => k = g3) hx.m.sn ((Chg.refl (fun k => k = g3) wy).put (p := ⟨g3, 6, none⟩) (.inl rfl) _) (fun k _ hk e => by omega)
  case rest =>
  clear HX
  obtain ⟨Ap7, cp7, Ac7, cc7, hx⟩ := hcut
  have HX := Lib.hid hx
  clear hx
  obtain ⟨r8, hr8⟩ : ∃ r : Atr, r = ⟨h0, selI b1 a.orig, selL b2 (normS a.path), selI b3 a.hop, selI b4 a.med, selI b5 a.pref, selI b7 a.aas, selI b7 a.aid, selL b8 (setN a.comms)⟩ := ⟨_, rfl⟩
  have HR8 := Lib.hid hr8
  clear hr8
  go_upto_if 43 with (first
    | (refine wpList_loadBk rfl 26 (.tmp 1) rfl g1 (by rfl) 26 cs.toArray _ HX.out.a Tryz.underlying26 (by rfl) (by rw [List.size_toArray, HCl.out]; exact HSz.out) ?_)
    | (go_at_call 79; refine (HH8.out _).mono ?_; rintro e wy ⟨rfl, hby⟩; have HX := Lib.hid (HX.out.bel hby); clear hby))
  go_cut [] (fun wx => NS w g1 g2 g3 cs r8 wx)
  case first =>
    rcases b8 with _ | _
    · go_wp2_with fail
      go_meet
      have hx := HX.out
      rw [HR7.out] at hx
      rw [HR8.out]
      exact ⟨_, _, _, _, hx⟩
    · have kl := HX.out.o.lt
      have ka := HX.out.a.lt
      have k8 := (HX.out.o.cell 8).trans (show _ = some _ from rfl)
      have kf8 := HX.out.o.free 8
      have q8 := (HX.out.a.cell 8).trans hc8
      go_wp2_with (go_at_call 95; refine (HSe.out _ HX.out.b).mono ?_; rintro e wz ⟨A1, c1, rfl, ho, hlo, hb⟩; have HL : Hid (Sn wz (fun k => g3 < k) A1 c1 (setN a.comms)) := Sn.mono (Sn.own ho) (fun k _ hk => Nat.lt_of_lt_of_le HX.out.o.lt (hlo k hk)); have HX := Lib.hid (HX.out.bel hb); have kl := HX.out.o.lt; have k8 := (HX.out.o.cell 8).trans (show _ = some _ from rfl); have kf8 := HX.out.o.free 8; clear ho hlo hb)
      go_meet
      have hx := HX.out
      rw [HR7.out] at hx
      rw [HR8.out]
      exact ⟨_, _, _, _, hx.put 8 _ rfl ⟨⟨hx.m.wf.has, hx.m.wf.orig, hx.m.wf.hop, hx.m.wf.med, hx.m.wf.pref, hx.m.wf.aas, hx.m.wf.aid⟩, hx.m.sp, HL.out, setN_w32 HW32.out⟩⟩
  case rest =>
  clear HX
  obtain ⟨Ap8, cp8, Ac8, cc8, hx⟩ := hcut
  have HX := Lib.hid hx
  clear hx
  go_wp2_with (first
    | (refine wpList_loadBk rfl 26 (.tmp 3) rfl g3 (by rfl) 26 (atc r8 Ap8 cp8 Ac8 cc8).toArray _ HX.out.o Tryz.underlying26 (by rfl) HSz.out ?_)
    | (refine wpList_storeBk rfl 26 (.tmp 2) (.tmp 48) rfl g2 (by rfl) (atc r8 Ap8 cp8 Ac8 cc8).toArray (by rfl) 26 zeroC.toArray HX.out.z HSz.out rfl (by rfl) ?_; intro w3 h3 h4 h5; have H3 := Lib.hid h3; have H4 := Lib.hid h4; clear h3 h4 h5))
  refine bodyPost_ret (results_cell_row rfl _ _ g2 26 (atc r8 Ap8 cp8 Ac8 cc8).toArray (0, 0) _ rfl H3.out Tryz.underlying26 rfl HSz.out) rfl ?_
  have hx := HX.out
  have e8 : r8 = N := HR8.out.trans (by rw [HNq.out, HH0.out])
  rw [e8] at hx ⊢
  have l2 := hx.l2
  have l3 := hx.l3
  have l1 := hx.l1
  exact HQ.out _ _ _ _ _ ((hx.m.chg H4.out (fun k _ hk e => by omega)).mono fun k _ hk => by omega) (hx.b.trans (H4.out.below (fun k e => by omega) hx.b.size))
end Go.Proofs.YtbljhjfaimnieaaGreat.attr

namespace Go.Proofs.YtbljhjfaimnieaaGreat.attr
open Go.RowKit Go.Proofs.YtbljhjfaimnieaaGreat.kit Go.Proofs.YtbljhjfaimnieaaGreat.mem Go.Proofs.YtbljhjfaimnieaaGreat.foot Go.Proofs.YtbljhjfaimnieaaGreat.nums Go.Proofs.YtbljhjfaimnieaaGreat.asn Go.Proofs.YtbljhjfaimnieaaGreat.pth
set_option linter.unusedVariables false
set_option linter.unusedSimpArgs false
end Go.Proofs.YtbljhjfaimnieaaGreat.attr

namespace Go.Proofs.YtbljhjfaimnieaaGreat.attr
open Go.RowKit Go.Proofs.YtbljhjfaimnieaaGreat.kit Go.Proofs.YtbljhjfaimnieaaGreat.mem Go.Proofs.YtbljhjfaimnieaaGreat.foot Go.Proofs.YtbljhjfaimnieaaGreat.nums Go.Proofs.YtbljhjfaimnieaaGreat.asn Go.Proofs.YtbljhjfaimnieaaGreat.pth
set_option linter.unusedVariables false
set_option linter.unusedSimpArgs false
end Go.Proofs.YtbljhjfaimnieaaGreat.attr

namespace Go.Proofs.YtbljhjfaimnieaaGreat.attr
open Go.RowKit Go.Proofs.YtbljhjfaimnieaaGreat.kit Go.Proofs.YtbljhjfaimnieaaGreat.mem Go.Proofs.YtbljhjfaimnieaaGreat.foot Go.Proofs.YtbljhjfaimnieaaGreat.nums Go.Proofs.YtbljhjfaimnieaaGreat.asn Go.Proofs.YtbljhjfaimnieaaGreat.pth
set_option linter.unusedVariables false
set_option linter.unusedSimpArgs false
theorem atr_ext {a b : Atr} (h0 : a.has = b.has) (h1 : a.orig = b.orig) (h2 : a.path = b.path) (h3 : a.hop = b.hop) (h4 : a.med = b.med) (h5 : a.pref = b.pref) (h6 : a.aas = b.aas) (h7 : a.aid = b.aid) (h8 : a.comms = b.comms) : a = b := by
  cases a; cases b; simp at *; exact ⟨h0, h1, h2, h3, h4, h5, h6, h7, h8⟩
set_option maxRecDepth 100000 in
set_option maxHeartbeats 8000000 in
theorem same_any (a b : Atr) (Ap Ac Bp Bc : Option Addr) (cp cc dp dc : Nat) (G H : Foot) (w : World) (z : Bool) (hz : z = true ↔ a = b) (hm : Am w G a Ap cp Ac cc) (hn : Am w H b Bp dp Bc dc) (hp : nsz a.path ≤ 1000000) (hq : nsz b.path ≤ 1000000) (hcm : a.comms.length ≤ 1000000) (hdm : b.comms.length ≤ 1000000) :
    Calls Tryz.prog 77 #[.agg (atc a Ap cp Ac cc).toArray, .agg (atc b Bp dp Bc dc).toArray] w fun e w' => e = .returned (.bool z) ∧ Below w.heap.size w w' := by
  have HPs : Hid (∀ w', Below w.heap.size w w' → Calls Tryz.prog 100 #[.slice Ap a.path.length cp, .slice Bp b.path.length dp] w' fun e w2 => e = .returned (.bool (decide (a.path = b.path))) ∧ Below w'.heap.size w' w2) := fun w' hb => Same_any Ap Bp cp dp a.path b.path G H w' hp hq (hm.sp.els.bel keeps_seg hb) (hn.sp.els.bel keeps_seg hb)
  have HEq : Hid (∀ w', Below w.heap.size w w' → Calls Tryz.prog 101 #[.slice Ac a.comms.length cc, .slice Bc b.comms.length dc] w' fun e w2 => e = .returned (.bool (decide (a.comms = b.comms))) ∧ Below w'.heap.size w' w2) := fun w' hb => by
    refine (Equal_any Ac Bc cc dc a.comms b.comms G H w' (by omega) (by omega) (Rg.bel hm.sn.us hb) (Rg.bel hn.sn.us hb)).mono ?_
    rintro e w2 ⟨rfl, q, rfl⟩
    exact ⟨rfl, ⟨rfl, rfl, rfl, Nat.le_refl _, fun _ _ => rfl⟩⟩
  have HZ := Lib.hid hz
  have HNe : Hid ((a.has ≠ b.has ∨ a.orig ≠ b.orig ∨ a.path ≠ b.path ∨ a.hop ≠ b.hop ∨ a.med ≠ b.med ∨ a.pref ≠ b.pref ∨ a.aas ≠ b.aas ∨ a.aid ≠ b.aid ∨ a.comms ≠ b.comms) → z = false) := fun h => by
    rw [← Bool.not_eq_true, HZ.out]
    rintro rfl
    simp at h
  have HEe : Hid ((a.has = b.has ∧ a.orig = b.orig ∧ a.hop = b.hop ∧ a.med = b.med ∧ a.pref = b.pref ∧ a.aas = b.aas ∧ a.aid = b.aid) → z = (decide (a.path = b.path) && decide (a.comms = b.comms))) := fun ⟨h0, h1, h3, h4, h5, h6, h7⟩ => by
    rw [Bool.eq_iff_iff, HZ.out, Bool.and_eq_true, decide_eq_true_iff, decide_eq_true_iff]
    exact ⟨fun e => by subst e; exact ⟨rfl, rfl⟩, fun h => atr_ext h0 h1 h.1 h3 h4 h5 h6 h7 h.2⟩
  clear hz hm hn HZ
  have HB : Hid (Below w.heap.size w ((w.alloc (.cells (atc a Ap cp Ac cc).toArray 26)).alloc (.cells (atc b Bp dp Bc dc).toArray 26))) := ((Below.refl _ _).alloc (Nat.le_refl _) _).alloc (by simp) _
  have hb1 : Bk ((w.alloc (.cells (atc a Ap cp Ac cc).toArray 26)).alloc (.cells (atc b Bp dp Bc dc).toArray 26)) w.heap.size 26 (atc a Ap cp Ac cc).toArray := (Bk.new w _ _).alloc _
  have hb2 : Bk ((w.alloc (.cells (atc a Ap cp Ac cc).toArray 26)).alloc (.cells (atc b Bp dp Bc dc).toArray 26)) (w.heap.size + 1) 26 (atc b Bp dp Bc dc).toArray := by
    have h := Bk.new (w.alloc (.cells (atc a Ap cp Ac cc).toArray 26)) 26 (atc b Bp dp Bc dc).toArray
    have e2 : (w.alloc (.cells (atc a Ap cp Ac cc).toArray 26)).heap.size = w.heap.size + 1 := by simp
    rwa [e2] at h
  have p0 : ((w.alloc (.cells (atc a Ap cp Ac cc).toArray 26)).alloc (.cells (atc b Bp dp Bc dc).toArray 26)).cell? ⟨w.heap.size, 0, none⟩ = some (.int .i64 a.has) := by rw [hb1.cell]; rfl
  have q0 : ((w.alloc (.cells (atc a Ap cp Ac cc).toArray 26)).alloc (.cells (atc b Bp dp Bc dc).toArray 26)).cell? ⟨w.heap.size + 1, 0, none⟩ = some (.int .i64 b.has) := by rw [hb2.cell]; rfl
  have p1 : ((w.alloc (.cells (atc a Ap cp Ac cc).toArray 26)).alloc (.cells (atc b Bp dp Bc dc).toArray 26)).cell? ⟨w.heap.size, 1, none⟩ = some (.int .i64 a.orig) := by rw [hb1.cell]; rfl
  have q1 : ((w.alloc (.cells (atc a Ap cp Ac cc).toArray 26)).alloc (.cells (atc b Bp dp Bc dc).toArray 26)).cell? ⟨w.heap.size + 1, 1, none⟩ = some (.int .i64 b.orig) := by rw [hb2.cell]; rfl
  have p2 : ((w.alloc (.cells (atc a Ap cp Ac cc).toArray 26)).alloc (.cells (atc b Bp dp Bc dc).toArray 26)).cell? ⟨w.heap.size, 2, none⟩ = some (.slice Ap a.path.length cp) := by rw [hb1.cell]; rfl
  have q2 : ((w.alloc (.cells (atc a Ap cp Ac cc).toArray 26)).alloc (.cells (atc b Bp dp Bc dc).toArray 26)).cell? ⟨w.heap.size + 1, 2, none⟩ = some (.slice Bp b.path.length dp) := by rw [hb2.cell]; rfl
  have p3 : ((w.alloc (.cells (atc a Ap cp Ac cc).toArray 26)).alloc (.cells (atc b Bp dp Bc dc).toArray 26)).cell? ⟨w.heap.size, 3, none⟩ = some (.int .u32 a.hop) := by rw [hb1.cell]; rfl
  have q3 : ((w.alloc (.cells (atc a Ap cp Ac cc).toArray 26)).alloc (.cells (atc b Bp dp Bc dc).toArray 26)).cell? ⟨w.heap.size + 1, 3, none⟩ = some (.int .u32 b.hop) := by rw [hb2.cell]; rfl
  have p4 : ((w.alloc (.cells (atc a Ap cp Ac cc).toArray 26)).alloc (.cells (atc b Bp dp Bc dc).toArray 26)).cell? ⟨w.heap.size, 4, none⟩ = some (.int .u32 a.med) := by rw [hb1.cell]; rfl
  have q4 : ((w.alloc (.cells (atc a Ap cp Ac cc).toArray 26)).alloc (.cells (atc b Bp dp Bc dc).toArray 26)).cell? ⟨w.heap.size + 1, 4, none⟩ = some (.int .u32 b.med) := by rw [hb2.cell]; rfl
  have p5 : ((w.alloc (.cells (atc a Ap cp Ac cc).toArray 26)).alloc (.cells (atc b Bp dp Bc dc).toArray 26)).cell? ⟨w.heap.size, 5, none⟩ = some (.int .u32 a.pref) := by rw [hb1.cell]; rfl
  have q5 : ((w.alloc (.cells (atc a Ap cp Ac cc).toArray 26)).alloc (.cells (atc b Bp dp Bc dc).toArray 26)).cell? ⟨w.heap.size + 1, 5, none⟩ = some (.int .u32 b.pref) := by rw [hb2.cell]; rfl
  have p6 : ((w.alloc (.cells (atc a Ap cp Ac cc).toArray 26)).alloc (.cells (atc b Bp dp Bc dc).toArray 26)).cell? ⟨w.heap.size, 6, none⟩ = some (.int .u32 a.aas) := by rw [hb1.cell]; rfl
  have q6 : ((w.alloc (.cells (atc a Ap cp Ac cc).toArray 26)).alloc (.cells (atc b Bp dp Bc dc).toArray 26)).cell? ⟨w.heap.size + 1, 6, none⟩ = some (.int .u32 b.aas) := by rw [hb2.cell]; rfl
  have p7 : ((w.alloc (.cells (atc a Ap cp Ac cc).toArray 26)).alloc (.cells (atc b Bp dp Bc dc).toArray 26)).cell? ⟨w.heap.size, 7, none⟩ = some (.int .u32 a.aid) := by rw [hb1.cell]; rfl
  have q7 : ((w.alloc (.cells (atc a Ap cp Ac cc).toArray 26)).alloc (.cells (atc b Bp dp Bc dc).toArray 26)).cell? ⟨w.heap.size + 1, 7, none⟩ = some (.int .u32 b.aid) := by rw [hb2.cell]; rfl
  have p8 : ((w.alloc (.cells (atc a Ap cp Ac cc).toArray 26)).alloc (.cells (atc b Bp dp Bc dc).toArray 26)).cell? ⟨w.heap.size, 8, none⟩ = some (.slice Ac a.comms.length cc) := by rw [hb1.cell]; rfl
  have q8 : ((w.alloc (.cells (atc a Ap cp Ac cc).toArray 26)).alloc (.cells (atc b Bp dp Bc dc).toArray 26)).cell? ⟨w.heap.size + 1, 8, none⟩ = some (.slice Bc b.comms.length dc) := by rw [hb2.cell]; rfl
  obtain ⟨w1, hw1⟩ : ∃ w1, w1 = (w.alloc (.cells (atc a Ap cp Ac cc).toArray 26)).alloc (.cells (atc b Bp dp Bc dc).toArray 26) := ⟨_, rfl⟩
  rw [← hw1] at hb1 hb2 HB p0 p1 p2 p3 p4 p5 p6 p7 p8 q0 q1 q2 q3 q4 q5 q6 q7 q8
  have HK1 := Lib.hid hb1
  have HK2 := Lib.hid hb2
  clear hb1 hb2
  generalize a.path.length = na at *
  generalize b.path.length = nb at *
  generalize a.comms.length = ma at *
  generalize b.comms.length = mb at *
  generalize atc a Ap cp Ac cc = ca at *
  generalize atc b Bp dp Bc dc = cb at *
  generalize decide (a.path = b.path) = y1 at *
  generalize decide (a.comms = b.comms) = y2 at *
  generalize a.has = a0 at *
  generalize b.has = b0 at *
  generalize a.orig = a1 at *
  generalize b.orig = b1 at *
  generalize a.hop = a3 at *
  generalize b.hop = b3 at *
  generalize a.med = a4 at *
  generalize b.med = b4 at *
  generalize a.pref = a5 at *
  generalize b.pref = b5 at *
  generalize a.aas = a6 at *
  generalize b.aas = b6 at *
  generalize a.aid = a7 at *
  generalize b.aid = b7 at *
  clear hp hq hcm hdm
  go_enter Tryz.func77, Tryz.ntmps77
  go_upto_region 1 with fail
  rw [← hw1]
  clear hw1
  by_cases h : a0 = b0
  case' neg =>
    have HZf := Lib.hid (HNe.out (.inl h))
    have d0 : (a0 == b0) = false := by rw [beq_eq_false_iff_ne]; exact h
    clear HEe
    go_wp2_with fail
    go_ret
    exact ⟨by rw [HZf.out]; rfl, HB.out⟩
  case' pos =>
  subst h
  by_cases h : a1 = b1
  case' neg =>
    have HZf := Lib.hid (HNe.out (.inr (.inl h)))
    have d1 : (a1 == b1) = false := by rw [beq_eq_false_iff_ne]; exact h
    clear HEe
    go_wp2_with fail
    go_ret
    exact ⟨by rw [HZf.out]; rfl, HB.out⟩
  case' pos =>
  subst h
  by_cases h : a3 = b3
  case' neg =>
    have HZf := Lib.hid (HNe.out (.inr (.inr (.inr (.inl h)))))
    have d3 : (a3 == b3) = false := by rw [beq_eq_false_iff_ne]; exact h
    clear HEe
    go_wp2_with fail
    go_ret
    exact ⟨by rw [HZf.out]; rfl, HB.out⟩
  case' pos =>
  subst h
  by_cases h : a4 = b4
  case' neg =>
    have HZf := Lib.hid (HNe.out (.inr (.inr (.inr (.inr (.inl h))))))
    have d4 : (a4 == b4) = false := by rw [beq_eq_false_iff_ne]; exact h
    clear HEe
    go_wp2_with fail
    go_ret
    exact ⟨by rw [HZf.out]; rfl, HB.out⟩
  case' pos =>
  subst h
  by_cases h : a5 = b5
  case' neg =>
    have HZf := Lib.hid (HNe.out (.inr (.inr (.inr (.inr (.inr (.inl h)))))))
    have d5 : (a5 == b5) = false := by rw [beq_eq_false_iff_ne]; exact h
    clear HEe
    go_wp2_with fail
    go_ret
    exact ⟨by rw [HZf.out]; rfl, HB.out⟩
  case' pos =>
  subst h
  by_cases h : a6 = b6
  case' neg =>
    have HZf := Lib.hid (HNe.out (.inr (.inr (.inr (.inr (.inr (.inr (.inl h))))))))
    have d6 : (a6 == b6) = false := by rw [beq_eq_false_iff_ne]; exact h
    clear HEe
    go_wp2_with fail
    go_ret
    exact ⟨by rw [HZf.out]; rfl, HB.out⟩
  case' pos =>
  subst h
  by_cases h : a7 = b7
  case' neg =>
    have HZf := Lib.hid (HNe.out (.inr (.inr (.inr (.inr (.inr (.inr (.inr (.inl h)))))))))
    have d7 : (a7 == b7) = false := by rw [beq_eq_false_iff_ne]; exact h
    clear HEe
    go_wp2_with fail
    go_ret
    exact ⟨by rw [HZf.out]; rfl, HB.out⟩
  case' pos =>
  subst h
  have HZe := Lib.hid (HEe.out ⟨rfl, rfl, rfl, rfl, rfl, rfl, rfl⟩)
  clear HEe HNe
  have HP1 := Lib.hid (HPs.out w1 HB.out)
  rcases y1 with _ | _
  · go_wp2_with (go_at_call 100; refine HP1.out.mono ?_; rintro e w2 ⟨rfl, hb2⟩; have HB2 := Lib.hid (HB.out.trans (hb2.mono HB.out.size)); clear hb2)
    go_ret
    exact ⟨by rw [HZe.out]; rfl, HB2.out⟩
  · have HU : Hid (∀ w', Below w1.heap.size w1 w' → w'.cell? ⟨w.heap.size, 8, none⟩ = some (.slice Ac ma cc) ∧ w'.cell? ⟨w.heap.size + 1, 8, none⟩ = some (.slice Bc mb dc)) := fun w' hb => ⟨(hb.cell (p := ⟨w.heap.size, 8, none⟩) HK1.out.lt).trans p8, (hb.cell (p := ⟨w.heap.size + 1, 8, none⟩) HK2.out.lt).trans q8⟩
    go_wp2_with (first
      | (go_at_call 100; refine HP1.out.mono ?_; rintro e w2 ⟨rfl, hb2⟩; have HB2 := Lib.hid (HB.out.trans (hb2.mono HB.out.size)); have u8 := (HU.out _ hb2).1; have v8 := (HU.out _ hb2).2; clear hb2)
      | (go_at_call 101; refine (HEq.out _ HB2.out).mono ?_; rintro e w3 ⟨rfl, hb3⟩; have HB3 := Lib.hid (HB2.out.trans (hb3.mono HB2.out.size)); clear hb3))
    go_ret
    exact ⟨by rw [HZe.out]; simp, HB3.out⟩
end Go.Proofs.YtbljhjfaimnieaaGreat.attr

namespace Go.Proofs.YtbljhjfaimnieaaGreat.attr
open Go.RowKit Go.Proofs.YtbljhjfaimnieaaGreat.kit Go.Proofs.YtbljhjfaimnieaaGreat.mem Go.Proofs.YtbljhjfaimnieaaGreat.foot Go.Proofs.YtbljhjfaimnieaaGreat.nums Go.Proofs.YtbljhjfaimnieaaGreat.asn Go.Proofs.YtbljhjfaimnieaaGreat.pth
set_option linter.unusedVariables false
set_option linter.unusedSimpArgs false
/-- attributes that may be told -/
structure GoodA (a : Atr) : Prop where
  norm : normA a = a
  lo : 0 ≤ a.orig
  hi : a.orig ≤ 2
  few : a.comms.length ≤ 255
  hop : bitI a.has 3 = true → hopB a.hop = true
  ways : WaysS a.path
theorem bool_of (p : Prop) : ∃ b : Bool, b = true ↔ p := by
  rcases Classical.em p with h | h
  · exact ⟨true, by simp [h]⟩
  · exact ⟨false, by simp [h]⟩
theorem nsz_normA (a : Atr) : nsz (normA a).path ≤ 2 * nsz a.path := by
  show nsz (selL (bitI a.has 2) (normS a.path)) ≤ _
  unfold selL
  cases bitI a.has 2
  · simp [nsz]
  · exact nsz_norm a.path
theorem comms_normA (a : Atr) : (normA a).comms.length ≤ a.comms.length := by
  show (selL (bitI a.has 8) (setN a.comms)).length ≤ _
  unfold selL
  cases bitI a.has 8
  · simp
  · exact setN_len a.comms
set_option maxRecDepth 100000 in
set_option maxHeartbeats 8000000 in
theorem good_any (a : Atr) (Ap Ac : Option Addr) (cp cc : Nat) (G : Foot) (w : World) (z : Bool) (hz : z = true ↔ GoodA a) (hm : Am w G a Ap cp Ac cc) (hp : nsz a.path ≤ 100000) (hcm : a.comms.length ≤ 1000000) :
    Calls Tryz.prog 78 #[.agg (atc a Ap cp Ac cc).toArray] w fun e w' => e = .returned (.bool z) ∧ Below w.heap.size w w' := by
  obtain ⟨z1, hz1⟩ := bool_of (normA a = a)
  obtain ⟨z2, hz2⟩ := bool_of (WaysS a.path)
  have HNm : Hid (∀ w', Below w.heap.size w w' → Calls Tryz.prog 71 #[.agg (atc a Ap cp Ac cc).toArray] w' fun e w2 => ∃ r : Array Value, e = .returned (.agg r) ∧ Below w'.heap.size w' w2 ∧ ∀ w3, Below w2.heap.size w2 w3 → Calls Tryz.prog 77 #[.agg r, .agg (atc a Ap cp Ac cc).toArray] w3 fun e w4 => e = .returned (.bool z1) ∧ Below w3.heap.size w3 w4) := fun w' hb => by
    refine (norm_any a Ap Ac cp cc G w' (hm.bel hb) hp hcm).mono ?_
    rintro e w2 ⟨Bp, dp, Bc, dc, rfl, hA, hb2⟩
    refine ⟨_, rfl, hb2, fun w3 hb3 => ?_⟩
    have h1 := nsz_normA a
    have h2 := comms_normA a
    exact same_any (normA a) a Bp Bc Ap Ac dp dc cp cc _ G w3 z1 hz1 (hA.bel hb3) ((hm.bel (hb.trans (hb2.mono hb.size))).bel hb3) (by omega) (by omega) (by omega) (by omega)
  have HHs : Hid (∀ w', Calls Tryz.prog 79 #[.agg (atc a Ap cp Ac cc).toArray, .int .i64 3] w' fun e w2 => e = .returned (.bool (bitI a.has 3)) ∧ Below w'.heap.size w' w2) := fun w' => has_any a Ap Ac cp cc 3 (by omega) w'
  have HHp : Hid (∀ w', Calls Tryz.prog 102 #[.int .u32 a.hop] w' fun e w2 => e = .returned (.bool (hopB a.hop)) ∧ w' = w2) := fun w' => hop_any a.hop hm.wf.hop w'
  have HWy : Hid (∀ w', Below w.heap.size w w' → Calls Tryz.prog 103 #[.slice Ap a.path.length cp] w' fun e w2 => e = .returned (.bool z2) ∧ Below w'.heap.size w' w2) := fun w' hb => ways_any Ap cp a.path G w' z2 hz2 (by omega) (hm.sp.els.bel keeps_seg hb)
  have HZ : Hid (z1 = false ∨ a.orig < 0 ∨ 2 < a.orig ∨ 255 < a.comms.length ∨ (bitI a.has 3 = true ∧ hopB a.hop = false) → z = false) := fun h => by
    rw [← Bool.not_eq_true, hz]
    intro hg
    rcases h with h | h | h | h | ⟨h, k⟩
    · rw [← Bool.not_eq_true, hz1] at h; exact h hg.norm
    · have := hg.lo; omega
    · have := hg.hi; omega
    · have := hg.few; omega
    · rw [hg.hop h] at k; cases k
  have HZt : Hid (z1 = true → 0 ≤ a.orig → a.orig ≤ 2 → a.comms.length ≤ 255 → (bitI a.has 3 = true → hopB a.hop = true) → z = z2) := fun h1 h2 h3 h4 h5 => by
    rw [Bool.eq_iff_iff, hz, hz2]
    exact ⟨fun h => h.ways, fun h => ⟨hz1.1 h1, h2, h3, h4, h5, h⟩⟩
  clear hz hz1 hz2 hm hp hcm
  have e : (atc a Ap cp Ac cc).toArray = #[.int .i64 a.has, .int .i64 a.orig, .slice Ap a.path.length cp, .int .u32 a.hop, .int .u32 a.med, .int .u32 a.pref, .int .u32 a.aas, .int .u32 a.aid, .slice Ac a.comms.length cc] := rfl
  rw [e] at HNm HHs ⊢
  clear e
  generalize bitI a.has 3 = b3 at *
  generalize hopB a.hop = bh at *
  generalize a.path.length = na at *
  generalize a.comms.length = nc at *
  generalize a.has = a0 at *
  generalize a.orig = a1 at *
  generalize a.hop = a3 at *
  generalize a.med = a4 at *
  generalize a.pref = a5 at *
  generalize a.aas = a6 at *
  generalize a.aid = a7 at *
  have HB : Hid (Below w.heap.size w (w.alloc (.cells #[.int .i64 a0, .int .i64 a1, .slice Ap na cp, .int .u32 a3, .int .u32 a4, .int .u32 a5, .int .u32 a6, .int .u32 a7, .slice Ac nc cc] 26))) := (Below.refl _ _).alloc (Nat.le_refl _) _
  have HK : Hid (Bk (w.alloc (.cells #[.int .i64 a0, .int .i64 a1, .slice Ap na cp, .int .u32 a3, .int .u32 a4, .int .u32 a5, .int .u32 a6, .int .u32 a7, .slice Ac nc cc] 26)) w.heap.size 26 #[.int .i64 a0, .int .i64 a1, .slice Ap na cp, .int .u32 a3, .int .u32 a4, .int .u32 a5, .int .u32 a6, .int .u32 a7, .slice Ac nc cc]) := Bk.new w _ _
  obtain ⟨w1, hw1⟩ : ∃ w1, w1 = w.alloc (.cells #[.int .i64 a0, .int .i64 a1, .slice Ap na cp, .int .u32 a3, .int .u32 a4, .int .u32 a5, .int .u32 a6, .int .u32 a7, .slice Ac nc cc] 26) := ⟨_, rfl⟩
  rw [← hw1] at HB HK
  have HU : Hid (∀ w', Below w1.heap.size w1 w' → w'.cell? ⟨w.heap.size, 0, none⟩ = some (.int .i64 a0) ∧ w'.cell? ⟨w.heap.size, 1, none⟩ = some (.int .i64 a1) ∧ w'.cell? ⟨w.heap.size, 2, none⟩ = some (.slice Ap na cp) ∧ w'.cell? ⟨w.heap.size, 3, none⟩ = some (.int .u32 a3) ∧ w'.cell? ⟨w.heap.size, 4, none⟩ = some (.int .u32 a4) ∧ w'.cell? ⟨w.heap.size, 5, none⟩ = some (.int .u32 a5) ∧ w'.cell? ⟨w.heap.size, 6, none⟩ = some (.int .u32 a6) ∧ w'.cell? ⟨w.heap.size, 7, none⟩ = some (.int .u32 a7) ∧ w'.cell? ⟨w.heap.size, 8, none⟩ = some (.slice Ac nc cc)) := fun w' hb => by
    have h := HK.out.below hb HK.out.lt
    exact ⟨(h.cell 0).trans rfl, (h.cell 1).trans rfl, (h.cell 2).trans rfl, (h.cell 3).trans rfl, (h.cell 4).trans rfl, (h.cell 5).trans rfl, (h.cell 6).trans rfl, (h.cell 7).trans rfl, (h.cell 8).trans rfl⟩
  have HSw0 : Hid (w1.cell? ⟨w.heap.size, 0, none⟩ = some (.int .i64 a0) ∧ w1.cell? ⟨w.heap.size, 1, none⟩ = some (.int .i64 a1) ∧ w1.cell? ⟨w.heap.size, 2, none⟩ = some (.slice Ap na cp) ∧ w1.cell? ⟨w.heap.size, 3, none⟩ = some (.int .u32 a3) ∧ w1.cell? ⟨w.heap.size, 4, none⟩ = some (.int .u32 a4) ∧ w1.cell? ⟨w.heap.size, 5, none⟩ = some (.int .u32 a5) ∧ w1.cell? ⟨w.heap.size, 6, none⟩ = some (.int .u32 a6) ∧ w1.cell? ⟨w.heap.size, 7, none⟩ = some (.int .u32 a7) ∧ w1.cell? ⟨w.heap.size, 8, none⟩ = some (.slice Ac nc cc)) := HU.out _ (Below.refl _ _)
  have HSd : Hid (w1.drew.cell? ⟨w.heap.size, 0, none⟩ = some (.int .i64 a0) ∧ w1.drew.cell? ⟨w.heap.size, 1, none⟩ = some (.int .i64 a1) ∧ w1.drew.cell? ⟨w.heap.size, 2, none⟩ = some (.slice Ap na cp) ∧ w1.drew.cell? ⟨w.heap.size, 3, none⟩ = some (.int .u32 a3) ∧ w1.drew.cell? ⟨w.heap.size, 4, none⟩ = some (.int .u32 a4) ∧ w1.drew.cell? ⟨w.heap.size, 5, none⟩ = some (.int .u32 a5) ∧ w1.drew.cell? ⟨w.heap.size, 6, none⟩ = some (.int .u32 a6) ∧ w1.drew.cell? ⟨w.heap.size, 7, none⟩ = some (.int .u32 a7) ∧ w1.drew.cell? ⟨w.heap.size, 8, none⟩ = some (.slice Ac nc cc)) := HU.out _ (Below.refl _ _).drew
  have HNd := Lib.hid (HNm.out w1.drew (HB.out.drew))
  go_enter Tryz.func78, Tryz.ntmps78
  go_upto_region 1 with fail
  rw [← hw1]
  clear hw1
  go_region_held3 (fun w' => w'.cell? ⟨w.heap.size, 0, none⟩ = some (.int .i64 a0) ∧ w'.cell? ⟨w.heap.size, 1, none⟩ = some (.int .i64 a1) ∧ w'.cell? ⟨w.heap.size, 2, none⟩ = some (.slice Ap na cp) ∧ w'.cell? ⟨w.heap.size, 3, none⟩ = some (.int .u32 a3) ∧ w'.cell? ⟨w.heap.size, 4, none⟩ = some (.int .u32 a4) ∧ w'.cell? ⟨w.heap.size, 5, none⟩ = some (.int .u32 a5) ∧ w'.cell? ⟨w.heap.size, 6, none⟩ = some (.int .u32 a6) ∧ w'.cell? ⟨w.heap.size, 7, none⟩ = some (.int .u32 a7) ∧ w'.cell? ⟨w.heap.size, 8, none⟩ = some (.slice Ac nc cc)) (first | exact HSw4.out | exact HSw3.out | exact HSd.out | exact HSw0.out) (first
    | (go_at_call 71; (with_reducible refine HNd.out.mono ?_); rintro e w3 ⟨r, rfl, hb3, hs3⟩; go_must (have HB3 := Lib.hid (((Below.refl w1.heap.size w1).drew).trans (hb3.mono (Below.refl w1.heap.size w1).drew.size))); go_must (have HSw3 : Hid (w3.cell? ⟨w.heap.size, 0, none⟩ = some (.int .i64 a0) ∧ w3.cell? ⟨w.heap.size, 1, none⟩ = some (.int .i64 a1) ∧ w3.cell? ⟨w.heap.size, 2, none⟩ = some (.slice Ap na cp) ∧ w3.cell? ⟨w.heap.size, 3, none⟩ = some (.int .u32 a3) ∧ w3.cell? ⟨w.heap.size, 4, none⟩ = some (.int .u32 a4) ∧ w3.cell? ⟨w.heap.size, 5, none⟩ = some (.int .u32 a5) ∧ w3.cell? ⟨w.heap.size, 6, none⟩ = some (.int .u32 a6) ∧ w3.cell? ⟨w.heap.size, 7, none⟩ = some (.int .u32 a7) ∧ w3.cell? ⟨w.heap.size, 8, none⟩ = some (.slice Ac nc cc)) := HU.out _ HB3.out); go_must (have HSm := Lib.hid (hs3 w3 (Below.refl _ _))); clear hb3 hs3)
    | (go_at_call 77; (with_reducible refine HSm.out.mono ?_); rintro e w4 ⟨rfl, hb4⟩; go_must (have HB4 := Lib.hid (HB3.out.trans (hb4.mono HB3.out.size))); go_must (have HSw4 : Hid (w4.cell? ⟨w.heap.size, 0, none⟩ = some (.int .i64 a0) ∧ w4.cell? ⟨w.heap.size, 1, none⟩ = some (.int .i64 a1) ∧ w4.cell? ⟨w.heap.size, 2, none⟩ = some (.slice Ap na cp) ∧ w4.cell? ⟨w.heap.size, 3, none⟩ = some (.int .u32 a3) ∧ w4.cell? ⟨w.heap.size, 4, none⟩ = some (.int .u32 a4) ∧ w4.cell? ⟨w.heap.size, 5, none⟩ = some (.int .u32 a5) ∧ w4.cell? ⟨w.heap.size, 6, none⟩ = some (.int .u32 a6) ∧ w4.cell? ⟨w.heap.size, 7, none⟩ = some (.int .u32 a7) ∧ w4.cell? ⟨w.heap.size, 8, none⟩ = some (.slice Ac nc cc)) := HU.out _ HB4.out); clear hb4))
  obtain ⟨c0, c1, c2, c3, c4, c5, c6, c7, c8⟩ := HSw4.out
  have HB5 := Lib.hid (HB.out.trans (HB4.out.mono HB.out.size))
  clear HSw0 HSd HSw3 HSm HNd HNm
  rcases z1 with _ | _
  · have HZf := Lib.hid (HZ.out (.inl rfl))
    go_wp2_with fail
    go_ret
    exact ⟨by rw [HZf.out]; rfl, HB5.out⟩
  by_cases h1 : a1 < 0
  · have HZf := Lib.hid (HZ.out (.inr (.inl h1)))
    have d1 : decide (a1 < 0) = true := by simp [h1]
    go_wp2_with fail
    go_ret
    exact ⟨by rw [HZf.out]; rfl, HB5.out⟩
  have d1 : decide (a1 < 0) = false := by simp; omega
  by_cases h2 : 2 < a1
  · have HZf := Lib.hid (HZ.out (.inr (.inr (.inl h2))))
    have d2 : decide (2 < a1) = true := by simp [h2]
    go_wp2_with fail
    go_ret
    exact ⟨by rw [HZf.out]; rfl, HB5.out⟩
  have d2 : decide (2 < a1) = false := by simp; omega
  by_cases h3 : 255 < nc
  · have HZf := Lib.hid (HZ.out (.inr (.inr (.inr (.inl h3)))))
    have d3 : decide ((255 : Int) < (nc : Int)) = true := by simp; omega
    go_wp2_with fail
    go_ret
    exact ⟨by rw [HZf.out]; rfl, HB5.out⟩
  have d3 : decide ((255 : Int) < (nc : Int)) = false := by simp; omega
  have HU4 : Hid (∀ w', Below w4.heap.size w4 w' → w'.cell? ⟨w.heap.size, 2, none⟩ = some (.slice Ap na cp) ∧ w'.cell? ⟨w.heap.size, 3, none⟩ = some (.int .u32 a3)) := fun w' hb => by
    have hk := (HK.out.below HB4.out HK.out.lt).below hb (Nat.lt_of_lt_of_le HK.out.lt HB4.out.size)
    exact ⟨(hk.cell 2).trans rfl, (hk.cell 3).trans rfl⟩
  have HZa := Lib.hid (fun h5 => HZt.out rfl (by omega) (by omega) (by omega) h5)
  rcases b3 with _ | _
  · have HZe := Lib.hid (HZa.out (fun h => by cases h))
    go_wp2_with (first
      | (go_at_call 79; refine (HHs.out w4).mono ?_; rintro e w5 ⟨rfl, hb5⟩; have HB6 := Lib.hid (HB5.out.trans (hb5.mono HB5.out.size)); have u2 := (HU4.out _ hb5).1; have u3 := (HU4.out _ hb5).2; clear hb5)
      | (go_at_call 103; refine (HWy.out _ HB6.out).mono ?_; rintro e w6 ⟨rfl, hb6⟩; have HB7 := Lib.hid (HB6.out.trans (hb6.mono HB6.out.size)); clear hb6))
    go_ret
    exact ⟨by rw [HZe.out]; rfl, HB7.out⟩
  · rcases bh with _ | _
    · have HZf := Lib.hid (HZ.out (.inr (.inr (.inr (.inr ⟨rfl, rfl⟩)))))
      go_wp2_with (first
        | (go_at_call 79; refine (HHs.out w4).mono ?_; rintro e w5 ⟨rfl, hb5⟩; have HB6 := Lib.hid (HB5.out.trans (hb5.mono HB5.out.size)); have u2 := (HU4.out _ hb5).1; have u3 := (HU4.out _ hb5).2; clear hb5)
        | (go_at_call 102; refine (HHp.out _).mono ?_; rintro e w6 ⟨rfl, rfl⟩))
      go_ret
      exact ⟨by rw [HZf.out]; rfl, HB6.out⟩
    · have HZe := Lib.hid (HZa.out (fun _ => rfl))
      go_wp2_with (first
        | (go_at_call 79; refine (HHs.out w4).mono ?_; rintro e w5 ⟨rfl, hb5⟩; have HB6 := Lib.hid (HB5.out.trans (hb5.mono HB5.out.size)); have u2 := (HU4.out _ hb5).1; have u3 := (HU4.out _ hb5).2; clear hb5)
        | (go_at_call 102; refine (HHp.out _).mono ?_; rintro e w6 ⟨rfl, rfl⟩)
        | (go_at_call 103; refine (HWy.out _ HB6.out).mono ?_; rintro e w6 ⟨rfl, hb6⟩; have HB7 := Lib.hid (HB6.out.trans (hb6.mono HB6.out.size)); clear hb6))
      go_ret
      exact ⟨by rw [HZe.out]; rfl, HB7.out⟩
end Go.Proofs.YtbljhjfaimnieaaGreat.attr
