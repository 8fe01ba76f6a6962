/- What the sort makes of numbers of 32 bits: rounds, a call of itself for the lesser side. Conditions as each statement says. -/
import Derived.Sort.AssemblyPlain
import Derived.Deep.CutBlock
import Derived.Deep.DeepCutAuto
import Derived.Test.YtafepficapdepaaSuIns
import Derived.Test.YtafepficapdepaaSuRev
import Derived.Test.YtafepficapdepaaSuHeap
import Derived.Test.YtafepficapdepaaSuPartEq
import Derived.Test.YtafepficapdepaaSuPart
import Derived.Test.YtafepficapdepaaSuPi
import Derived.Test.YtafepficapdepaaSuPiv
import Derived.Test.YtafepficapdepaaSuBreak
namespace Go.Proofs.Ytafepficapdepaa.su
open Go.Proofs Go.RowKit Go.Sort Go.Proofs.Ytafepficapdepaa.kit
set_option linter.unusedVariables false
set_option linter.unusedSimpArgs false
section
variable {w wr w' : World} {blk off cap a b N : Nat} {d d' : Array Int}
theorem At.on (h : At eu w blk off d wr) (hb : blk < w.heap.size) (h2 : At eu wr blk off d' w') (hs : d'.size = d.size) : At eu w blk off d' w' := by
  obtain ⟨m, os, e⟩ := h2
  exact h.stepG hb hs ⟨m, os, e⟩
/-- the row of N numbers that says d -/
def Say (w : World) (blk off N : Nat) (d : Array Int) : Prop := Holds eu w blk off d ∧ blk < w.heap.size ∧ d.size = N ∧ N < 1152921504606846976
theorem Say.at_ (h : Say w blk off N d) (h2 : At eu w blk off d' w') (hs : d'.size = d.size) : Say w' blk off N d' := by
  obtain ⟨h1, h3⟩ := h2.holds h.1 hs h.2.1
  exact ⟨h1, h3, hs.trans h.2.2.1, h.2.2.2⟩
end
abbrev sl (blk off N cap : Nat) : Value := .slice (some ⟨blk, off, none⟩) N cap
section
variable {w : World} {blk off cap a b N : Nat} {d : Array Int}
theorem c_ins (h : Say w blk off N d) (hab : a ≤ b) (hb : b ≤ N) : Calls Try.prog 180 #[sl blk off N cap, .int .i64 a, .int .i64 b] w fun e w' =>
    e = .returned (.tuple #[]) ∧ ∃ R, At eu w blk off R w' ∧ PermIn a b d R ∧ SortedIn ltInt a b R := by
  obtain ⟨h1, h2, h3, h4⟩ := h
  obtain ⟨p, s⟩ := insertionSort_holds swo_ltInt d a b hab (by omega)
  have := ins_any blk off cap a b d w h1 h2 hab (by omega) (by omega)
  rw [h3] at this
  exact this.mono fun e w' ⟨he, hA⟩ => ⟨he, _, hA, p, s⟩
theorem c_heap (h : Say w blk off N d) (hab : a ≤ b) (hb : b ≤ N) : Calls Try.prog 181 #[sl blk off N cap, .int .i64 a, .int .i64 b] w fun e w' =>
    e = .returned (.tuple #[]) ∧ ∃ R, At eu w blk off R w' ∧ PermIn a b d R ∧ SortedIn ltInt a b R := by
  obtain ⟨h1, h2, h3, h4⟩ := h
  obtain ⟨p, s⟩ := heapSort_holds swo_ltInt d a b hab (by omega)
  exact (heap_any blk off cap a b d N h3.symm w h1 h2 hab hb h4).mono fun e w' ⟨he, hA⟩ => ⟨he, _, hA, p, s⟩
theorem c_rev (h : Say w blk off N d) (hab : a < b) (hb : b ≤ N) : Calls Try.prog 184 #[sl blk off N cap, .int .i64 a, .int .i64 b] w fun e w' =>
    e = .returned (.tuple #[]) ∧ ∃ R, At eu w blk off R w' ∧ PermIn a b d R := by
  obtain ⟨h1, h2, h3, h4⟩ := h
  have p := reverseRange_holds d a b (by omega) (by omega)
  have := rev_any blk off cap a b d w h1 h2 hab (by omega) (by omega)
  rw [h3] at this
  exact this.mono fun e w' ⟨he, hA⟩ => ⟨he, _, hA, p⟩
theorem c_break (h : Say w blk off N d) (hab : a ≤ b) (hb : b ≤ N) : Calls Try.prog 182 #[sl blk off N cap, .int .i64 a, .int .i64 b] w fun e w' =>
    e = .returned (.tuple #[]) ∧ ∃ R, At eu w blk off R w' ∧ PermIn a b d R := by
  obtain ⟨h1, h2, h3, h4⟩ := h
  exact break_any blk off cap a b d N h3.symm w h1 h2 hab hb h4
theorem c_pivot (h : Say w blk off N d) (hab : a < b) (hb : b ≤ N) : Calls Try.prog 183 #[sl blk off N cap, .int .i64 a, .int .i64 b] w fun e w' =>
    ∃ (p : Nat) (c : Int), e = .returned (.tuple #[.int .i64 p, .int .i64 c]) ∧ a ≤ p ∧ p < b ∧ At eu w blk off d w' := by
  obtain ⟨h1, h2, h3, h4⟩ := h
  have p := choosePivot_holds ltInt d a b hab
  refine (pivot_any blk off cap a b d N h3.symm w h1 h2 hab hb h4).mono fun e w' ⟨he, n, os, hw⟩ => ⟨_, _, he, p.1, p.2, ?_⟩
  exact (At.refl h1).same h1 rfl h2 ⟨n, os, hw⟩
theorem c_pi (h : Say w blk off N d) (hab : a < b) (hb : b ≤ N) (hB : Go.Sort.Below ltInt a b d) : Calls Try.prog 185 #[sl blk off N cap, .int .i64 a, .int .i64 b] w fun e w' =>
    ∃ (c : Bool) (R : Array Int), e = .returned (.bool c) ∧ At eu w blk off R w' ∧ PermIn a b d R ∧ (c = true → SortedIn ltInt a b R) := by
  obtain ⟨h1, h2, h3, h4⟩ := h
  obtain ⟨p, s⟩ := partialInsertionSort_holds swo_ltInt d a b hab (by omega) hB
  exact (pi_any blk off cap a b d N h3.symm w h1 h2 hab hb h4).mono fun e w' ⟨he, hA⟩ => ⟨_, _, he, hA, p, s⟩
/-- what one round that parts by an equal one leaves to be done -/
theorem c_parteq {p : Nat} (h : Say w blk off N d) (ha : 0 < a) (hap : a ≤ p) (hpb : p < b) (hb : b ≤ N) (hB : Go.Sort.Below ltInt a b d) (hnl : ltInt d[a - 1]! d[p]! = false) :
    Calls Try.prog 187 #[sl blk off N cap, .int .i64 a, .int .i64 b, .int .i64 p] w fun e w' =>
    ∃ (m : Nat) (R : Array Int), e = .returned (.int .i64 m) ∧ a < m ∧ m ≤ b ∧ At eu w blk off R w' ∧ R.size = d.size ∧ Go.Sort.Below ltInt m b R ∧ ∀ Q, PermIn m b R Q → SortedIn ltInt m b Q → PermIn a b d Q ∧ SortedIn ltInt a b Q := by
  obtain ⟨h1, h2, h3, h4⟩ := h
  obtain ⟨q1, q2, q3, q4, q5⟩ := round_eq swo_ltInt (partitionEqual_holds ltInt) ha hap hpb (by omega) hB hnl (mid := (partitionEqual ltInt d a b p).1) (d4 := (partitionEqual ltInt d a b p).2) rfl
  exact (parteq_any blk off cap a b p d N h3.symm w h1 h2 hap hpb hb h4).mono fun e w' ⟨he, hA⟩ => ⟨_, _, he, q1, q2, hA, q3, q4, q5⟩
/-- .. and one that parts by one of them -/
theorem c_part {p : Nat} (h : Say w blk off N d) (hap : a ≤ p) (hpb : p < b) (hb : b ≤ N) (hB : Go.Sort.Below ltInt a b d) :
    Calls Try.prog 188 #[sl blk off N cap, .int .i64 a, .int .i64 b, .int .i64 p] w fun e w' =>
    ∃ (m : Nat) (c : Bool) (R : Array Int), e = .returned (.tuple #[.int .i64 m, .bool c]) ∧ a ≤ m ∧ m < b ∧ At eu w blk off R w' ∧ R.size = d.size ∧ Go.Sort.Below ltInt a m R ∧ Go.Sort.Below ltInt (m + 1) b R ∧
      (∀ L, PermIn a m R L → SortedIn ltInt a m L → Go.Sort.Below ltInt (m + 1) b L ∧ ∀ Q, PermIn (m + 1) b L Q → SortedIn ltInt (m + 1) b Q → PermIn a b d Q ∧ SortedIn ltInt a b Q) ∧
      (∀ L, PermIn (m + 1) b R L → SortedIn ltInt (m + 1) b L → Go.Sort.Below ltInt a m L ∧ ∀ Q, PermIn a m L Q → SortedIn ltInt a m Q → PermIn a b d Q ∧ SortedIn ltInt a b Q) := by
  obtain ⟨h1, h2, h3, h4⟩ := h
  obtain ⟨q1, q2, q3, q4, q5, q6, q7⟩ := round_part swo_ltInt (partition_holds ltInt) hap hpb (by omega) hB (mid := (partition ltInt d a b p).1) (ap := (partition ltInt d a b p).2.1) (d4 := (partition ltInt d a b p).2.2) rfl
  exact (part_any blk off cap a b p d N h3.symm w h1 h2 hap hpb hb h4).mono fun e w' ⟨he, hA⟩ => ⟨_, _, _, he, q1, q2, hA, q3, q4, q5, q6, q7⟩
end
/-- what is left to do: whoever sorts [a, b) of dk has sorted [a0, b0) of d -/
structure Left (w : World) (blk off N a0 b0 a b : Nat) (d dk : Array Int) (wr : World) : Prop where
  says : At eu w blk off dk wr
  size : dk.size = d.size
  le : a ≤ b
  hi : b ≤ N
  below : Go.Sort.Below ltInt a b dk
  done : ∀ R, PermIn a b dk R → SortedIn ltInt a b R → PermIn a0 b0 d R ∧ SortedIn ltInt a0 b0 R
section
variable {w wr w' : World} {blk off N a0 b0 a b : Nat} {d dk R : Array Int}
theorem Left.say (h : Left w blk off N a0 b0 a b d dk wr) (h0 : Say w blk off N d) : Say wr blk off N dk := h0.at_ h.says h.size
theorem Left.perm (h : Left w blk off N a0 b0 a b d dk wr) (h0 : Say w blk off N d) (hA : At eu wr blk off R w') (hp : PermIn a b dk R) : Left w blk off N a0 b0 a b d R w' :=
  ⟨At.on h.says h0.2.1 hA hp.1, hp.1.trans h.size, h.le, h.hi, h.below.perm (by rw [h.size, h0.2.2.1]; exact h.hi) hp, fun Q h1 h2 => h.done Q (permIn_trans _ _ _ a b hp h1) h2⟩
theorem Left.fin (h : Left w blk off N a0 b0 a b d dk wr) (h0 : Say w blk off N d) (hA : At eu wr blk off R w') (hp : PermIn a b dk R) (hs : SortedIn ltInt a b R) : At eu w blk off R w' ∧ PermIn a0 b0 d R ∧ SortedIn ltInt a0 b0 R :=
  ⟨At.on h.says h0.2.1 hA hp.1, h.done R hp hs⟩
end
/-- what the sort of [a, b) hands back -/
def Sorts (w : World) (blk off a b : Nat) (d : Array Int) (e : Ending) (w' : World) : Prop := e = .returned (.tuple #[]) ∧ ∃ R, At eu w blk off R w' ∧ PermIn a b d R ∧ SortedIn ltInt a b R
set_option maxRecDepth 100000 in
set_option maxHeartbeats 16000000 in
theorem pdq_step (n blk off cap N : Nat) (hN : N < 1152921504606846976) (IH : ∀ (a b lim : Nat) (d : Array Int) (w : World), b - a < n → Say w blk off N d → a ≤ b → b ≤ N → lim < 1000 → Go.Sort.Below ltInt a b d →
      Calls Try.prog 165 #[sl blk off N cap, .int .i64 a, .int .i64 b, .int .i64 lim] w (Sorts w blk off a b d))
    (a b lim : Nat) (d : Array Int) (w : World) (hn : b - a ≤ n) (h0 : Say w blk off N d) (hab : a ≤ b) (hb : b ≤ N) (hlim : lim < 1000) (hB : Go.Sort.Below ltInt a b d) :
    Calls Try.prog 165 #[sl blk off N cap, .int .i64 a, .int .i64 b, .int .i64 lim] w (Sorts w blk off a b d) := by
  have HI := Lib.hid IH
  have H0 := Lib.hid h0
  have HL0 : Hid (Left w blk off N a b a b d d w) := ⟨At.refl h0.1, rfl, hab, hb, hB, fun R h1 h2 => ⟨h1, h2⟩⟩
  have HFin : Hid (∀ (R : Array Int) (wx : World), (At eu w blk off R wx ∧ PermIn a b d R ∧ SortedIn ltInt a b R) → Sorts w blk off a b d (.returned (.tuple #[])) wx) := fun R wx h => ⟨rfl, R, h⟩
  have HCell : Hid (∀ (a' b' : Nat) (dk : Array Int) (wx : World), Left w blk off N a b a' b' d dk wx → ∀ t, t < N → wx.cell? ⟨blk, off + t, none⟩ = some (.int .u32 dk[t]!) ∧ wx.frozen? ⟨blk, off + t, none⟩ = false) := fun a' b' dk wx h t ht => by
    have hs := h.size.trans h0.2.2.1
    have := (h.say h0).1 t (by omega)
    exact this
  generalize Sorts w blk off a b d = Fin at *
  clear IH h0 hB
  go_enter Try.func165, Try.ntmps165
  go_wp2_with fail
  go_loopw [1, 2, 3, 8, 9] (fun v1 v2 v3 v8 v9 wr => ∃ (a' b' l' : Nat) (wb wp : Bool) (dk : Array Int), v1 = .int .i64 (a' : Int) ∧ v2 = .int .i64 (b' : Int) ∧ v3 = .int .i64 (l' : Int) ∧ v8 = .bool wb ∧ v9 = .bool wp ∧ l' < 1000 ∧ b' - a' ≤ n ∧ Left w blk off N a b a' b' d dk wr) (fun v1 v2 _ _ _ _ => (intOf v2 - intOf v1).toNat)
  case atStart => exact ⟨a, b, lim, true, true, d, rfl, rfl, rfl, rfl, rfl, hlim, hn, HL0.out⟩
  case round =>
    obtain ⟨a', b', l', wb, wp, dk, rfl, rfl, rfl, rfl, rfl, hl, hn', hL⟩ := hrel
    have hle := hL.le
    have hhi := hL.hi
    have HL := Lib.hid hL
    clear hL
    obtain ⟨L, hL⟩ : ∃ L, L = b' - a' := ⟨_, rfl⟩
    have eL : (b' : Int) - (a' : Int) = (L : Int) := by omega
    have hLn : a' + L = b' := by omega
    have HLn : Hid (a' + L = b') := hLn
    clear hL
    by_cases h12 : L ≤ 12
    · have HC := Lib.hid (c_ins (cap := cap) (HL.out.say H0.out) hle hhi)
      clear hLn
      go_wp2_with (go_at_call 180; refine HC.out.mono ?_; rintro e w1 ⟨rfl, R, hA, hp, hs⟩)
      refine bodyPost_ret (results_none rfl _ _ _) rfl ?_
      exact HFin.out R _ (HL.out.fin H0.out hA hp hs)
    by_cases hz : l' = 0
    · have HC := Lib.hid (c_heap (cap := cap) (HL.out.say H0.out) hle hhi)
      clear hLn
      go_wp2_with (go_at_call 181; refine HC.out.mono ?_; rintro e w1 ⟨rfl, R, hA, hp, hs⟩)
      refine bodyPost_ret (results_none rfl _ _ _) rfl ?_
      exact HFin.out R _ (HL.out.fin H0.out hA hp hs)
    have hlt : a' < b' := by omega
    go_upto_if 35 with fail
    go_cut [3] (fun v3 wx => ∃ (l2 : Nat) (d2 : Array Int), v3 = .int .i64 (l2 : Int) ∧ l2 < 1000 ∧ Left w blk off N a b a' b' d d2 wx)
    case first =>
      cases wb
      · have HC := Lib.hid (c_break (cap := cap) (HL.out.say H0.out) hle hhi)
        go_wp2_with (go_at_call 182; refine HC.out.mono ?_; rintro e w1 ⟨rfl, R, hA, hp⟩)
        go_meet
        exact ⟨l' - 1, R, by go_num, by omega, HL.out.perm H0.out hA hp⟩
      · go_wp2_with fail
        go_meet
        exact ⟨l', dk, rfl, hl, HL.out⟩
    case' rest =>
      obtain ⟨l2, d2, rfl, hl2, hL⟩ := hcut
      have HL2 := Lib.hid hL
      clear hL HL hl hz
      have HC := Lib.hid (c_pivot (cap := cap) (HL2.out.say H0.out) hlt hhi)
      go_upto_if 50 with (go_at_call 183; refine HC.out.mono ?_; rintro e w1 ⟨p, c, rfl, hp1, hp2, hA⟩; have HL3 := Lib.hid (HL2.out.perm H0.out hA (permIn_refl _ _ _)); clear hA)
      go_cut [11, 12] (fun v11 v12 wx => ∃ (p : Nat) (c : Int) (d3 : Array Int), v11 = .int .i64 (p : Int) ∧ v12 = .int .i64 c ∧ a' ≤ p ∧ p < b' ∧ Left w blk off N a b a' b' d d3 wx)
      case first =>
        by_cases h2 : c = 2
        · have e2 : (c == 2) = true := by simp [h2]
          have HC := Lib.hid (c_rev (cap := cap) (HL3.out.say H0.out) hlt hhi)
          clear h2
          go_wp2_with (go_at_call 184; refine HC.out.mono ?_; rintro e w2 ⟨rfl, R, hA, hp⟩)
          go_meet
          exact ⟨(b' - 1) - (p - a'), 1, R, by congr 1; omega, rfl, by omega, by omega, HL3.out.perm H0.out hA hp⟩
        · have e2 : (c == 2) = false := by simp [h2]
          go_wp2_with fail
          go_meet
          exact ⟨p, c, d2, rfl, rfl, hp1, hp2, HL3.out⟩
      case' rest =>
        obtain ⟨p, c, d3, rfl, rfl, hp1, hp2, hL⟩ := hcut
        have HL4 := Lib.hid hL
        clear hL HL2
        go_upto_region 15 with fail
        go_cut [68] (fun s wx => ∃ k : Bool, s = .bool k ∧ Left w blk off N a b a' b' d d3 wx)
        case first =>
          cases wb
          · go_wp2_with fail
            go_meet
            exact ⟨_, rfl, HL4.out⟩
          cases wp
          · go_wp2_with fail
            go_meet
            exact ⟨_, rfl, HL4.out⟩
          go_wp2_with fail
          go_meet
          exact ⟨_, rfl, HL4.out⟩
        case' rest =>
        obtain ⟨k, rfl, hL⟩ := hcut
        have HL4' := Lib.hid hL
        clear hL HL4
        go_upto_if 68 with fail
        go_cut [] (fun wx => ∃ (d4 : Array Int), Left w blk off N a b a' b' d d4 wx)
        case first =>
          have HC := Lib.hid (c_pi (cap := cap) (HL4'.out.say H0.out) hlt hhi HL4'.out.below)
          cases k
          · go_wp2_with fail
            go_meet
            exact ⟨d3, HL4'.out⟩
          · have HE1 : Hid (∀ (R : Array Int) (w2 : World), At eu wc blk off R w2 → PermIn a' b' d3 R → Left w blk off N a b a' b' d R w2) := fun R w2 hA hp => HL4'.out.perm H0.out hA hp
            have HE2 : Hid (∀ (R : Array Int) (w2 : World), At eu wc blk off R w2 → PermIn a' b' d3 R → SortedIn ltInt a' b' R → Fin (.returned (.tuple #[])) w2) := fun R w2 hA hp hs => HFin.out R _ (HL4'.out.fin H0.out hA hp hs)
            go_wp2_with (go_at_call 185; refine HC.out.mono ?_; rintro e w2 ⟨k, R, rfl, hA, hp, hs⟩; have HE3 := Lib.hid (HE1.out R w2 hA hp); have HE4 : Hid (k = true → Fin (.returned (.tuple #[])) w2) := (fun h => HE2.out R w2 hA hp (hs h)); clear hA hp hs; cases k)
            · go_meet
              exact ⟨R, HE3.out⟩
            · refine bodyPost_ret (results_none rfl _ _ _) rfl ?_
              exact HE4.out (by simp)
        case' rest =>
          obtain ⟨d4, hL⟩ := hcut
          have HL5 := Lib.hid hL
          clear hL HL4'
          go_upto_region 17 with fail
          go_cut [87] (fun s wx => ∃ k : Bool, s = .bool k ∧ (k = true → 0 < a' ∧ ltInt d4[a' - 1]! d4[p]! = false) ∧ Left w blk off N a b a' b' d d4 wx)
          case first =>
            obtain ⟨G, hG⟩ : ∃ G : Nat → Int, ∀ t, G t = d4[t]! := ⟨fun t => d4[t]!, fun _ => rfl⟩
            have HG := Lib.hid hG
            have hcw : ∀ t, t < N → wc.cell? ⟨blk, off + t, none⟩ = some (.int .u32 (G t)) := fun t ht => by rw [hG]; exact (HCell.out _ _ _ _ HL5.out t ht).1
            have hfw : ∀ t, t < N → wc.frozen? ⟨blk, off + t, none⟩ = false := fun t ht => (HCell.out _ _ _ _ HL5.out t ht).2
            clear hG
            have hpN : p < N := by omega
            by_cases h00 : 0 < a'
            · have haN : a' - 1 < N := by omega
              have qa : (a' : Int) - 1 < (N : Int) := by omega
              go_wp2_with fail
              go_quiet (first | (go_at_call 186; refine Calls.quiet_of_same (Less_any _ _ _)))
              go_wp2_with fail
              go_meet
              exact ⟨_, rfl, fun h => ⟨h00, by rw [← HG.out, ← HG.out]; simpa using h⟩, HL5.out.perm H0.out ((At.refl (HL5.out.say H0.out).1).ahead nq) (permIn_refl _ _ _)⟩
            · go_wp2_with fail
              go_quiet (first | (go_at_call 186; refine Calls.quiet_of_same (Less_any _ _ _)))
              go_wp2_with fail
              go_meet
              exact ⟨false, rfl, (fun h => by cases h), HL5.out.perm H0.out ((At.refl (HL5.out.say H0.out).1).ahead nq) (permIn_refl _ _ _)⟩
          case' rest =>
            obtain ⟨k, rfl, hk, hL⟩ := hcut
            have HL6 := Lib.hid hL
            have HK := Lib.hid hk
            clear hL hk HL5
            cases k
            · have HC := Lib.hid (c_part (cap := cap) (HL6.out.say H0.out) hp1 hp2 hhi HL6.out.below)
              go_upto_if 113 with (go_at_call 188; refine HC.out.mono ?_; rintro e w5 ⟨m, q, R, rfl, hm1, hm2, hA, hsz, hB1, hB2, hdl, hdr⟩)
              have HL7 : Hid (At eu w blk off R w5 ∧ R.size = d.size) := ⟨At.on HL6.out.says H0.out.2.1 hA hsz, hsz.trans HL6.out.size⟩
              have HSay7 : Hid (Say w5 blk off N R) := H0.out.at_ HL7.out.1 HL7.out.2
              have HB7 := Lib.hid (And.intro hB1 hB2)
              have HD7 := Lib.hid (And.intro hdl hdr)
              clear hA hsz hB1 hB2 hdl hdr HC
              by_cases hll : m - a' < b' - m
              · have q1 : decide ((m : Int) - (a' : Int) < (b' : Int) - (m : Int)) = true := by simp; omega
                have HC := Lib.hid (HI.out a' m l2 R w5 (by omega) HSay7.out hm1 (by omega) hl2 HB7.out.1)
                go_wp2_with (go_at_call 165; refine HC.out.mono ?_; rintro e w6 ⟨rfl, Q, hA2, hp2, hs2⟩)
                go_roundw
                case rel =>
                  obtain ⟨g1, g2⟩ := HD7.out.1 Q hp2 hs2
                  exact ⟨m + 1, b', l2, _, q, Q, by go_num, rfl, rfl, rfl, rfl, hl2, by omega, ⟨At.on HL7.out.1 H0.out.2.1 hA2 hp2.1, hp2.1.trans HL7.out.2, by omega, hhi, g1, fun Z h1 h2 => by obtain ⟨h3, h4⟩ := g2 Z h1 h2; exact HL6.out.done Z h3 h4⟩⟩
                case measure => simp [intOf]; omega
              · have q1 : decide ((m : Int) - (a' : Int) < (b' : Int) - (m : Int)) = false := by simp; omega
                have HC := Lib.hid (HI.out (m + 1) b' l2 R w5 (by omega) HSay7.out (by omega) hhi hl2 HB7.out.2)
                have em : ((m + 1 : Nat) : Int) = (m : Int) + 1 := by omega
                rw [em] at HC
                go_wp2_with (go_at_call 165; refine HC.out.mono ?_; rintro e w6 ⟨rfl, Q, hA2, hp2, hs2⟩)
                go_roundw
                case rel =>
                  obtain ⟨g1, g2⟩ := HD7.out.2 Q hp2 hs2
                  exact ⟨a', m, l2, _, q, Q, rfl, rfl, rfl, rfl, rfl, hl2, by omega, ⟨At.on HL7.out.1 H0.out.2.1 hA2 hp2.1, hp2.1.trans HL7.out.2, hm1, by omega, g1, fun Z h1 h2 => by obtain ⟨h3, h4⟩ := g2 Z h1 h2; exact HL6.out.done Z h3 h4⟩⟩
                case measure => simp [intOf]; omega
            · obtain ⟨h00, hnl⟩ := HK.out rfl
              have HC := Lib.hid (c_parteq (cap := cap) (HL6.out.say H0.out) h00 hp1 hp2 hhi HL6.out.below hnl)
              clear hnl
              go_wp2_with (go_at_call 187; refine HC.out.mono ?_; rintro e w5 ⟨m, R, rfl, hm1, hm2, hA, hsz, hB, hd⟩)
              go_roundw
              case rel => exact ⟨m, b', l2, wb, wp, R, rfl, rfl, rfl, rfl, rfl, hl2, by omega, ⟨At.on HL6.out.says H0.out.2.1 hA hsz, hsz.trans HL6.out.size, hm2, hhi, hB, fun Q h1 h2 => by obtain ⟨h3, h4⟩ := hd Q h1 h2; exact HL6.out.done Q h3 h4⟩⟩
              case measure => simp [intOf]; omega
end Go.Proofs.Ytafepficapdepaa.su
