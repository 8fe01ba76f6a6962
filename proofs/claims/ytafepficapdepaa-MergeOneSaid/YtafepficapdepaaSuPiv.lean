/- Which pivot is chosen among numbers of 32 bits. Conditions as the statement says. -/
import Derived.Sort.Walk11
import Derived.Test.YtafepficapdepaaSuMed2
namespace Go.Proofs.Ytafepficapdepaa.su
open Go.Proofs Go.RowKit Go.Sort Go.Proofs.Ytafepficapdepaa.kit
set_option linter.unusedVariables false
set_option linter.unusedSimpArgs false
/-- behind w there is the counter's new block, which says s -/
def Cw (w : World) (s : Nat) (wr : World) : Prop := ∃ n, wr = putRow (Value.int .i64) (Sort.ahead (w.alloc (.cells #[.int .i64 0] 3)) n) w.heap.size 0 (one s)
section
variable {w wr w2 : World} {s t : Nat}
theorem held0 (w : World) : Holds (Value.int .i64) (w.alloc (.cells #[.int .i64 0] 3)) w.heap.size 0 (one 0) := fun j hj => by
  obtain rfl : j = 0 := by simpa using hj
  simp
theorem Cw.start (w : World) : Cw w 0 (w.alloc (.cells #[.int .i64 0] 3)) := ⟨0, by rw [show Sort.ahead (w.alloc (.cells #[.int .i64 0] 3)) 0 = w.alloc (.cells #[.int .i64 0] 3) from rfl, putRow_self _ _ _ _ _ (held0 w)]⟩
theorem Cw.holds (h : Cw w s wr) : Holds (Value.int .i64) wr w.heap.size 0 (one s) := by
  obtain ⟨n, rfl⟩ := h
  exact holds_one (held0 w)
theorem Cw.row {blk off : Nat} {d : Array Int} (h : Cw w s wr) (hb : blk < w.heap.size) (hH : Holds eu w blk off d) : Holds eu wr blk off d := by
  obtain ⟨n, rfl⟩ := h
  exact aside (by rw [alloc_eq_grow]; exact holds_grow _ _ _ _ _ _ hb hH) (by omega)
theorem Cw.on (h : Cw w s wr) (h2 : ∃ m, w2 = putRow (Value.int .i64) (Sort.ahead wr m) w.heap.size 0 (one t)) : Cw w t w2 := by
  obtain ⟨n, rfl⟩ := h
  obtain ⟨m, rfl⟩ := h2
  exact ⟨n + m, by rw [one_one]⟩
theorem Cw.grown (h : Cw w s wr) : ∃ n os, wr = grow (Sort.ahead w n) os := by
  obtain ⟨n, rfl⟩ := h
  obtain ⟨os, h⟩ := counter_grow w n s
  exact ⟨n, os, h⟩
theorem hint0 (h : ((s : Int) == 0) = true) : hintCode (hintOf s) = 1 := by
  have : s = 0 := by simpa using h
  rw [this]; rfl
theorem hint12 (h : ((s : Int) == 12) = true) : hintCode (hintOf s) = 2 := by
  have : s = 12 := by have := eq_of_beq h; omega
  rw [this]; rfl
theorem hintx (h : ((s : Int) == 0) = false) (k : ((s : Int) == 12) = false) : hintCode (hintOf s) = 0 := by
  have h1 : s ≠ 0 := by rintro rfl; simp at h
  have h2 : s ≠ 12 := by rintro rfl; simp at k
  unfold hintOf; rw [if_neg h1, if_neg h2]; rfl
end
set_option maxRecDepth 100000 in
set_option maxHeartbeats 8000000 in
theorem pivot_any (blk off cap a b : Nat) (d : Array Int) (N : Nat) (hN : N = d.size) (w : World) (hH : Holds eu w blk off d) (hblk : blk < w.heap.size) (hab : a < b) (hb : b ≤ N) (hsz : N < 1152921504606846976) :
    Calls Try.prog 183 #[.slice (some ⟨blk, off, none⟩) N cap, .int .i64 a, .int .i64 b] w fun e w' =>
      e = .returned (.tuple #[.int .i64 (choosePivot ltInt d a b).1, .int .i64 (hintCode (choosePivot ltInt d a b).2)]) ∧ ∃ n os, w' = grow (Sort.ahead w n) os := by
  have hne : w.heap.size ≠ blk := by omega
  have MA : ∀ {wr : World} (s x : Nat), Cw w s wr → 1 ≤ x → x + 1 < N → s < 900 → Calls Try.prog 207 #[.slice (some ⟨blk, off, none⟩) N cap, .int .i64 (x : Int), .pointer (some ⟨w.heap.size, 0, none⟩)] wr fun e w' =>
        e = .returned (.int .i64 ((medianAdjacent ltInt d x s).1 : Int)) ∧ Cw w (medianAdjacent ltInt d x s).2 w' := fun s x h h1 h2 hs =>
    (adjacent_any d N hN blk off cap x w.heap.size s _ (h.row hblk hH) hne h1 h2 hsz h.holds hs).mono fun _ _ ⟨he, hw⟩ => ⟨he, h.on hw⟩
  have MD : ∀ {wr : World} (s x y z : Nat), Cw w s wr → x < N → y < N → z < N → s < 900 → Calls Try.prog 208 #[.slice (some ⟨blk, off, none⟩) N cap, .int .i64 (x : Int), .int .i64 (y : Int), .int .i64 (z : Int), .pointer (some ⟨w.heap.size, 0, none⟩)] wr fun e w' =>
        e = .returned (.int .i64 ((median ltInt d x y z s).1 : Int)) ∧ Cw w (median ltInt d x y z s).2 w' := fun s x y z h h1 h2 h3 hs =>
    (median_any d N hN blk off cap x y z w.heap.size s _ (h.row hblk hH) hne h1 h2 h3 h.holds hs).mono fun _ _ ⟨he, hw⟩ => ⟨he, h.on hw⟩
  clear hH hN hne
  have HC : Hid (∀ (s : Nat) (wr : World), Cw w s wr → wr.cell? ⟨w.heap.size, 0, none⟩ = some (.int .i64 (s : Int))) := fun s wr h => (one_cell h.holds).1
  have HG : Hid (∀ (s : Nat) (wr : World), Cw w s wr → ∃ n os, wr = grow (Sort.ahead w n) os) := fun s wr h => h.grown
  have W0 : Hid (Cw w 0 (w.alloc (.cells #[.int .i64 0] 3))) := Cw.start w
  rw [choosePivot_eq]
  obtain ⟨L, hL⟩ : ∃ L, L = b - a := ⟨_, rfl⟩
  have eL : (b : Int) - (a : Int) = (L : Int) := by omega
  obtain ⟨q, hq⟩ : ∃ q, q = L / 4 := ⟨_, rfl⟩
  have hq4 : 4 * q ≤ L := by omega
  have hq5 : L < 4 * q + 4 := by omega
  have eq : (L : Int) / 4 = (q : Int) := by omega
  have hraw : rawPivot ltInt d a b = (if L ≥ 8 then if L ≥ 50 then median ltInt d (medianAdjacent ltInt d (a + q * 1) 0).1 (medianAdjacent ltInt d (a + q * 2) (medianAdjacent ltInt d (a + q * 1) 0).2).1 (medianAdjacent ltInt d (a + q * 3) (medianAdjacent ltInt d (a + q * 2) (medianAdjacent ltInt d (a + q * 1) 0).2).2).1 (medianAdjacent ltInt d (a + q * 3) (medianAdjacent ltInt d (a + q * 2) (medianAdjacent ltInt d (a + q * 1) 0).2).2).2
      else median ltInt d (a + q * 1) (a + q * 2) (a + q * 3) 0 else (a + q * 2, 0)) := by rw [hq, hL]; rfl
  have hLN : a + L ≤ N := by omega
  clear hL hq
  by_cases h8 : L ≥ 8
  · by_cases h50 : L ≥ 50
    · rw [if_pos h8, if_pos h50] at hraw
      have m1 := medianAdjacent_mem ltInt d (a + q * 1) 0
      have n1 := medianAdjacent_count ltInt d (a + q * 1) 0
      have C1 := Lib.hid (fun (wr : World) h => MA (wr := wr) 0 (a + q * 1) h (by omega) (by omega) (by omega))
      generalize medianAdjacent ltInt d (a + q * 1) 0 = p1 at hraw m1 n1 C1
      obtain ⟨i1, s1⟩ := p1
      simp only [] at hraw m1 n1 C1
      have m2 := medianAdjacent_mem ltInt d (a + q * 2) s1
      have n2 := medianAdjacent_count ltInt d (a + q * 2) s1
      have C2 := Lib.hid (fun (wr : World) h => MA (wr := wr) s1 (a + q * 2) h (by omega) (by omega) (by omega))
      generalize medianAdjacent ltInt d (a + q * 2) s1 = p2 at hraw m2 n2 C2
      obtain ⟨i2, s2⟩ := p2
      simp only [] at hraw m2 n2 C2
      have m3 := medianAdjacent_mem ltInt d (a + q * 3) s2
      have n3 := medianAdjacent_count ltInt d (a + q * 3) s2
      have C3 := Lib.hid (fun (wr : World) h => MA (wr := wr) s2 (a + q * 3) h (by omega) (by omega) (by omega))
      generalize medianAdjacent ltInt d (a + q * 3) s2 = p3 at hraw m3 n3 C3
      obtain ⟨i3, s3⟩ := p3
      simp only [] at hraw m3 n3 C3
      have C4 := Lib.hid (fun (wr : World) h => MD (wr := wr) s3 i1 i2 i3 h (by omega) (by omega) (by omega) (by omega))
      rw [hraw]
      generalize median ltInt d i1 i2 i3 s3 = p4 at C4
      obtain ⟨p, s⟩ := p4
      simp only [] at C4
      have HHint := Lib.hid (And.intro (hint0 (s := s)) (And.intro (hint12 (s := s)) (hintx (s := s))))
      show Calls _ _ _ _ fun e w' => e = .returned (.tuple #[.int .i64 (p : Int), .int .i64 (hintCode (hintOf s))]) ∧ _
      generalize hintCode (hintOf s) = hc at HHint
      obtain ⟨I, hI⟩ : ∃ I : Nat, I = a + q * 1 := ⟨_, rfl⟩
      obtain ⟨J, hJ⟩ : ∃ J : Nat, J = a + q * 2 := ⟨_, rfl⟩
      obtain ⟨K, hK⟩ : ∃ K : Nat, K = a + q * 3 := ⟨_, rfl⟩
      have e1 : (a : Int) + (q : Int) = (I : Int) := by omega
      have e2 : (a : Int) + (q : Int) * 2 = (J : Int) := by omega
      have e3 : (a : Int) + (q : Int) * 3 = (K : Int) := by omega
      rw [← hI] at C1; rw [← hJ] at C2; rw [← hK] at C3
      clear MA MD hI hJ hK m1 m2 m3 n1 n2 n3 hraw hq4 hq5
      go_enter Try.func183, Try.ntmps183
      go_wp2_with (go_at_call_of 207 (Value.int .i64 (I : Int)); refine (C1.out _ W0.out).mono ?_; rintro e w1 ⟨rfl, k1⟩)
      replace k1 := Lib.hid k1
      go_wp2_with (go_at_call_of 207 (Value.int .i64 (J : Int)); refine (C2.out _ k1.out).mono ?_; rintro e w2 ⟨rfl, k2⟩)
      replace k2 := Lib.hid k2
      go_wp2_with (go_at_call_of 207 (Value.int .i64 (K : Int)); refine (C3.out _ k2.out).mono ?_; rintro e w3 ⟨rfl, k3⟩)
      replace k3 := Lib.hid k3
      go_wp2_with (go_at_call 208; refine (C4.out _ k3.out).mono ?_; rintro e w4 ⟨rfl, k4⟩; have k5 := HC.out _ _ k4; replace k4 := Lib.hid k4)
      all_goals
        go_ret2
        refine ⟨?_, HG.out _ _ k4.out⟩
        first
          | (rw [HHint.out.1 (by assumption)]; rfl)
          | (rw [HHint.out.2.1 (by assumption)]; rfl)
          | (rw [HHint.out.2.2 (by assumption) (by assumption)]; rfl)
    · rw [if_pos h8, if_neg h50] at hraw
      have C4 := Lib.hid (fun (wr : World) h => MD (wr := wr) 0 (a + q * 1) (a + q * 2) (a + q * 3) h (by omega) (by omega) (by omega) (by omega))
      rw [hraw]
      generalize median ltInt d (a + q * 1) (a + q * 2) (a + q * 3) 0 = p4 at C4
      obtain ⟨p, s⟩ := p4
      simp only [] at C4
      have HHint := Lib.hid (And.intro (hint0 (s := s)) (And.intro (hint12 (s := s)) (hintx (s := s))))
      show Calls _ _ _ _ fun e w' => e = .returned (.tuple #[.int .i64 (p : Int), .int .i64 (hintCode (hintOf s))]) ∧ _
      generalize hintCode (hintOf s) = hc at HHint
      obtain ⟨I, hI⟩ : ∃ I : Nat, I = a + q * 1 := ⟨_, rfl⟩
      obtain ⟨J, hJ⟩ : ∃ J : Nat, J = a + q * 2 := ⟨_, rfl⟩
      obtain ⟨K, hK⟩ : ∃ K : Nat, K = a + q * 3 := ⟨_, rfl⟩
      have e1 : (a : Int) + (q : Int) = (I : Int) := by omega
      have e2 : (a : Int) + (q : Int) * 2 = (J : Int) := by omega
      have e3 : (a : Int) + (q : Int) * 3 = (K : Int) := by omega
      rw [← hI, ← hJ, ← hK] at C4
      clear MA MD hI hJ hK hraw hq4 hq5
      go_enter Try.func183, Try.ntmps183
      go_wp2_with (go_at_call 208; refine (C4.out _ W0.out).mono ?_; rintro e w4 ⟨rfl, k4⟩; have k5 := HC.out _ _ k4; replace k4 := Lib.hid k4)
      all_goals
        go_ret2
        refine ⟨?_, HG.out _ _ k4.out⟩
        first
          | (rw [HHint.out.1 (by assumption)]; rfl)
          | (rw [HHint.out.2.1 (by assumption)]; rfl)
          | (rw [HHint.out.2.2 (by assumption) (by assumption)]; rfl)
  · rw [if_neg h8] at hraw
    rw [hraw]
    obtain ⟨J, hJ⟩ : ∃ J : Nat, J = a + q * 2 := ⟨_, rfl⟩
    have e2 : (a : Int) + (q : Int) * 2 = (J : Int) := by omega
    show Calls _ _ _ _ fun e w' => e = .returned (.tuple #[.int .i64 ((a + q * 2 : Nat) : Int), .int .i64 1]) ∧ _
    rw [← hJ]
    clear MA MD hJ hraw hq4 hq5
    go_enter Try.func183, Try.ntmps183
    go_wp2_with fail
    all_goals
      go_ret2
      exact ⟨rfl, HG.out _ _ W0.out⟩
end Go.Proofs.Ytafepficapdepaa.su
