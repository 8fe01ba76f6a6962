/- What confluenceref15.Ends, Prefixes and Size return. Conditions as each lemma states. -/
import Derived.Test.YtpabblkppbfbjaaDoorPartsMath
import Derived.Test.YtpabblkppbfbjaaDoorSortOps
import Derived.Test.YtpabblkppbfbjaaDoorSplice
import Derived.OwnWalk
namespace Go.Proofs.YtpabblkppbfbjaaDoor.wlk
open Go.RowKit Go.Proofs.YtpabblkppbfbjaaDoor.kit Go.Proofs.YtpabblkppbfbjaaDoor.pfx Go.Proofs.YtpabblkppbfbjaaDoor.mem Go.Proofs.YtpabblkppbfbjaaDoor.foot Go.Proofs.YtpabblkppbfbjaaDoor.srt
set_option linter.unusedVariables false
set_option linter.unusedSimpArgs false

/-- parts as cells -/
def qv (l : List (Nat × Nat)) : List Value := l.flatMap fun p => [.int .i64 (p.1 : Int), .int .i64 (p.2 : Int)]
theorem qv_len (l : List (Nat × Nat)) : (qv l).length = l.length * 2 := by
  induction l with
  | nil => rfl
  | cons p l ih => simp only [qv, List.flatMap_cons, List.length_append, List.length_cons, List.length_nil] at ih ⊢; omega
theorem qv_at : ∀ (l : List (Nat × Nat)) (k : Nat) (p : Nat × Nat), l[k]? = some p → (qv l)[k * 2]? = some (.int .i64 (p.1 : Int)) ∧ (qv l)[k * 2 + 1]? = some (.int .i64 (p.2 : Int))
  | [], k, p, h => by simp at h
  | q :: l, 0, p, h => by
    simp at h; subst h
    simp [qv]
  | q :: l, k + 1, p, h => by
    have ih := qv_at l k p (by simpa using h)
    have e : qv (q :: l) = .int .i64 (q.1 : Int) :: .int .i64 (q.2 : Int) :: qv l := by simp [qv]
    rw [e, show (k + 1) * 2 = k * 2 + 1 + 1 by omega]
    simpa using ih
theorem rg_two {w : World} {G : Foot} {b off n : Nat} {l : List (Nat × Nat)} (h : Rg w G 2 (some ⟨b, off, none⟩) n (qv l)) {i : Nat} {p : Nat × Nat} (hp : l[i]? = some p) (hn : 0 < n) :
    w.cell? ⟨b, off + i * 2, none⟩ = some (.int .i64 (p.1 : Int)) ∧ w.cell? ⟨b, off + i * 2 + 1, none⟩ = some (.int .i64 (p.2 : Int)) ∧ b < w.heap.size := by
  obtain ⟨b', off', e, _, hl, hc⟩ := h.2 hn
  cases e
  have hq := qv_at l i p hp
  exact ⟨hc _ _ hq.1, by rw [Nat.add_assoc]; exact hc _ _ hq.2, hl⟩
theorem rg_at {w : World} {G : Foot} {b off n : Nat} {xs : List Value} (h : Rg w G 2 (some ⟨b, off, none⟩) n xs) {j : Nat} {u : Value} (hj : xs[j]? = some u) (hn : 0 < n) : w.cell? ⟨b, off + j, none⟩ = some u ∧ b < w.heap.size := by
  obtain ⟨b', off', e, _, hl, hc⟩ := h.2 hn
  cases e
  exact ⟨hc j u hj, hl⟩
def RetP (out : List Pf) (w : World) (e : Ending) (w' : World) : Prop := ∃ A c, e = .returned (.slice A out.length c) ∧ Own w' 24 2 A out.length c (fv out) ∧ (∀ x, sf A x → w.heap.size ≤ x) ∧ Below w.heap.size w w'

theorem info_pfp : (Tryd.prog.info? 24).map (fun i => (i.zero, i.size, i.bytes)) = some (some (.agg #[.int .u32 0, .int .i64 0]), 2, 16) := by kernel_rfl

set_option maxRecDepth 100000 in
set_option maxHeartbeats 4000000 in
theorem refPrefixes_any {G : Foot} (A : Option Addr) (c : Nat) (l : List (Nat × Nat)) (w : World) (hn : l.length ≤ 10000) (hl : ∀ p ∈ l, PartOk p) (h : Rg w G 2 A l.length (qv l)) :
    Calls Tryd.prog 7 #[.slice A l.length c] w (RetP (blks l) w) := by
  obtain ⟨i0, hi0, hz0, hz1, hz2⟩ := info_parts info_pfp
  have Hi := Lib.hid hi0
  have Hz0 := Lib.hid hz0
  have Hz1 := Lib.hid hz1
  have Hz2 := Lib.hid hz2
  have HR := Lib.hid h
  have HL := Lib.hid hl
  have HA0 : Hid (Acc w 24 2 (w.alloc (.cells #[] 24)) (some ⟨w.heap.size, 0, none⟩) 0 0 []) := Acc.start ((Below.refl _ _).alloc (Nat.le_refl _) _) (Bk.new w _ _) (Nat.le_refl _)
  clear h hl hi0 hz0 hz1 hz2
  go_enter Tryd.func7, Tryd.ntmps7
  go_wp2_with fail
  go_loopw [3, 4, 5, 6, 7, 8] (fun v3 v4 _ _ _ _ wr => ∃ (i : Nat) (A' : Option Addr) (c' m : Nat) (out : List Pf), i ≤ l.length ∧ v4 = .int .i64 (i : Int) ∧ v3 = .slice A' m c' ∧ m = out.length ∧ out = blks (l.take i) ∧ Acc w 24 2 wr A' m c' (fv out)) (fun _ v4 _ _ _ _ _ => l.length - (intOf v4).toNat)
  case atStart => exact ⟨0, _, _, 0, [], Nat.zero_le _, rfl, rfl, rfl, rfl, HA0.out⟩
  case round =>
    obtain ⟨i, A1, c1, m, out, hi, rfl, rfl, hm, hout, hacc⟩ := hrel
    by_cases hlt : i < l.length
    · obtain ⟨p, hp⟩ : ∃ p, l[i]? = some p := ⟨l[i], List.getElem?_eq_getElem hlt⟩
      obtain ⟨b, off, rfl⟩ : ∃ b off, A = some ⟨b, off, none⟩ := by
        obtain ⟨b, off, e, _⟩ := HR.out.2 (by omega)
        exact ⟨b, off, e⟩
      have hp2 : p.1 ≤ p.2 ∧ p.2 < 4294967296 := HL.out p (List.mem_of_getElem? hp)
      have hq := qv_at l i p hp
      obtain ⟨a0, B0⟩ := p
      dsimp only at hp2 hq
      have hrw := hacc.rg HR.out
      have x0 := rg_two hrw hp (by omega)
      have p0 := x0.1
      have p1 := x0.2.1
      have pb := x0.2.2
      have hbl : (blks (l.take i)).length ≤ 650000 := by
        have h1 := blks_len (l.take i) fun q hq => HL.out q (List.mem_of_mem_take hq)
        have h2 : (l.take i).length ≤ 10000 := by rw [List.length_take]; omega
        omega
      have hsn : blks (l.take (i + 1)) = out ++ gr a0 (B0 + 1 - a0) := by
        rw [List.take_add_one, hp, hout]
        exact blks_snoc _ _
      have hm0 : m ≤ 650000 := by rw [hm, hout]; exact hbl
      have hgl := gr_len (a := a0) (r := B0 + 1 - a0) (by omega)
      have hli : (i : Int) < (l.length : Int) := by omega
      have HP := Lib.hid hp
      have HRow := Lib.hid (And.intro hsn (And.intro hm hgl))
      have HAcc := Lib.hid hacc
      clear hsn hm hgl hacc hout hbl hrw hq x0 hp
      go_wp2_with fail
      go_loopw [3, 5, 6, 7, 8] (fun v3 v5 v6 _ _ wx => ∃ (k a r : Nat) (A' : Option Addr) (c' m' : Nat) (o : List Pf), v3 = .slice A' m' c' ∧ v5 = .int .i64 (a : Int) ∧ v6 = .int .i64 (k : Int) ∧ a + r = B0 + 1 ∧ m' = o.length ∧ k + (gr a r).length ≤ 65 ∧ m' = m + k ∧ out ++ gr a0 (B0 + 1 - a0) = o ++ gr a r ∧ Acc w 24 2 wx A' m' c' (fv o)) (fun _ v5 _ _ _ _ => B0 + 1 - (intOf v5).toNat)
      case atStart => exact ⟨0, a0, B0 + 1 - a0, _, _, m, out, rfl, rfl, rfl, by omega, HRow.out.2.1, by have := HRow.out.2.2; omega, rfl, rfl, HAcc.out⟩
      case round =>
        obtain ⟨k, a, r, A2, c2, m2, o, rfl, rfl, rfl, har, hmo, hkl, hmk, hoo, hacc⟩ := hrel
        have hrw := hacc.rg HR.out
        have x0 := rg_two hrw HP.out (by omega)
        clear p0 p1 pb
        have p1 := x0.2.1
        have pb := x0.2.2
        dsimp only at p1
        by_cases hr : 1 ≤ r
        · have hab : a ≤ B0 := by omega
          have h70 : k < 70 := by omega
          have hrB : r = B0 + 1 - a := by omega
          have hm2 : m2 ≤ 650065 := by omega
          have hgs := gr_step hr (gj_is (a := a) hr)
          have hgl := (gj_is (a := a) hr).le
          have hgt := (gj_is (a := a) hr).lt
          have hg0 : grow a r 32 0 = gj a r := rfl
          have HAcc2 := Lib.hid hacc
          have HG := Lib.hid (And.intro hgs (And.intro hgl (And.intro hoo (And.intro hkl (And.intro hmo (And.intro hmk har))))))
          have HG0 := Lib.hid hg0
          have ha64 : a < 4294967296 := by omega
          clear hgs hgl hoo hkl hmo hacc hrw x0 hg0 hmk har
          go_wp2_with fail
          go_loopw [7, 8] (fun v7 v8 wy => ∃ (j n P : Nat), n + j = 32 ∧ P = 2 ^ j ∧ P ≤ 4294967296 ∧ grow a r n j = gj a r ∧ v7 = .int .i64 (n : Int) ∧ v8 = .int .i64 (P : Int) ∧ wy = wr) (fun v7 _ _ => (intOf v7).toNat)
          case atStart => exact ⟨0, 32, 1, rfl, rfl, by omega, HG0.out, rfl, rfl, rfl⟩
          case round =>
            obtain ⟨j, n, P, hnj, hP, hPl, hgr, rfl, rfl, rfl⟩ := hrel
            have HPj := Lib.hid (And.intro hP hgr)
            clear hP hgr
            rcases n with _ | n
            · have hj : j = 32 := by omega
              have hjj : Hid (gj a r = j) := by
                have h := HPj.out.2
                simp only [grow] at h
                exact h.symm
              have HPP := Lib.hid (And.intro hPl (And.intro HPj.out.1 (And.intro hjj.out hnj)))
              have hP1 : 1 ≤ P := by rw [HPj.out.1]; exact Nat.pow_pos (by decide)
              have HMs : Hid (B0 + 1 - (a + P) < B0 + 1 - a) := by rw [Hid]; omega
              have HA5 := Lib.hid (HAcc2.out.go ((Below.refl _ _).alloc (Nat.le_refl _) (.cells #[.int .u32 (a : Int), .int .i64 (0 : Int)] 24)))
              have HG5 : Hid (Rg (wr.alloc (.cells #[.int .u32 (a : Int), .int .i64 (0 : Int)] 24)) (fun k => k = wr.heap.size) 2 (some ⟨wr.heap.size, 0, none⟩) 1 (fv [(a, (0 : Int))])) := Rg.new wr 24 2 1 #[.int .u32 (a : Int), .int .i64 (0 : Int)] rfl
              clear hjj HPj
              go_wp2_with (at_builtin; refine wpList_app _ rfl (.tmp 60) (.tmp 65) _ rfl 24 i0 _ 2 16 Tryd.underlying31 Hi.out Hz0.out Hz1.out Hz2.out rfl (by omega) _ _ c2 (fv o) rfl HA5.out.own _ (some ⟨wr.heap.size, 0, none⟩) 1 1 (by intro h; cases h) (fv [(a, (0 : Int))]) rfl HG5.out (fv_one _) (by unfold maxLen; omega) (by omega) ?_; intro A4 c4 w6 ho6 hc6 hf6; have H6 := Lib.hid (HA5.out.app ho6 hc6 hf6); clear ho6 hc6 hf6)
              go_roundw
              case rel =>
                have h6 := H6.out
                obtain ⟨hgs, hgl, hoo, hkl, hmo, hmk, har⟩ := HG.out
                obtain ⟨_, hP, hj, hnj⟩ := HPP.out
                have hnv : ((32 - gj a r : Nat) : Int) = (0 : Int) := by rw [hj]; omega
                rw [hnv, hj, ← hP] at hgs
                rw [hj, ← hP] at hgl
                rw [hgs] at hoo hkl
                rw [← fv_app] at h6
                simp only [List.length_cons] at hkl
                exact ⟨k + 1, a + P, r - P, A4, c4, m2 + 1, o ++ [(a, (0 : Int))], rfl, by go_num, by go_num, by omega, by rw [hmo]; simp, by omega, by omega, by rw [hoo]; simp, h6⟩
              case measure =>
                simp [intOf]
                rw [show ((a : Int) + (P : Int)).toNat = a + P by omega]
                exact HMs.out
            · have HP2 : Hid (2 * P = 2 ^ (j + 1)) := by rw [Hid, HPj.out.1, Nat.pow_succ, Nat.mul_comm]
              have hP1 : 1 ≤ P := by rw [HPj.out.1]; exact Nat.pow_pos (by decide)
              have hPz : ¬ (2 * (P : Int) = 0) := by omega
              by_cases hc1 : a % (2 * P) = 0
              · have hc3 : ((a : Int) % (2 * (P : Int)) == 0) = true := by rw [beq_iff_eq]; exact_mod_cast hc1
                by_cases hc2 : 2 * P ≤ r
                · have hw2 : (a : Int) + 2 * (P : Int) - 1 ≤ (B0 : Int) := by omega
                  go_wp2_with fail
                  go_roundw
                  case rel =>
                    have h := HPj.out.2
                    have h2 := HP2.out
                    rw [grow, ← h2, if_pos ⟨hc1, hc2⟩] at h
                    exact ⟨j + 1, n, 2 * P, by omega, h2, by omega, h, by go_num, by go_num, trivial⟩
                  case measure => simp [intOf]
                · have hw2 : ¬ (a : Int) + 2 * (P : Int) - 1 ≤ (B0 : Int) := by omega
                  have hjj : Hid (gj a r = j) := by
                    have h := HPj.out.2
                    have h2 := HP2.out
                    rw [grow, ← h2, if_neg (fun hc => hc2 hc.2)] at h
                    exact h.symm
                  have HPP := Lib.hid (And.intro hPl (And.intro HPj.out.1 (And.intro hjj.out hnj)))
                  have hP1 : 1 ≤ P := by rw [HPj.out.1]; exact Nat.pow_pos (by decide)
                  have HMs : Hid (B0 + 1 - (a + P) < B0 + 1 - a) := by rw [Hid]; omega
                  have HA5 := Lib.hid (HAcc2.out.go ((Below.refl _ _).alloc (Nat.le_refl _) (.cells #[.int .u32 (a : Int), .int .i64 ((n + 1 : Nat) : Int)] 24)))
                  have HG5 : Hid (Rg (wr.alloc (.cells #[.int .u32 (a : Int), .int .i64 ((n + 1 : Nat) : Int)] 24)) (fun k => k = wr.heap.size) 2 (some ⟨wr.heap.size, 0, none⟩) 1 (fv [(a, ((n + 1 : Nat) : Int))])) := Rg.new wr 24 2 1 #[.int .u32 (a : Int), .int .i64 ((n + 1 : Nat) : Int)] rfl
                  clear hjj HPj
                  go_wp2_with (at_builtin; refine wpList_app _ rfl (.tmp 60) (.tmp 65) _ rfl 24 i0 _ 2 16 Tryd.underlying31 Hi.out Hz0.out Hz1.out Hz2.out rfl (by omega) _ _ c2 (fv o) rfl HA5.out.own _ (some ⟨wr.heap.size, 0, none⟩) 1 1 (by intro h; cases h) (fv [(a, ((n + 1 : Nat) : Int))]) rfl HG5.out (fv_one _) (by unfold maxLen; omega) (by omega) ?_; intro A4 c4 w6 ho6 hc6 hf6; have H6 := Lib.hid (HA5.out.app ho6 hc6 hf6); clear ho6 hc6 hf6)
                  go_roundw
                  case rel =>
                    have h6 := H6.out
                    obtain ⟨hgs, hgl, hoo, hkl, hmo, hmk, har⟩ := HG.out
                    obtain ⟨_, hP, hj, hnj⟩ := HPP.out
                    have hnv : ((32 - gj a r : Nat) : Int) = ((n + 1 : Nat) : Int) := by rw [hj]; omega
                    rw [hnv, hj, ← hP] at hgs
                    rw [hj, ← hP] at hgl
                    rw [hgs] at hoo hkl
                    rw [← fv_app] at h6
                    simp only [List.length_cons] at hkl
                    exact ⟨k + 1, a + P, r - P, A4, c4, m2 + 1, o ++ [(a, ((n + 1 : Nat) : Int))], rfl, by go_num, by go_num, by omega, by rw [hmo]; simp, by omega, by omega, by rw [hoo]; simp, h6⟩
                  case measure =>
                    simp [intOf]
                    rw [show ((a : Int) + (P : Int)).toNat = a + P by omega]
                    exact HMs.out
              · have hjj : Hid (gj a r = j) := by
                  have h := HPj.out.2
                  have h2 := HP2.out
                  rw [grow, ← h2, if_neg (fun hc => hc1 hc.1)] at h
                  exact h.symm
                have hc3 : ((a : Int) % (2 * (P : Int)) == 0) = false := by rw [beq_eq_false_iff_ne]; exact_mod_cast hc1
                have HPP := Lib.hid (And.intro hPl (And.intro HPj.out.1 (And.intro hjj.out hnj)))
                have hP1 : 1 ≤ P := by rw [HPj.out.1]; exact Nat.pow_pos (by decide)
                have HMs : Hid (B0 + 1 - (a + P) < B0 + 1 - a) := by rw [Hid]; omega
                have HA5 := Lib.hid (HAcc2.out.go ((Below.refl _ _).alloc (Nat.le_refl _) (.cells #[.int .u32 (a : Int), .int .i64 ((n + 1 : Nat) : Int)] 24)))
                have HG5 : Hid (Rg (wr.alloc (.cells #[.int .u32 (a : Int), .int .i64 ((n + 1 : Nat) : Int)] 24)) (fun k => k = wr.heap.size) 2 (some ⟨wr.heap.size, 0, none⟩) 1 (fv [(a, ((n + 1 : Nat) : Int))])) := Rg.new wr 24 2 1 #[.int .u32 (a : Int), .int .i64 ((n + 1 : Nat) : Int)] rfl
                clear hjj HPj
                go_wp2_with (at_builtin; refine wpList_app _ rfl (.tmp 60) (.tmp 65) _ rfl 24 i0 _ 2 16 Tryd.underlying31 Hi.out Hz0.out Hz1.out Hz2.out rfl (by omega) _ _ c2 (fv o) rfl HA5.out.own _ (some ⟨wr.heap.size, 0, none⟩) 1 1 (by intro h; cases h) (fv [(a, ((n + 1 : Nat) : Int))]) rfl HG5.out (fv_one _) (by unfold maxLen; omega) (by omega) ?_; intro A4 c4 w6 ho6 hc6 hf6; have H6 := Lib.hid (HA5.out.app ho6 hc6 hf6); clear ho6 hc6 hf6)
                go_roundw
                case rel =>
                  have h6 := H6.out
                  obtain ⟨hgs, hgl, hoo, hkl, hmo, hmk, har⟩ := HG.out
                  obtain ⟨_, hP, hj, hnj⟩ := HPP.out
                  have hnv : ((32 - gj a r : Nat) : Int) = ((n + 1 : Nat) : Int) := by rw [hj]; omega
                  rw [hnv, hj, ← hP] at hgs
                  rw [hj, ← hP] at hgl
                  rw [hgs] at hoo hkl
                  rw [← fv_app] at h6
                  simp only [List.length_cons] at hkl
                  exact ⟨k + 1, a + P, r - P, A4, c4, m2 + 1, o ++ [(a, ((n + 1 : Nat) : Int))], rfl, by go_num, by go_num, by omega, by rw [hmo]; simp, by omega, by omega, by rw [hoo]; simp, h6⟩
                case measure =>
                  simp [intOf]
                  rw [show ((a : Int) + (P : Int)).toNat = a + P by omega]
                  exact HMs.out
        · obtain rfl : r = 0 := by omega
          have hab : ¬ (a : Int) ≤ (B0 : Int) := by omega
          rw [gr_zero, List.append_nil] at hoo
          have HAcc2 := Lib.hid hacc
          have HG := Lib.hid (And.intro hoo hmo)
          clear hacc hrw x0 hoo hmo hmk hkl
          go_wp2_with fail
          go_roundw
          case rel => exact ⟨i + 1, A2, c2, m2, o, by omega, by go_num, rfl, HG.out.2, by rw [HRow.out.1, HG.out.1], HAcc2.out⟩
          case measure => simp [intOf]; omega
    · obtain rfl : i = l.length := by omega
      have HAcc := Lib.hid hacc
      have HO := Lib.hid (And.intro hm hout)
      clear hacc hm hout
      go_wp2_with fail
      go_ret
      obtain ⟨hm, hout⟩ := HO.out
      rw [List.take_length] at hout
      subst hm hout
      exact ⟨A1, c1, rfl, HAcc.out.own, HAcc.out.low, HAcc.out.bel⟩
end Go.Proofs.YtpabblkppbfbjaaDoor.wlk
