/- What prefix.Halves returns of a good prefix, said by its bits. Conditions as each lemma states. -/
import Derived.Test.YtpabblkppbfbjaaTrieNum
import Derived.Test.YtpabblkppbfbjaaPfxFns2
import Derived.Test.YtpabblkppbfbjaaStruct
import Derived.Test.YtpabblkppbfbjaaSortOps
import Derived.Deep.RegionHeld3
namespace Go.Proofs.Ytpabblkppbfbjaa.wlk
open Go.RowKit Go.Proofs.Ytpabblkppbfbjaa.kit Go.Proofs.Ytpabblkppbfbjaa.pfx Go.Proofs.Ytpabblkppbfbjaa.mem Go.Proofs.Ytpabblkppbfbjaa.foot Go.Proofs.Ytpabblkppbfbjaa.tri Go.Proofs.Ytpabblkppbfbjaa.srt
set_option linter.unusedVariables false
set_option linter.unusedSimpArgs false

/-- a prefix by its bits -/
def kp (k : Key) : Pf := (adr k, (k.length : Int))
theorem adr_false {k : Key} (h : k.length < 32) : adr (k ++ [false]) = adr k := by
  unfold adr
  rw [num_app, num_one]
  simp only [List.length_append, List.length_singleton]
  obtain ⟨m, hm⟩ : ∃ m, 32 - k.length = m + 1 := ⟨31 - k.length, by omega⟩
  have hp : 2 ^ (m + 1) = 2 * 2 ^ m := by rw [Nat.pow_succ, Nat.mul_comm]
  rw [show 32 - (k.length + 1) = m from by omega, hm, hp]
  simp only [Bool.false_eq_true, if_false, Nat.add_zero, Nat.pow_one]
  rw [Nat.mul_assoc]
theorem adr_true {k : Key} (h : k.length < 32) : adr (k ++ [true]) = adr k ||| 2 ^ (31 - k.length) := by
  unfold adr
  rw [num_app, num_one]
  simp only [List.length_append, List.length_singleton]
  obtain ⟨m, hm⟩ : ∃ m, 32 - k.length = m + 1 := ⟨31 - k.length, by omega⟩
  have hp : 2 ^ (m + 1) = 2 * 2 ^ m := by rw [Nat.pow_succ, Nat.mul_comm]
  rw [show 32 - (k.length + 1) = m from by omega, hm, show 31 - k.length = m from by omega]
  have h1 := Nat.two_pow_add_eq_or_of_lt (b := 2 ^ m) (i := m + 1) (Nat.pow_lt_pow_right (by omega) (by omega)) (num k)
  rw [Nat.mul_comm (num k) (2 ^ (m + 1)), ← h1, hp]
  simp only [if_true, Nat.pow_one]
  rw [Nat.add_mul, Nat.one_mul]
  congr 1
  ac_rfl

theorem bkd {w : World} {g : Nat} {t : TypeId} {cs : Array Value} (h : Bk w g t cs) : Bk w.drew g t cs := h
theorem hpd {w : World} {g : Nat} {t : TypeId} {cs : Array Value} (h : Bk w g t cs) : w.drew.heap[g]? = some (.cells cs t (0, 0)) := h
theorem info_pf2 : (Try.prog.info? 35).map (·.size) = some 2 := by kernel_rfl

set_option maxRecDepth 100000 in
set_option maxHeartbeats 1000000 in
theorem Halves_key (k : Key) (hk : k.length < 32) (w : World) : Calls Try.prog 64 #[.agg #[.int .u32 (adr k : Int), .int .i64 (k.length : Int)]] w fun e w' => e = .returned (.tuple #[.agg #[.int .u32 (adr (k ++ [false]) : Int), .int .i64 ((k.length : Int) + 1)], .agg #[.int .u32 (adr (k ++ [true]) : Int), .int .i64 ((k.length : Int) + 1)], .bool true]) ∧ Below w.heap.size w w' := by
  have ha := adr_lt (k := k) (by omega)
  have HG := good_in (adr k) k.length ha
  rw [good_adr (by omega)] at HG
  have HGd := Lib.hid HG
  have ht := adr_true hk
  rw [adr_false hk]
  have HT := Lib.hid ht
  have HK := Lib.hid (And.intro hk ha)
  have h32 : ((k.length : Int) == 32) = false := by rw [beq_eq_false_iff_ne]; omega
  have hk' : (k.length : Int) < 32 := by omega
  clear HG ht
  have HB0 : Hid (Below w.heap.size w (((w.alloc (.cells #[.int .u32 (adr k : Int), .int .i64 (k.length : Int)] 35)).alloc (.cells #[.int .u32 0, .int .i64 0] 35)).alloc (.cells #[.int .u32 0, .int .i64 0] 35))) := (((Below.refl _ _).alloc (Nat.le_refl _) _).alloc (by simp) _).alloc (by simp; omega) _
  have K0 : Hid (Bk (((w.alloc (.cells #[.int .u32 (adr k : Int), .int .i64 (k.length : Int)] 35)).alloc (.cells #[.int .u32 0, .int .i64 0] 35)).alloc (.cells #[.int .u32 0, .int .i64 0] 35)) w.heap.size 35 #[.int .u32 (adr k : Int), .int .i64 (k.length : Int)]) := (Bk.new w _ _).below (((Below.refl _ _).alloc (Nat.le_refl _) _).alloc (by simp) _) (by simp)
  have K1 : Hid (Bk (((w.alloc (.cells #[.int .u32 (adr k : Int), .int .i64 (k.length : Int)] 35)).alloc (.cells #[.int .u32 0, .int .i64 0] 35)).alloc (.cells #[.int .u32 0, .int .i64 0] 35)) (w.heap.size + 1) 35 #[.int .u32 0, .int .i64 0]) := by
    have h := (Bk.new (w.alloc (.cells #[.int .u32 (adr k : Int), .int .i64 (k.length : Int)] 35)) 35 #[.int .u32 0, .int .i64 0]).below ((Below.refl _ _).alloc (Nat.le_refl _) (.cells #[.int .u32 0, .int .i64 0] 35)) (by simp)
    rw [World.size_alloc] at h
    exact h
  have K2 : Hid (Bk (((w.alloc (.cells #[.int .u32 (adr k : Int), .int .i64 (k.length : Int)] 35)).alloc (.cells #[.int .u32 0, .int .i64 0] 35)).alloc (.cells #[.int .u32 0, .int .i64 0] 35)) (w.heap.size + 1 + 1) 35 #[.int .u32 0, .int .i64 0]) := by
    have h := Bk.new ((w.alloc (.cells #[.int .u32 (adr k : Int), .int .i64 (k.length : Int)] 35)).alloc (.cells #[.int .u32 0, .int .i64 0] 35)) 35 #[.int .u32 0, .int .i64 0]
    rw [World.size_alloc, World.size_alloc] at h
    exact h
  go_enter Try.func64, Try.ntmps64
  go_wp2_with fail
  refine (HGd.out _).mono ?_; rintro e w1 ⟨rfl, hb1⟩
  have k0 := K0.out.below hb1 K0.out.lt
  have k1 := K1.out.below hb1 K1.out.lt
  have k2 := K2.out.below hb1 K2.out.lt
  have HB1 := Lib.hid (HB0.out.trans (hb1.mono HB0.out.size))
  have p := fun i => k0.cell i
  have pl := k0.lt
  have q := fun i => k1.cell i
  have ql := k1.lt
  have qf := fun i => k1.free i
  have r := fun i => k2.cell i
  have rl := k2.lt
  have rf := fun i => k2.free i
  have HKK := Lib.hid (And.intro k1 k2)
  clear k0 k1 k2 hb1 HB0 K0 K1 K2
  obtain ⟨a, hae⟩ : ∃ a, a = adr k := ⟨_, rfl⟩
  obtain ⟨n, hne⟩ : ∃ n, n = k.length := ⟨_, rfl⟩
  rw [← hae] at HT HK p ⊢
  rw [← hne] at HT HK p ⊢
  have HAE := Lib.hid (And.intro hae hne)
  clear hae hne
  have hn := HK.out.1
  have hw1 : IntKind.i64.wrap (31 - (n : Int)) = ((31 - n : Nat) : Int) := by rw [IntWalk.i64_in _ (by omega)]; omega
  have hw2 : IntKind.i64.wrap ((n : Int) + 1) = (n : Int) + 1 := IntWalk.i64_in _ (by omega)
  have h3 : (2 ^ (31 - n) : Nat) < 4294967296 := Nat.lt_of_le_of_lt (Nat.pow_le_pow_right (by omega) (show 31 - n ≤ 31 by omega)) (by decide)
  have hv : bits .or .u32 (a : Int) (IntKind.u32.wrap ((2 : Int) ^ (31 - n))) = ((a ||| 2 ^ (31 - n) : Nat) : Int) := by
    rw [show (2 : Int) ^ (31 - n) = ((2 ^ (31 - n) : Nat) : Int) from by push_cast; rfl]
    generalize 2 ^ (31 - n) = z at h3 ⊢
    rw [show IntKind.u32.wrap (z : Int) = (z : Int) from IntWalk.u32_in _ (by omega)]
    exact u32_or_nat _ _ HK.out.2 h3
  generalize a ||| 2 ^ (31 - n) = b at *
  clear h3
  go_wp2_with fail
  go_region_held3 (fun w' => w'.cell? ⟨w.heap.size, 0, none⟩ = some (.int .u32 (a : Int)) ∧ w'.cell? ⟨w.heap.size, 1, none⟩ = some (.int .i64 (n : Int))) (exact ⟨by go_simp, by go_simp⟩) (fail)
  go_wp2_with fail
  obtain ⟨w3, hw3⟩ : ∃ w3, w3 = ((((w1.setCell ⟨w.heap.size + 1, 0, none⟩ (.int .u32 (a : Int))).setCell ⟨w.heap.size + 1, 1, none⟩ (.int .i64 ((n : Int) + 1))).setCell ⟨w.heap.size + 1 + 1, 0, none⟩ (.int .u32 (b : Int))).setCell ⟨w.heap.size + 1 + 1, 1, none⟩ (.int .i64 ((n : Int) + 1))).drew := ⟨_, rfl⟩
  rw [← hw3]
  have c1 := stores_all [.int .u32 (a : Int), .int .i64 ((n : Int) + 1)] HKK.out.1 rfl
  have c2 := stores_far [.int .u32 (a : Int), .int .i64 ((n : Int) + 1)] 0 HKK.out.2 (show w.heap.size + 1 + 1 ≠ w.heap.size + 1 by omega)
  have c3 := stores_all [.int .u32 (b : Int), .int .i64 ((n : Int) + 1)] c2 rfl
  have c4 := stores_far [.int .u32 (b : Int), .int .i64 ((n : Int) + 1)] 0 c1 (show w.heap.size + 1 ≠ w.heap.size + 1 + 1 by omega)
  simp only [stores, Nat.zero_add] at c3 c4
  have hb3 : Below w.heap.size w w3 := by
    rw [hw3]
    exact ((((HB1.out.setCell (p := ⟨w.heap.size + 1, 0, none⟩) (by show w.heap.size ≤ w.heap.size + 1; omega) _).setCell (p := ⟨w.heap.size + 1, 1, none⟩) (by show w.heap.size ≤ w.heap.size + 1; omega) _).setCell (p := ⟨w.heap.size + 1 + 1, 0, none⟩) (by show w.heap.size ≤ w.heap.size + 1 + 1; omega) _).setCell (p := ⟨w.heap.size + 1 + 1, 1, none⟩) (by show w.heap.size ≤ w.heap.size + 1 + 1; omega) _).drew
  have d1 : Bk w3 (w.heap.size + 1) 35 #[.int .u32 (a : Int), .int .i64 ((n : Int) + 1)] := by rw [hw3]; exact bkd c4
  have d2 : Bk w3 (w.heap.size + 1 + 1) 35 #[.int .u32 (b : Int), .int .i64 ((n : Int) + 1)] := by rw [hw3]; exact bkd c3
  clear c1 c2 c3 c4 p pl q ql qf r rl rf hw3 HKK
  have q := fun i => d1.cell i
  have ql := d1.lt
  have qf := fun i => d1.free i
  have r := fun i => d2.cell i
  have rl := d2.lt
  have rf := fun i => d2.free i
  have HD := Lib.hid (And.intro d1 (And.intro d2 hb3))
  clear d1 d2 hb3 HB1
  go_region_held3 (fun w' => w'.cell? ⟨w.heap.size + 1, 0, none⟩ = some (.int .u32 (a : Int)) ∧ w'.cell? ⟨w.heap.size + 1, 1, none⟩ = some (.int .i64 ((n : Int) + 1)) ∧ w'.cell? ⟨w.heap.size + 1 + 1, 0, none⟩ = some (.int .u32 (b : Int)) ∧ w'.cell? ⟨w.heap.size + 1 + 1, 1, none⟩ = some (.int .i64 ((n : Int) + 1))) (exact ⟨by go_simp, by go_simp, by go_simp, by go_simp⟩) (fail)
  go_wp2_with fail
  obtain ⟨d1, d2, hb3⟩ := HD.out
  have c1 := stores_all [.int .u32 (a : Int), .int .i64 ((n : Int) + 1)] d1 rfl
  have c2 := stores_far [.int .u32 (a : Int), .int .i64 ((n : Int) + 1)] 0 d2 (show w.heap.size + 1 + 1 ≠ w.heap.size + 1 by omega)
  have c3 := stores_all [.int .u32 (b : Int), .int .i64 ((n : Int) + 1)] c2 rfl
  have c4 := stores_far [.int .u32 (b : Int), .int .i64 ((n : Int) + 1)] 0 c1 (show w.heap.size + 1 ≠ w.heap.size + 1 + 1 by omega)
  simp only [stores, Nat.zero_add] at c3 c4
  refine bodyPost_ret (res_cct rfl _ _ (w.heap.size + 1) (w.heap.size + 1 + 1) 35 35 (.bool true) #[.int .u32 (a : Int), .int .i64 ((n : Int) + 1)] #[.int .u32 (b : Int), .int .i64 ((n : Int) + 1)] (0, 0) (0, 0) _ _ rfl (hpd c4) Try.underlying35 rfl info_pf2 rfl (hpd c3) Try.underlying35 rfl info_pf2 rfl) rfl ?_
  refine ⟨?_, ((((hb3.setCell (p := ⟨w.heap.size + 1, 0, none⟩) (by show w.heap.size ≤ w.heap.size + 1; omega) _).setCell (p := ⟨w.heap.size + 1, 1, none⟩) (by show w.heap.size ≤ w.heap.size + 1; omega) _).setCell (p := ⟨w.heap.size + 1 + 1, 0, none⟩) (by show w.heap.size ≤ w.heap.size + 1 + 1; omega) _).setCell (p := ⟨w.heap.size + 1 + 1, 1, none⟩) (by show w.heap.size ≤ w.heap.size + 1 + 1; omega) _).drew⟩
  obtain ⟨e1, e2⟩ := HAE.out
  rw [HT.out, e1, e2]
end Go.Proofs.Ytpabblkppbfbjaa.wlk
