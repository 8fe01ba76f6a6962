/- What walk.steps and walk.Steps return of a good prefix, said by its bits. Conditions: at most eight deep. -/
import Derived.Test.YtpabblkppbfbjaaWalkFns
import Derived.Test.YtpabblkppbfbjaaNlriSort
import Derived.Test.YtpabblkppbfbjaaSplice
import Derived.Deep.RegionLaw
namespace Go.Proofs.Ytpabblkppbfbjaa.wlk
open Go.RowKit Go.Proofs.Ytpabblkppbfbjaa.kit Go.Proofs.Ytpabblkppbfbjaa.pfx Go.Proofs.Ytpabblkppbfbjaa.mem Go.Proofs.Ytpabblkppbfbjaa.foot Go.Proofs.Ytpabblkppbfbjaa.tri Go.Proofs.Ytpabblkppbfbjaa.srt
set_option linter.unusedVariables false
set_option linter.unusedSimpArgs false

/-- a prefix and what it covers, so deep -/
def stepsK : Nat → Key → List Key
  | 0, k => [k]
  | d + 1, k => if k.length < 32 then k :: (stepsK d (k ++ [false]) ++ stepsK d (k ++ [true])) else [k]
theorem stepsK_len : ∀ (d : Nat) (k : Key), 1 ≤ (stepsK d k).length ∧ (stepsK d k).length + 1 ≤ 2 ^ (d + 1)
  | 0, k => by simp [stepsK]
  | d + 1, k => by
    have h1 := stepsK_len d (k ++ [false])
    have h2 := stepsK_len d (k ++ [true])
    unfold stepsK
    have hp : 2 ^ (d + 1 + 1) = 2 * 2 ^ (d + 1) := by rw [Nat.pow_succ, Nat.mul_comm]
    split
    · simp only [List.length_cons, List.length_append]
      omega
    · simp
      omega
def pfs (l : List Key) : List Pf := l.map kp
theorem pfs_app (a b : List Key) : pfs (a ++ b) = pfs a ++ pfs b := by simp [pfs]

/-- beyond the last: no halves -/
theorem Halves_32 (k : Key) (hk : k.length = 32) (w : World) : Calls Try.prog 64 #[.agg #[.int .u32 (adr k : Int), .int .i64 (k.length : Int)]] w fun e w' => e = .returned (.tuple #[.agg #[.int .u32 0, .int .i64 0], .agg #[.int .u32 0, .int .i64 0], .bool false]) ∧ Below w.heap.size w w' := by
  have ha := adr_lt (k := k) (by omega)
  have HG := good_in (adr k) k.length ha
  rw [good_adr (by omega)] at HG
  rw [hk] at HG ⊢
  have HGd := Lib.hid HG
  clear HG hk ha
  have HB0 : Hid (Below w.heap.size w (((w.alloc (.cells #[.int .u32 (adr k : Int), .int .i64 ((32 : Nat) : Int)] 35)).alloc (.cells #[.int .u32 0, .int .i64 0] 35)).alloc (.cells #[.int .u32 0, .int .i64 0] 35))) := (((Below.refl _ _).alloc (Nat.le_refl _) _).alloc (by simp) _).alloc (by simp; omega) _
  have K0 : Hid (Bk (((w.alloc (.cells #[.int .u32 (adr k : Int), .int .i64 ((32 : Nat) : Int)] 35)).alloc (.cells #[.int .u32 0, .int .i64 0] 35)).alloc (.cells #[.int .u32 0, .int .i64 0] 35)) w.heap.size 35 #[.int .u32 (adr k : Int), .int .i64 ((32 : Nat) : Int)]) := (Bk.new w _ _).below (((Below.refl _ _).alloc (Nat.le_refl _) _).alloc (by simp) _) (by simp)
  have K1 : Hid (Bk (((w.alloc (.cells #[.int .u32 (adr k : Int), .int .i64 ((32 : Nat) : Int)] 35)).alloc (.cells #[.int .u32 0, .int .i64 0] 35)).alloc (.cells #[.int .u32 0, .int .i64 0] 35)) (w.heap.size + 1) 35 #[.int .u32 0, .int .i64 0]) := by
    have h := (Bk.new (w.alloc (.cells #[.int .u32 (adr k : Int), .int .i64 ((32 : Nat) : Int)] 35)) 35 #[.int .u32 0, .int .i64 0]).below ((Below.refl _ _).alloc (Nat.le_refl _) (.cells #[.int .u32 0, .int .i64 0] 35)) (by simp)
    rw [World.size_alloc] at h
    exact h
  have K2 : Hid (Bk (((w.alloc (.cells #[.int .u32 (adr k : Int), .int .i64 ((32 : Nat) : Int)] 35)).alloc (.cells #[.int .u32 0, .int .i64 0] 35)).alloc (.cells #[.int .u32 0, .int .i64 0] 35)) (w.heap.size + 1 + 1) 35 #[.int .u32 0, .int .i64 0]) := by
    have h := Bk.new ((w.alloc (.cells #[.int .u32 (adr k : Int), .int .i64 ((32 : Nat) : Int)] 35)).alloc (.cells #[.int .u32 0, .int .i64 0] 35)) 35 #[.int .u32 0, .int .i64 0]
    rw [World.size_alloc, World.size_alloc] at h
    exact h
  have e32 : (((32 : Nat) : Int)) = 32 := rfl
  rw [e32] at HGd HB0 K0 K1 K2 ⊢
  go_enter Try.func64, Try.ntmps64
  go_wp2_with fail
  refine (HGd.out _).mono ?_; rintro e w1 ⟨rfl, hb1⟩
  have k0 := K0.out.below hb1 K0.out.lt
  have d1 := K1.out.below hb1 K1.out.lt
  have d2 := K2.out.below hb1 K2.out.lt
  have hb3 := HB0.out.trans (hb1.mono HB0.out.size)
  have p := fun i => k0.cell i
  have pl := k0.lt
  have q := fun i => d1.cell i
  have ql := d1.lt
  have qf := fun i => d1.free i
  have r := fun i => d2.cell i
  have rl := d2.lt
  have rf := fun i => d2.free i
  have HD := Lib.hid (And.intro d1 (And.intro d2 hb3))
  clear k0 d1 d2 hb3 hb1 HB0 K0 K1 K2
  generalize adr k = a at *
  go_wp2_with fail
  go_region_held3 (fun w' => w'.cell? ⟨w.heap.size + 1, 0, none⟩ = some (.int .u32 0) ∧ w'.cell? ⟨w.heap.size + 1, 1, none⟩ = some (.int .i64 0) ∧ w'.cell? ⟨w.heap.size + 1 + 1, 0, none⟩ = some (.int .u32 0) ∧ w'.cell? ⟨w.heap.size + 1 + 1, 1, none⟩ = some (.int .i64 0)) (exact ⟨by go_simp, by go_simp, by go_simp, by go_simp⟩) (fail)
  go_wp2_with fail
  obtain ⟨d1, d2, hb3⟩ := HD.out
  have c1 := stores_all [.int .u32 0, .int .i64 0] d1 rfl
  have c2 := stores_far [.int .u32 0, .int .i64 0] 0 d2 (show w.heap.size + 1 + 1 ≠ w.heap.size + 1 by omega)
  have c3 := stores_all [.int .u32 0, .int .i64 0] c2 rfl
  have c4 := stores_far [.int .u32 0, .int .i64 0] 0 c1 (show w.heap.size + 1 ≠ w.heap.size + 1 + 1 by omega)
  simp only [stores, Nat.zero_add] at c3 c4
  refine bodyPost_ret (res_cct rfl _ _ (w.heap.size + 1) (w.heap.size + 1 + 1) 35 35 (.bool false) #[.int .u32 0, .int .i64 0] #[.int .u32 0, .int .i64 0] (0, 0) (0, 0) _ _ rfl (hpd c4) Try.underlying35 rfl info_pf2 rfl (hpd c3) Try.underlying35 rfl info_pf2 rfl) rfl ?_
  exact ⟨rfl, ((((hb3.setCell (p := ⟨w.heap.size + 1, 0, none⟩) (by show w.heap.size ≤ w.heap.size + 1; omega) _).setCell (p := ⟨w.heap.size + 1, 1, none⟩) (by show w.heap.size ≤ w.heap.size + 1; omega) _).setCell (p := ⟨w.heap.size + 1 + 1, 0, none⟩) (by show w.heap.size ≤ w.heap.size + 1 + 1; omega) _).setCell (p := ⟨w.heap.size + 1 + 1, 1, none⟩) (by show w.heap.size ≤ w.heap.size + 1 + 1; omega) _).drew⟩

/-- what steps hands back -/
def RetSt (l : List Key) (w : World) (e : Ending) (w' : World) : Prop := ∃ A c, e = .returned (.slice A l.length c) ∧ Own w' 35 2 A l.length c (fv (pfs l)) ∧ (∀ x, sf A x → w.heap.size ≤ x) ∧ Below w.heap.size w w'

theorem rg_pf {w : World} {A : Option Addr} {n c : Nat} {xs : List Value} (h : Own w 35 2 A n c xs) : Rg w (sf A) 2 A n xs := h.rg
set_option maxRecDepth 100000 in
set_option maxHeartbeats 2000000 in
theorem steps_succ (d : Nat) (IH : ∀ (k : Key) (w : World), k.length ≤ 32 → Calls Try.prog 47 #[.agg #[.int .u32 (adr k : Int), .int .i64 (k.length : Int)], .int .i64 (d : Int)] w (RetSt (stepsK d k) w)) (k : Key) (w : World) (hd : d ≤ 8) (hk2 : k.length < 32) :
    Calls Try.prog 47 #[.agg #[.int .u32 (adr k : Int), .int .i64 (k.length : Int)], .int .i64 ((d + 1 : Nat) : Int)] w (RetSt (stepsK (d + 1) k) w) := by
  have hI1 := fun w => IH (k ++ [false]) w (by simp; omega)
  have hI2 := fun w => IH (k ++ [true]) w (by simp; omega)
  have el1 : ((k ++ [false]).length : Int) = (k.length : Int) + 1 := by simp
  have el2 : ((k ++ [true]).length : Int) = (k.length : Int) + 1 := by simp
  rw [el1] at hI1
  rw [el2] at hI2
  have HI1 := Lib.hid hI1
  have HI2 := Lib.hid hI2
  have HH := Lib.hid (fun w => Halves_key k hk2 w)
  have hl1 := stepsK_len d (k ++ [false])
  have hl2 := stepsK_len d (k ++ [true])
  have hpow : 2 ^ (d + 1) ≤ 512 := Nat.le_trans (Nat.pow_le_pow_right (by omega) (show d + 1 ≤ 9 by omega)) (by decide)
  have e : stepsK (d + 1) k = k :: (stepsK d (k ++ [false]) ++ stepsK d (k ++ [true])) := by rw [stepsK, if_pos hk2]
  rw [e]
  obtain ⟨l1, hl1e⟩ : ∃ l, l = stepsK d (k ++ [false]) := ⟨_, rfl⟩
  obtain ⟨l2, hl2e⟩ : ∃ l, l = stepsK d (k ++ [true]) := ⟨_, rfl⟩
  rw [← hl1e] at hl1 HI1 ⊢
  rw [← hl2e] at hl2 HI2 ⊢
  have hb1 : l1.length ≤ 512 := by omega
  have hb2 : l2.length ≤ 512 := by omega
  generalize adr (k ++ [false]) = aF at *
  generalize adr (k ++ [true]) = aT at *
  obtain ⟨i0, hi0, hz0, hz1, hz2⟩ := info_parts info_pf
  have Hi := Lib.hid hi0
  have Hz0 := Lib.hid hz0
  have Hz1 := Lib.hid hz1
  have Hz2 := Lib.hid hz2
  have hw1 : IntKind.i64.wrap ((d : Int) + 1 - 1) = (d : Int) := (IntWalk.i64_in _ (by omega)).trans (by omega)
  have hw0 : IntKind.i64.wrap (d : Int) = (d : Int) := IntWalk.i64_in _ (by omega)
  have hd0 : decide ((0 : Int) < ((d + 1 : Nat) : Int)) = true := decide_eq_true (by omega)
  have HBa : Hid (Below w.heap.size w ((w.alloc (.cells #[.int .u32 (adr k : Int), .int .i64 (k.length : Int)] 35)).alloc (.cells #[.int .u32 (adr k : Int), .int .i64 (k.length : Int)] 35))) := ((Below.refl _ _).alloc (Nat.le_refl _) _).alloc (by simp) _
  have HO0 : Hid (Own ((w.alloc (.cells #[.int .u32 (adr k : Int), .int .i64 (k.length : Int)] 35)).alloc (.cells #[.int .u32 (adr k : Int), .int .i64 (k.length : Int)] 35)) 35 2 (some ⟨w.heap.size + 1, 0, none⟩) 1 1 (fv (pfs [k]))) := by
    have h := Own.made (w.alloc (.cells #[.int .u32 (adr k : Int), .int .i64 (k.length : Int)] 35)) 35 2 1 1 #[.int .u32 (adr k : Int), .int .i64 (k.length : Int)] (fv (pfs [k])) (Nat.le_refl _) (by unfold maxLen; omega) rfl rfl rfl
    rw [World.size_alloc] at h
    exact h
  have HF := Lib.hid (fv_one)
  clear hl1 hl2 hpow e hl1e hl2e hI1 hI2 el1 el2 IH hi0 hz0 hz1 hz2
  go_enter Try.func47, Try.ntmps47
  go_wp2_with fail
  refine (HH.out _).mono ?_; rintro e w3 ⟨rfl, hb3⟩
  have HB3 := Lib.hid (HBa.out.trans (hb3.mono (by simp; omega)))
  have HO3 := Lib.hid (HO0.out.bel hb3)
  have hlt3 : w.heap.size + 1 < w3.heap.size := by have := hb3.size; simp at this; omega
  clear hb3 HBa HO0 HH
  go_wp2_with fail
  have HBx : Hid (Bk ((w3.alloc (.cells #[.int .u32 (aF : Int), .int .i64 ((k.length : Int) + 1)] 35)).alloc (.cells #[.int .u32 (aT : Int), .int .i64 ((k.length : Int) + 1)] 35)).drew w3.heap.size 35 #[.int .u32 (aF : Int), .int .i64 ((k.length : Int) + 1)] ∧ Bk ((w3.alloc (.cells #[.int .u32 (aF : Int), .int .i64 ((k.length : Int) + 1)] 35)).alloc (.cells #[.int .u32 (aT : Int), .int .i64 ((k.length : Int) + 1)] 35)).drew (w3.heap.size + 1) 35 #[.int .u32 (aT : Int), .int .i64 ((k.length : Int) + 1)]) := by
    refine ⟨bkd ((Bk.new w3 _ _).below ((Below.refl _ _).alloc (Nat.le_refl _) _) (by simp)), bkd ?_⟩
    have h := Bk.new (w3.alloc (.cells #[.int .u32 (aF : Int), .int .i64 ((k.length : Int) + 1)] 35)) 35 #[.int .u32 (aT : Int), .int .i64 ((k.length : Int) + 1)]
    rw [World.size_alloc] at h
    exact h
  have HA : Hid (Acc w 35 2 ((w3.alloc (.cells #[.int .u32 (aF : Int), .int .i64 ((k.length : Int) + 1)] 35)).alloc (.cells #[.int .u32 (aT : Int), .int .i64 ((k.length : Int) + 1)] 35)).drew (some ⟨w.heap.size + 1, 0, none⟩) 1 1 (fv (pfs [k]))) := by
    have hbb : Below w3.heap.size w3 ((w3.alloc (.cells #[.int .u32 (aF : Int), .int .i64 ((k.length : Int) + 1)] 35)).alloc (.cells #[.int .u32 (aT : Int), .int .i64 ((k.length : Int) + 1)] 35)).drew := (((Below.refl _ _).alloc (Nat.le_refl _) _).alloc (by simp) _).drew
    exact ⟨HO3.out.bel hbb, HB3.out.trans (hbb.mono HB3.out.size), fun x hx => by rw [sf_some] at hx; have hx : w.heap.size + 1 = x := hx; omega⟩
  go_region_held3 (fun w' => w'.cell? ⟨w3.heap.size, 0, none⟩ = some (.int .u32 (aF : Int)) ∧ w'.cell? ⟨w3.heap.size, 1, none⟩ = some (.int .i64 ((k.length : Int) + 1)) ∧ w'.cell? ⟨w3.heap.size + 1, 0, none⟩ = some (.int .u32 (aT : Int)) ∧ w'.cell? ⟨w3.heap.size + 1, 1, none⟩ = some (.int .i64 ((k.length : Int) + 1))) (exact ⟨HBx.out.1.cell 0, HBx.out.1.cell 1, HBx.out.2.cell 0, HBx.out.2.cell 1⟩) (first
    | (go_at_call 47; (with_reducible refine (HI1.out _).mono ?_); rintro e w5 ⟨A1, c1, rfl, ho1, hlo1, hb5⟩; go_must (have hA' := HA.out.go hb5); go_must (have hB' := And.intro (HBx.out.1.below hb5 HBx.out.1.lt) (HBx.out.2.below hb5 HBx.out.2.lt)); clear HA HBx; have HA := Lib.hid hA'; have HBx := Lib.hid hB'; have HO1 := Lib.hid ho1; clear hA' hB' ho1 hlo1 hb5)
    | (refine step_app _ (by rfl) (.tmp 22) (.tmp 26) _ (by rfl) 35 i0 _ 2 16 Try.underlying22 Hi.out Hz0.out Hz1.out Hz2.out rfl (by omega) (some ⟨w.heap.size + 1, 0, none⟩) 1 1 (fv (pfs [k])) (by rfl) HA.out.own _ A1 l1.length c1 HO1.out.nil (fv (pfs l1)) (by rfl) HO1.out.rg (fv_one _) (by unfold maxLen; omega) (by omega) ?_; intro A4 c4 w6 ho4 hc4 hf4; go_must (have hA' := HA.out.app ho4 hc4 hf4); go_must (have hB' := And.intro (HBx.out.1.chg hc4 (fun e => by rw [sf_some] at e; have e : w.heap.size + 1 = w3.heap.size := e; omega)) (HBx.out.2.chg hc4 (fun e => by rw [sf_some] at e; have e : w.heap.size + 1 = w3.heap.size + 1 := e; omega))); go_must (have HF4 : Hid (∀ x, sf A4 x → x = w.heap.size + 1 ∨ w3.heap.size + 1 < x) := fun x hx => (hf4 x hx).elim (fun g => .inl (by rw [sf_some] at g; exact (show w.heap.size + 1 = x from g).symm)) (fun g => .inr (by have := HBx.out.2.lt; omega))); clear HA HBx; have HA := Lib.hid hA'; have HBx := Lib.hid hB'; clear hA' hB' ho4 hc4 hf4 HO1)
    | (go_at_call 47; (with_reducible refine (HI2.out _).mono ?_); rintro e w7 ⟨A2, c2, rfl, ho2, hlo2, hb7⟩; go_must (have hA' := HA.out.go hb7); go_must (have hB' := And.intro (HBx.out.1.below hb7 HBx.out.1.lt) (HBx.out.2.below hb7 HBx.out.2.lt)); clear HA HBx; have HA := Lib.hid hA'; have HBx := Lib.hid hB'; have HO2 := Lib.hid ho2; clear hA' hB' ho2 hlo2 hb7)
    | (refine step_app _ (by rfl) (.tmp 27) (.tmp 31) _ (by rfl) 35 i0 _ 2 16 Try.underlying22 Hi.out Hz0.out Hz1.out Hz2.out rfl (by omega) A4 (1 + l1.length) c4 (fv (pfs [k]) ++ fv (pfs l1)) (by rfl) HA.out.own _ A2 l2.length c2 HO2.out.nil (fv (pfs l2)) (by rfl) HO2.out.rg (fv_one _) (by unfold maxLen; omega) (by omega) ?_; intro A6 c6 w8 ho6 hc6 hf6; go_must (have hA' := HA.out.app ho6 hc6 hf6); go_must (have hB' := And.intro (HBx.out.1.chg hc6 (fun e => by rcases HF4.out _ e with g | g <;> omega)) (HBx.out.2.chg hc6 (fun e => by rcases HF4.out _ e with g | g <;> omega))); clear HA HBx; have HA := Lib.hid hA'; have HBx := Lib.hid hB'; clear hA' hB' ho6 hc6 hf6 HO2))
  all_goals
    go_wp2_with fail
    go_ret
    have hx : fv (pfs [k]) ++ fv (pfs l1) ++ fv (pfs l2) = fv (pfs (k :: (l1 ++ l2))) := by rw [← fv_app, ← fv_app, ← pfs_app, ← pfs_app]; simp
    have hn : 1 + l1.length + l2.length = (k :: (l1 ++ l2)).length := by simp; omega
    have ho := HA.out.own
    rw [hx, hn] at ho
    exact ⟨A6, c6, by rw [← hn]; rfl, ho, HA.out.low, HA.out.bel⟩

set_option maxRecDepth 100000 in
set_option maxHeartbeats 1000000 in
theorem steps_32 (d : Nat) (hd : d ≤ 8) (k : Key) (w : World) (hk : k.length = 32) : Calls Try.prog 47 #[.agg #[.int .u32 (adr k : Int), .int .i64 (k.length : Int)], .int .i64 (d : Int)] w (RetSt [k] w) := by
  have HH := Lib.hid (fun w => Halves_32 k hk w)
  have HBa : Hid (Below w.heap.size w ((w.alloc (.cells #[.int .u32 (adr k : Int), .int .i64 (k.length : Int)] 35)).alloc (.cells #[.int .u32 (adr k : Int), .int .i64 (k.length : Int)] 35))) := ((Below.refl _ _).alloc (Nat.le_refl _) _).alloc (by simp) _
  have HO0 : Hid (Own ((w.alloc (.cells #[.int .u32 (adr k : Int), .int .i64 (k.length : Int)] 35)).alloc (.cells #[.int .u32 (adr k : Int), .int .i64 (k.length : Int)] 35)) 35 2 (some ⟨w.heap.size + 1, 0, none⟩) 1 1 (fv (pfs [k]))) := by
    have h := Own.made (w.alloc (.cells #[.int .u32 (adr k : Int), .int .i64 (k.length : Int)] 35)) 35 2 1 1 #[.int .u32 (adr k : Int), .int .i64 (k.length : Int)] (fv (pfs [k])) (Nat.le_refl _) (by unfold maxLen; omega) rfl rfl rfl
    rw [World.size_alloc] at h
    exact h
  clear hk
  go_enter Try.func47, Try.ntmps47
  go_wp2_with fail
  refine (HH.out _).mono ?_; rintro e w3 ⟨rfl, hb3⟩
  have HB3 := Lib.hid (HBa.out.trans (hb3.mono (by simp; omega)))
  have HO3 := Lib.hid (HO0.out.bel hb3)
  clear hb3 HBa HO0 HH
  go_wp2_with fail
  go_ret
  have hbb : Below w3.heap.size w3 ((w3.alloc (.cells #[.int .u32 0, .int .i64 0] 35)).alloc (.cells #[.int .u32 0, .int .i64 0] 35)) := ((Below.refl _ _).alloc (Nat.le_refl _) _).alloc (by simp) _
  exact ⟨_, 1, rfl, HO3.out.bel hbb, fun x hx => by rw [sf_some] at hx; have hx : w.heap.size + 1 = x := hx; omega, HB3.out.trans (hbb.mono HB3.out.size)⟩

set_option maxRecDepth 100000 in
set_option maxHeartbeats 1000000 in
theorem steps_zero (k : Key) (w : World) (hk : k.length < 32) : Calls Try.prog 47 #[.agg #[.int .u32 (adr k : Int), .int .i64 (k.length : Int)], .int .i64 0] w (RetSt [k] w) := by
  have HH := Lib.hid (fun w => Halves_key k hk w)
  have HBa : Hid (Below w.heap.size w ((w.alloc (.cells #[.int .u32 (adr k : Int), .int .i64 (k.length : Int)] 35)).alloc (.cells #[.int .u32 (adr k : Int), .int .i64 (k.length : Int)] 35))) := ((Below.refl _ _).alloc (Nat.le_refl _) _).alloc (by simp) _
  have HO0 : Hid (Own ((w.alloc (.cells #[.int .u32 (adr k : Int), .int .i64 (k.length : Int)] 35)).alloc (.cells #[.int .u32 (adr k : Int), .int .i64 (k.length : Int)] 35)) 35 2 (some ⟨w.heap.size + 1, 0, none⟩) 1 1 (fv (pfs [k]))) := by
    have h := Own.made (w.alloc (.cells #[.int .u32 (adr k : Int), .int .i64 (k.length : Int)] 35)) 35 2 1 1 #[.int .u32 (adr k : Int), .int .i64 (k.length : Int)] (fv (pfs [k])) (Nat.le_refl _) (by unfold maxLen; omega) rfl rfl rfl
    rw [World.size_alloc] at h
    exact h
  clear hk
  go_enter Try.func47, Try.ntmps47
  go_wp2_with fail
  refine (HH.out _).mono ?_; rintro e w3 ⟨rfl, hb3⟩
  have HB3 := Lib.hid (HBa.out.trans (hb3.mono (by simp; omega)))
  have HO3 := Lib.hid (HO0.out.bel hb3)
  clear hb3 HBa HO0 HH
  go_wp2_with fail
  go_ret
  have hbb : Below w3.heap.size w3 ((w3.alloc (.cells #[.int .u32 (adr (k ++ [false]) : Int), .int .i64 ((k.length : Int) + 1)] 35)).alloc (.cells #[.int .u32 (adr (k ++ [true]) : Int), .int .i64 ((k.length : Int) + 1)] 35)) := ((Below.refl _ _).alloc (Nat.le_refl _) _).alloc (by simp) _
  exact ⟨_, 1, rfl, HO3.out.bel hbb, fun x hx => by rw [sf_some] at hx; have hx : w.heap.size + 1 = x := hx; omega, HB3.out.trans (hbb.mono HB3.out.size)⟩

theorem steps_any : ∀ (d : Nat) (k : Key) (w : World), d ≤ 8 → k.length ≤ 32 → Calls Try.prog 47 #[.agg #[.int .u32 (adr k : Int), .int .i64 (k.length : Int)], .int .i64 (d : Int)] w (RetSt (stepsK d k) w)
  | 0, k, w, hd, hk => by
    rcases (show k.length = 32 ∨ k.length < 32 from by omega) with h | h
    · exact steps_32 0 (by omega) k w h
    · exact steps_zero k w h
  | d + 1, k, w, hd, hk => by
    rcases (show k.length = 32 ∨ k.length < 32 from by omega) with h | h
    · have e : stepsK (d + 1) k = [k] := by rw [stepsK, if_neg (by omega)]
      rw [e]
      exact steps_32 (d + 1) hd k w h
    · exact steps_succ d (fun k w hk => steps_any d k w (by omega) hk) k w (by omega) h
end Go.Proofs.Ytpabblkppbfbjaa.wlk
