/- What prefix.Common returns of two good prefixes. Condition: both are good. -/
import Derived.Test.YtpabblkppbfbjaaDoorTrieNum
import Derived.Test.YtpabblkppbfbjaaDoorPfxFns2
import Derived.Test.YtpabblkppbfbjaaDoorShLz
import Derived.Test.YtpabblkppbfbjaaDoorStruct
namespace Go.Proofs.YtpabblkppbfbjaaDoor.tri
open Go.RowKit Go.Proofs.YtpabblkppbfbjaaDoor.kit Go.Proofs.YtpabblkppbfbjaaDoor.mem Go.Proofs.YtpabblkppbfbjaaDoor.foot Go.Proofs.YtpabblkppbfbjaaDoor.pfx
set_option linter.unusedVariables false
set_option linter.unusedSimpArgs false

theorem bitLenAux_spec : ∀ (f x : Nat), x < 2 ^ f → Lib.bitLenAux f x ≤ f ∧ x < 2 ^ Lib.bitLenAux f x ∧ (0 < Lib.bitLenAux f x → 2 ^ (Lib.bitLenAux f x - 1) ≤ x)
  | 0, x, h => by simp [Lib.bitLenAux] at h ⊢; omega
  | f + 1, x, h => by
    rw [Lib.bitLenAux]
    split
    · rename_i h0; subst h0; simp
    · rename_i h0
      have ih := bitLenAux_spec f (x / 2) (by rw [Nat.pow_succ] at h; omega)
      obtain ⟨h1, h2, h3⟩ := ih
      refine ⟨by omega, ?_, fun _ => ?_⟩
      · rw [Nat.add_comm, Nat.pow_succ]; omega
      · rcases Nat.eq_zero_or_pos (Lib.bitLenAux f (x / 2)) with e | e
        · rw [e]; simp; omega
        · have := h3 e
          have e2 : 1 + Lib.bitLenAux f (x / 2) - 1 = (Lib.bitLenAux f (x / 2) - 1) + 1 := by omega
          rw [e2, Nat.pow_succ]; omega
theorem lz_of {x : Nat} (h : x < 4294967296) : Lib.bitLen x ≤ 32 ∧ Lz x (32 - Lib.bitLen x) := by
  have h1 : x < 2 ^ 64 := Nat.lt_trans h (by decide)
  obtain ⟨a, b, c⟩ := bitLenAux_spec 64 x h1
  have e : Lib.bitLenAux 64 x = Lib.bitLen x := rfl
  rw [e] at a b c
  have hle : Lib.bitLen x ≤ 32 := by
    rcases Nat.lt_or_ge 32 (Lib.bitLen x) with h2 | h2
    · have h3 := c (by omega)
      have h4 : 2 ^ 32 ≤ 2 ^ (Lib.bitLen x - 1) := Nat.pow_le_pow_right (by omega) (by omega)
      have : (2 : Nat) ^ 32 = 4294967296 := by decide
      omega
    · exact h2
  refine ⟨hle, by omega, ?_, fun h2 => ?_⟩
  · rw [show 32 - (32 - Lib.bitLen x) = Lib.bitLen x from by omega]; exact b
  · rw [show 31 - (32 - Lib.bitLen x) = Lib.bitLen x - 1 from by omega]; exact c (by omega)
theorem info_prefix : (Tryd.prog.info? 24).map (·.size) = some 2 := by kernel_rfl

set_option maxRecDepth 100000 in
set_option maxHeartbeats 1000000 in
theorem common_any (k q : Key) (hk : k.length ≤ 32) (hq : q.length ≤ 32) (w : World) :
    Calls Tryd.prog 27 #[.agg #[.int .u32 (adr k), .int .i64 k.length], .agg #[.int .u32 (adr q), .int .i64 q.length]] w fun e w' => e = .returned (.agg #[.int .u32 (adr (lcp k q)), .int .i64 (lcp k q).length]) ∧ Below w.heap.size w w' := by
  have ha := adr_lt hk
  have hb := adr_lt hq
  have hxlt : adr k ^^^ adr q < 4294967296 := Nat.xor_lt_two_pow (n := 32) ha hb
  obtain ⟨hz1, hz2⟩ := lz_of hxlt
  have hck := common_key ha hb hk hq hz2
  rw [bits_adr hk, bits_adr hq] at hck
  have hlen : (lcp k q).length = min (32 - Lib.bitLen (adr k ^^^ adr q)) (min k.length q.length) := by rw [hck, bitsOf_len]
  have HADR : Hid (adr (lcp k q) = cutv (adr k) (lcp k q).length) := by
    rw [Hid, hlen]
    rw [← adr_bits _ ha _ (by omega), ← hck]
  have hx32 := u32_xor_nat (adr k) (adr q) ha hb
  have HLZ := Lib.hid (fun w => Tryd.bits_LeadingZeros32 ((adr k ^^^ adr q : Nat) : Int) w (by omega) (by omega))
  rw [Int.toNat_natCast] at HLZ
  have HG1 := Lib.hid (good_in (adr k) k.length ha)
  have HG2 := Lib.hid (good_in (adr q) q.length hb)
  rw [good_adr hk] at HG1
  rw [good_adr hq] at HG2
  have hl32 : (lcp k q).length ≤ 32 := by omega
  have HM := Lib.hid (mask_any (lcp k q).length hl32)
  have hand := and_mask (adr k) (lcp k q).length ha hl32
  rw [← HADR.out] at hand
  have HL := Lib.hid hlen
  have K0 := Lib.hid (allocs_at [.cells #[.int .u32 (adr k : Int), .int .i64 (k.length : Int)] 24, .cells #[.int .u32 (adr q : Int), .int .i64 (q.length : Int)] 24, .cells #[.int .u32 0, .int .i64 0] 24] w 0 _ _ rfl)
  have K1 := Lib.hid (allocs_at [.cells #[.int .u32 (adr k : Int), .int .i64 (k.length : Int)] 24, .cells #[.int .u32 (adr q : Int), .int .i64 (q.length : Int)] 24, .cells #[.int .u32 0, .int .i64 0] 24] w 1 _ _ rfl)
  have K2 := Lib.hid (allocs_at [.cells #[.int .u32 (adr k : Int), .int .i64 (k.length : Int)] 24, .cells #[.int .u32 (adr q : Int), .int .i64 (q.length : Int)] 24, .cells #[.int .u32 0, .int .i64 0] 24] w 2 _ _ rfl)
  have HB0 := Lib.hid (allocs_below [.cells #[.int .u32 (adr k : Int), .int .i64 (k.length : Int)] 24, .cells #[.int .u32 (adr q : Int), .int .i64 (q.length : Int)] 24, .cells #[.int .u32 0, .int .i64 0] 24] w)
  clear hck hlen HADR hz2 hxlt
  generalize adr (lcp k q) = ac at *
  generalize (lcp k q).length = lc at *
  generalize adr k ^^^ adr q = xx at *
  generalize adr k = ak at *
  generalize adr q = aq at *
  generalize maskv lc = mm at *
  generalize Lib.bitLen xx = bl at *
  go_enter Tryd.func27, Tryd.ntmps27
  go_wp2_with fail
  refine (HG1.out _).mono ?_; rintro e w1 ⟨rfl, hb1⟩
  have k0 := K0.out.below hb1 K0.out.lt
  have k1 := K1.out.below hb1 K1.out.lt
  have k2 := K2.out.below hb1 K2.out.lt
  have HB1 := Lib.hid (HB0.out.trans (hb1.mono HB0.out.size))
  have p1 := k1.cell 0
  have p2 := k1.cell 1
  have l1 : w.heap.size + 1 < w1.heap.size := k1.lt
  simp at p1 p2
  have K0 := Lib.hid k0
  have K1 := Lib.hid k1
  have K2 := Lib.hid k2
  clear k0 k1 k2 hb1 HB0
  go_wp2_with fail
  refine (HG2.out _).mono ?_; rintro e w2 ⟨rfl, hb2⟩
  have k0 := K0.out.below hb2 K0.out.lt
  have k1 := K1.out.below hb2 K1.out.lt
  have k2 := K2.out.below hb2 K2.out.lt
  have HB2 := Lib.hid (HB1.out.trans (hb2.mono HB1.out.size))
  clear p1 p2 l1
  have p0 := k0.cell 0
  have p1 := k0.cell 1
  have q0 := k1.cell 0
  have q1 := k1.cell 1
  have r0 := k2.cell 0
  have r1 := k2.cell 1
  have rf := fun i => k2.free i
  have l0 : w.heap.size < w2.heap.size := k0.lt
  have l1 : w.heap.size + 1 < w2.heap.size := k1.lt
  have l2 : w.heap.size + 1 + 1 < w2.heap.size := k2.lt
  simp at p0 p1 q0 q1 r0 r1
  have K2 := Lib.hid k2
  clear k0 k1 k2 hb2 HB1 K0 K1
  go_wp2_with fail
  go_region_held3 (fun w' => w'.cell? ⟨w.heap.size, 0, none⟩ = some (.int .u32 (ak : Int)) ∧ w'.cell? ⟨w.heap.size, 1, none⟩ = some (.int .i64 (k.length : Int)) ∧ w'.cell? ⟨w.heap.size + 1, 0, none⟩ = some (.int .u32 (aq : Int)) ∧ w'.cell? ⟨w.heap.size + 1, 1, none⟩ = some (.int .i64 (q.length : Int))) (exact ⟨by go_simp, by go_simp, by go_simp, by go_simp⟩) (first
    | (go_at_call 35; refine (HLZ.out _).mono ?_; rintro e w' ⟨rfl, rfl⟩))
  have e : (if (q.length : Int) < if (k.length : Int) < 32 - (bl : Int) then (k.length : Int) else 32 - (bl : Int) then (q.length : Int) else if (k.length : Int) < 32 - (bl : Int) then (k.length : Int) else 32 - (bl : Int)) = (lc : Int) := by
    have := HL.out
    (repeat' split) <;> omega
  rw [e]
  clear e
  go_wp2_with fail
  go_region_held3 (fun w' => w'.cell? ⟨w.heap.size, 0, none⟩ = some (.int .u32 (ak : Int))) (exact (by go_simp)) (first
    | (go_at_call 20; refine (HM.out _).mono ?_; rintro e w' ⟨rfl, rfl⟩))
  have K3 := Lib.hid ((stores_all [.int .u32 (ac : Int), .int .i64 (lc : Int)] K2.out rfl).drew.drew)
  have HB3 := Lib.hid (HB2.out.trans (((stores_below (g := w.heap.size + 1 + 1) [.int .u32 (ac : Int), .int .i64 (lc : Int)] 0 (by omega) HB2.out.size).drew).drew))
  go_wp2_with fail
  exact bodyPost_ret (results_cell_row rfl _ _ (w.heap.size + 1 + 1) 24 _ (0, 0) _ rfl K3.out Tryd.underlying24 rfl info_prefix) rfl ⟨rfl, HB3.out⟩
end Go.Proofs.YtpabblkppbfbjaaDoor.tri
