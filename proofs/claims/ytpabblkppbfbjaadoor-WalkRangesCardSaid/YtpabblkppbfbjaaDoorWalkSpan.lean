/- What walk.Tops, Merge and Span return. Condition: at most 10^8 prefixes. -/
import Derived.Test.YtpabblkppbfbjaaDoorWalkMerge
namespace Go.Proofs.YtpabblkppbfbjaaDoor.wlk
open Go.RowKit Go.Proofs.YtpabblkppbfbjaaDoor.kit Go.Proofs.YtpabblkppbfbjaaDoor.pfx Go.Proofs.YtpabblkppbfbjaaDoor.mem Go.Proofs.YtpabblkppbfbjaaDoor.foot Go.Proofs.YtpabblkppbfbjaaDoor.tri Go.Proofs.YtpabblkppbfbjaaDoor.srt
set_option linter.unusedVariables false
set_option linter.unusedSimpArgs false

def spanK (ks : List Key) : Nat := (ks.map fun k => 2 ^ (32 - k.length)).sum
theorem spanK_snoc (ks : List Key) (k : Key) : spanK (ks ++ [k]) = spanK ks + 2 ^ (32 - k.length) := by simp [spanK]
theorem spanK_le : ∀ (ks : List Key), spanK ks ≤ ks.length * 4294967296
  | [] => by simp [spanK]
  | k :: ks => by
    have := spanK_le ks
    have h2 : 2 ^ (32 - k.length) ≤ 2 ^ 32 := Nat.pow_le_pow_right (by omega) (by omega)
    have h3 : spanK (k :: ks) = 2 ^ (32 - k.length) + spanK ks := by simp [spanK]
    simp only [List.length_cons]
    omega
theorem topsK_len (ks : List Key) : (topsK ks).length ≤ ks.length := by
  have := topsF_len ks []
  simpa [topsK] using this

theorem Merge_any {G : Foot} (A : Option Addr) (n c : Nat) (l : List Pf) (w : World) (hn : n ≤ 100000000) (hA : A = none → c = 0) (hl : l.length = n) (hw : ∀ x ∈ l, x.1 < 4294967296) (h : Rg w G 2 A n (fv l)) :
    Calls Tryd.prog 17 #[.slice A n c] w fun e w' => ∃ ks : List Key, IsSort gdP l (ks.map kp) ∧ (∀ k ∈ ks, k.length ≤ 32) ∧ RetK (mergeK (topsK ks)) w e w' := by
  have HT := Lib.hid (merge_any A n c l w hn hA hl hw h)
  clear h hA hl hw hn
  go_enter Tryd.func17, Tryd.ntmps17
  go_wp2_with fail
  refine HT.out.mono ?_; rintro e w2 ⟨ks, hs, h32, A2, c2, rfl, h2⟩
  have H := Lib.hid (And.intro hs (And.intro h32 h2))
  clear hs h32 h2
  go_wp2_with fail
  go_ret
  exact ⟨ks, H.out.1, H.out.2.1, A2, c2, rfl, H.out.2.2⟩

theorem wrap_add (S y : Nat) (hS : S ≤ 429496729600000000) (hy : 2 ^ y ≤ 4294967296) : wrap64 ((S : Int) + wrap64 (2 ^ y)) = ((S + 2 ^ y : Nat) : Int) := by
  have e : ((2 : Int) ^ y) = ((2 ^ y : Nat) : Int) := by simp
  rw [e]
  generalize 2 ^ y = p at *
  unfold wrap64
  omega

set_option maxRecDepth 100000 in
theorem Span_any {G : Foot} (A : Option Addr) (n c : Nat) (l : List Pf) (w : World) (hn : n ≤ 100000000) (hA : A = none → c = 0) (hl : l.length = n) (hw : ∀ x ∈ l, x.1 < 4294967296) (h : Rg w G 2 A n (fv l)) :
    Calls Tryd.prog 18 #[.slice A n c] w fun e w' => ∃ ks : List Key, IsSort gdP l (ks.map kp) ∧ (∀ k ∈ ks, k.length ≤ 32) ∧ e = .returned (.int .i64 (spanK (topsK ks) : Int)) ∧ Below w.heap.size w w' := by
  have HT := Lib.hid (tops_any A n c l w hn hA hl hw h)
  have HLn : Hid (l.length ≤ 100000000) := by rw [Hid]; omega
  clear h hA hl hw hn
  go_enter Tryd.func18, Tryd.ntmps18
  go_wp2_with fail
  refine HT.out.mono ?_; rintro e w2 ⟨ks, hs, h32, A2, c2, rfl, ho2, hlo2, hb2⟩
  have hln : ks.length ≤ 100000000 := by
    have h1 := strict_len _ l hs.strict fun x hx => ((hs.mem x).1 hx).1
    have h2 := HLn.out
    rw [List.length_map] at h1
    omega
  have hlt := topsK_len ks
  obtain ⟨ts, hts⟩ : ∃ ts, ts = topsK ks := ⟨_, rfl⟩
  rw [← hts] at ho2 hlt ⊢
  have ht32 : ∀ k ∈ ts, k.length ≤ 32 := fun k hk => h32 k (by rw [hts] at hk; exact topsK_sub _ _ hk)
  have H := Lib.hid (And.intro hs (And.intro h32 (And.intro hts (And.intro hlo2 (And.intro hb2 ht32)))))
  have HO := Lib.hid ho2
  have hln2 : ts.length ≤ 100000000 := by omega
  clear hs h32 hts hlo2 hb2 ht32 ho2 hlt hln HLn HT
  go_wp2_with fail
  go_loopw [3, 5, 9] (fun v3 _ v9 wr => ∃ (i : Nat), i ≤ ts.length ∧ v9 = .int .i64 i ∧ v3 = .int .i64 (spanK (ts.take i) : Int) ∧ Below w2.heap.size w2 wr) (fun _ _ v9 _ => ts.length - (intOf v9).toNat)
  case atStart => exact ⟨0, Nat.zero_le _, rfl, rfl, Below.refl _ _⟩
  case round =>
    obtain ⟨i, hi, rfl, rfl, hbl⟩ := hrel
    have HBl := Lib.hid hbl
    clear hbl
    by_cases hlt : i < ts.length
    · obtain ⟨x, hx⟩ : ∃ x, ts[i]? = some x := ⟨ts[i], List.getElem?_eq_getElem hlt⟩
      obtain ⟨b, off, rfl⟩ : ∃ b off, A2 = some ⟨b, off, none⟩ := by
        obtain ⟨b, off, e, _⟩ := HO.out.rg.2 (by omega)
        exact ⟨b, off, e⟩
      have hcell := own_cells (HO.out.bel HBl.out) i (kp x) (by simp [hx])
      have k0 := hcell.1
      have k1 := hcell.2
      have hx32 := H.out.2.2.2.2.2 x (List.mem_of_getElem? hx)
      simp only [kp] at k0 k1
      have hsn : spanK (ts.take (i + 1)) = spanK (ts.take i) + 2 ^ (32 - x.length) := by
        rw [List.take_add_one, hx]
        exact spanK_snoc _ _
      have hle := spanK_le (ts.take i)
      rw [List.length_take] at hle
      have hsl : spanK (ts.take i) ≤ 429496729600000000 := Nat.le_trans hle (by
        have : min i ts.length ≤ 100000000 := by omega
        omega)
      have hp2 : 2 ^ (32 - x.length) ≤ 4294967296 := Nat.le_trans (Nat.pow_le_pow_right (by omega) (show 32 - x.length ≤ 32 by omega)) (by decide)
      have HSn := Lib.hid (And.intro hsn (And.intro hx32 (And.intro hsl hp2)))
      have hsub : (32 : Int) - (x.length : Int) = ((32 - x.length : Nat) : Int) := by omega
      clear hcell hx hle hsn hp2 hsl
      obtain ⟨S, hS⟩ : ∃ S : Nat, S = spanK (ts.take i) := ⟨_, rfl⟩
      rw [← hS] at HSn ⊢
      have HSS := Lib.hid hS
      obtain ⟨y, hy⟩ : ∃ y : Nat, y = 32 - x.length := ⟨_, rfl⟩
      rw [← hy] at hsub HSn
      have HY := Lib.hid hy
      clear hS hy
      go_wp2_with fail
      go_roundw
      case rel =>
        refine ⟨i + 1, by omega, by go_num, ?_, (HBl.out.alloc HBl.out.size _)⟩
        obtain ⟨h1, _, h3, h4⟩ := HSn.out
        rw [wrap_add _ _ h3 h4, h1]
      case measure => simp [intOf]; omega
    · obtain rfl : i = ts.length := by omega
      go_wp2_with fail
      go_ret
      obtain ⟨hs, h32, hts, hlo, hb2, _⟩ := H.out
      refine ⟨ks, hs, h32, ?_, hb2.trans (HBl.out.mono hb2.size)⟩
      rw [← hts]
      simp [Act.put]
end Go.Proofs.YtpabblkppbfbjaaDoor.wlk
