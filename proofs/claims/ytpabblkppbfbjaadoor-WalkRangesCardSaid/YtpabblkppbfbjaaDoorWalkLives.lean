/- confluencelaw15.lives is true. No condition. -/
import Derived.Test.YtpabblkppbfbjaaDoorWalkSpan
namespace Go.Proofs.YtpabblkppbfbjaaDoor.wlk
open Go.RowKit Go.Proofs.YtpabblkppbfbjaaDoor.kit Go.Proofs.YtpabblkppbfbjaaDoor.pfx Go.Proofs.YtpabblkppbfbjaaDoor.mem Go.Proofs.YtpabblkppbfbjaaDoor.foot Go.Proofs.YtpabblkppbfbjaaDoor.tri Go.Proofs.YtpabblkppbfbjaaDoor.srt
set_option linter.unusedVariables false
set_option linter.unusedSimpArgs false

theorem kp_inj {a b : Key} (h : kp a = kp b) : a = b := by
  have h1 : adr a = adr b := congrArg Prod.fst h
  have h2 : (a.length : Int) = (b.length : Int) := congrArg Prod.snd h
  exact adr_inj (by omega) h1
theorem kps_inj : ∀ {a b : List Key}, a.map kp = b.map kp → a = b
  | [], [], _ => rfl
  | [], _ :: _, h => by simp at h
  | _ :: _, [], h => by simp at h
  | x :: a, y :: b, h => by
    simp only [List.map_cons, List.cons.injEq] at h
    rw [kp_inj h.1, kps_inj h.2]
theorem gdP_kp {k : Key} (h : k.length ≤ 32) : gdP (kp k) = true := by
  unfold gdP kp
  rw [Bool.and_eq_true]
  exact ⟨decide_eq_true (adr_lt h), good_adr h⟩
/-- of good ones in order, each once, nothing changes -/
theorem sort_same {ks rs : List Key} (hs : IsSort gdP (ks.map kp) (rs.map kp)) (h : (ks.map kp).Pairwise plt) (h32 : ∀ k ∈ ks, k.length ≤ 32) : rs = ks := by
  refine kps_inj (strict_eq hs.strict h fun x => (hs.mem x).trans ⟨fun h => h.1, fun hx => ⟨hx, ?_⟩⟩)
  obtain ⟨k, hk, rfl⟩ := List.mem_map.1 hx
  exact gdP_kp (h32 k hk)

def kA : Key := [false, false, false, false, true, false, true, false, false]
def kB : Key := [false, false, false, false, true, false, true, false, true]
def kC : Key := [false, false, false, false, true, false, true, false]

set_option maxRecDepth 100000 in
theorem lives_any (w : World) : Calls Tryd.prog 10 #[] w fun e w' => e = .returned (.bool true) ∧ Below w.heap.size w w' := by
  obtain ⟨C, hC⟩ : ∃ C : Array Value, C = #[.int .u32 167772160, .int .i64 9, .int .u32 176160768, .int .i64 9] := ⟨_, rfl⟩
  have hrd : Rg (w.alloc (.cells C 24)) (fun k => k = w.heap.size) 2 (some ⟨w.heap.size, 0, none⟩) 2 (fv [(167772160, 9), (176160768, 9)]) := by
    have h := Rg.new w 24 2 2 C (by rw [hC]; rfl)
    have e : C.toList = fv [(167772160, 9), (176160768, 9)] := by rw [hC]; rfl
    rw [e] at h
    exact h
  have HM := Lib.hid (Merge_any (some ⟨w.heap.size, 0, none⟩) 2 2 [(167772160, 9), (176160768, 9)] (w.alloc (.cells C 24)) (by omega) (by intro h; cases h) rfl (by simp) hrd)
  have HB : Hid (Below w.heap.size w (w.alloc (.cells C 24))) := (Below.refl _ _).alloc (Nat.le_refl _) _
  rw [hC] at HM HB
  clear hrd hC
  go_enter Tryd.func10, Tryd.ntmps10
  go_wp2_with fail
  refine HM.out.mono ?_; rintro e w2 ⟨ks, hs, h32, A2, c2, rfl, ho, hlo, hb2⟩
  have hks : ks = [kA, kB] := by
    have e : ([(167772160, 9), (176160768, 9)] : List Pf) = [kA, kB].map kp := by decide
    rw [e] at hs
    exact sort_same hs (by rw [← e]; simp [plt]) (by simp [kA, kB])
  have hm : mergeK (topsK ks) = [kC] := by rw [hks]; decide
  have h2 : fv ([kC].map kp) = [.int .u32 167772160, .int .i64 8] := by rfl
  rw [hm, show ([kC] : List Key).length = 1 from rfl] at ho
  rw [hm, show ([kC] : List Key).length = 1 from rfl]
  obtain ⟨b, off, rfl⟩ : ∃ b off, A2 = some ⟨b, off, none⟩ := by
    obtain ⟨b, off, e, _⟩ := ho.rg.2 (by simp)
    exact ⟨b, off, e⟩
  have hcell := own_cells ho 0 (kp kC) (by simp)
  have k1 := hcell.2
  have e8 : (kp kC).2 = 8 := by rfl
  rw [e8] at k1
  simp only [Nat.zero_mul, Nat.add_zero] at k1
  have HS := Lib.hid (Span_any (some ⟨b, off, none⟩) 1 c2 ([kC].map kp) w2 (by omega) (by intro h; cases h) rfl (by decide) ho.rg)
  have HB2 := Lib.hid (HB.out.trans (hb2.mono HB.out.size))
  clear hm hks h2 hcell e8 ho hlo hb2 hs h32 HB HM
  go_wp2_with fail
  refine HS.out.mono ?_; rintro e w3 ⟨ks, hs, h32, rfl, hb3⟩
  have hks : ks = [kC] := sort_same hs (by simp) (by simp [kC])
  have hm : (spanK (topsK ks) : Int) = 16777216 := by rw [hks]; decide
  rw [hm]
  have HB3 := Lib.hid (HB2.out.trans (hb3.mono HB2.out.size))
  clear hm hks hb3 hs h32 HS
  go_wp2_with fail
  go_ret
  exact ⟨rfl, HB3.out⟩
end Go.Proofs.YtpabblkppbfbjaaDoor.wlk
