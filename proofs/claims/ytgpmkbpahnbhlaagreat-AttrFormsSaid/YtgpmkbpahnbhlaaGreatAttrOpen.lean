/- Attributes that came in: opened to Am; what holds of their numbers; some attributes are cut once. No condition. -/
import Derived.Test.YtgpmkbpahnbhlaaGreatAttrBack
namespace Go.Proofs.YtgpmkbpahnbhlaaGreat.attr
open Go.RowKit Go.Proofs.YtgpmkbpahnbhlaaGreat.kit Go.Proofs.YtgpmkbpahnbhlaaGreat.mem Go.Proofs.YtgpmkbpahnbhlaaGreat.foot Go.Proofs.YtgpmkbpahnbhlaaGreat.nums Go.Proofs.YtgpmkbpahnbhlaaGreat.asn Go.Proofs.YtgpmkbpahnbhlaaGreat.pth Go.Proofs.YtgpmkbpahnbhlaaGreat.octet
set_option linter.unusedVariables false
set_option linter.unusedSimpArgs false
section
variable {H : Type} {enc : TypeId × Value → H} {w : World} {base : Nat} {held : Bool}
set_option maxRecDepth 100000 in
theorem opens_sg : Opens enc Tryz.prog w base held 55 rSeg :=
  opens_struct Tryz.underlying55 (by kernel_rfl) (opensF_cons (o' := 1) rfl (by kernel_rfl) (opens_int Tryz.underlying3) (opensF_last rfl opens_ns))
set_option maxRecDepth 100000 in
theorem opens_pth : Opens enc Tryz.prog w base held 22 (rSl 2 rSeg) :=
  opens_sl keeps_seg Tryz.underlying22 (by kernel_rfl) (by omega) opens_sg
set_option maxRecDepth 100000 in
theorem opens_atr : Opens enc Tryz.prog w base held 26 rAt := fun {fuel cs x} h => by
  obtain ⟨⟨a0, a1, p, a3, a4, a5, a6, a7, cm⟩, hr⟩ := opens_struct (R := rPair (rInt .i64) (rPair (rInt .i64) (rPair (rSl 2 rSeg) (rPair (rInt .u32) (rPair (rInt .u32) (rPair (rInt .u32) (rPair (rInt .u32) (rPair (rInt .u32) rNs)))))))) Tryz.underlying26 (by kernel_rfl)
    (opensF_cons (o' := 1) rfl (by kernel_rfl) (opens_int Tryz.underlying3) (opensF_cons (o' := 2) rfl (by kernel_rfl) (opens_int Tryz.underlying3) (opensF_cons (o' := 3) rfl (by kernel_rfl) opens_pth (opensF_cons (o' := 4) rfl (by kernel_rfl) (opens_int Tryz.underlying23) (opensF_cons (o' := 5) rfl (by kernel_rfl) (opens_int Tryz.underlying23) (opensF_cons (o' := 6) rfl (by kernel_rfl) (opens_int Tryz.underlying23) (opensF_cons (o' := 7) rfl (by kernel_rfl) (opens_int Tryz.underlying23) (opensF_cons (o' := 8) rfl (by kernel_rfl) (opens_int Tryz.underlying23) (opensF_last rfl opens_ns))))))))) h
  obtain ⟨_, _, rfl, ⟨rfl, w0⟩, _, _, rfl, ⟨rfl, w1⟩, _, _, rfl, ⟨Ap, cp, rfl, n1, n2, n3, n4⟩, _, _, rfl, ⟨rfl, w3⟩, _, _, rfl, ⟨rfl, w4⟩, _, _, rfl, ⟨rfl, w5⟩, _, _, rfl, ⟨rfl, w6⟩, _, _, rfl, ⟨rfl, w7⟩, ⟨Ac, cc, rfl, m1, m2, m3, m4, m5⟩⟩ := hr
  exact ⟨⟨a0, a1, p, a3, a4, a5, a6, a7, cm⟩, Ap, cp, Ac, cc, rfl, ⟨⟨w0, w1, w3, w4, w5, w6, w7⟩, ⟨n1, n2, n3, n4⟩, ⟨m1, m2, m3, m4⟩, m5⟩⟩
end
theorem fewA_twice (a : Atr) : fewA (fewA a) = fewA a := by
  have h1 : fewP (fewP a.path) = fewP a.path := by
    simp only [fewP, ← List.map_take, List.take_take, List.map_map]
    simp [Function.comp_def, List.take_take]
  have h2 : (a.comms.take 260).take 260 = a.comms.take 260 := by simp [List.take_take]
  show ({ fewA a with path := fewP (fewP a.path), comms := (a.comms.take 260).take 260 } : Atr) = fewA a
  rw [h1, h2]
  rfl
end Go.Proofs.YtgpmkbpahnbhlaaGreat.attr
