/- What path.norm returns. Condition: at most 10^6 pieces and numbers together. -/
import Derived.Test.YtafepficapdepaaPieces
import Derived.Test.YtafepficapdepaaNormMath
import Derived.Deep.RegionHeld3
namespace Go.Proofs.Ytafepficapdepaa.pth
open Go.RowKit Go.Proofs.Ytafepficapdepaa.kit Go.Proofs.Ytafepficapdepaa.mem Go.Proofs.Ytafepficapdepaa.foot Go.Proofs.Ytafepficapdepaa.nums Go.Proofs.Ytafepficapdepaa.asn
set_option linter.unusedVariables false
set_option linter.unusedSimpArgs false
/-- what stands so far: pieces, and a run of numbers apart from them -/
structure NJ (w wr : World) (out : List Sg) (run : List Nat) (Ao : Option Addr) (co : Nat) (vs : List Value) (Ar : Option Addr) (cr : Nat) : Prop where
  lst : Lst 2 rSeg 122 (fun k => w.heap.size ≤ k ∧ ¬ sf Ar k) w wr Ao out.length co vs out
  apart : ∀ k, sf Ao k → ¬ sf Ar k
  rn : foot.Own wr 22 1 Ar run.length cr (uv run)
  low : ∀ k, sf Ar k → w.heap.size ≤ k
  w32 : W32 run
section
variable {w wr w2 w3 : World} {out : List Sg} {run add : List Nat} {Ao A' : Option Addr} {co c' cr : Nat} {vs : List Value} {Ar Ar' : Option Addr}
theorem NJ.go (h : NJ w wr out run Ao co vs Ar cr) (hb : Below wr.heap.size wr w2) : NJ w w2 out run Ao co vs Ar cr :=
  ⟨h.lst.go keeps_seg hb, h.apart, foot.Own.bel h.rn hb, h.low, h.w32⟩
theorem NJ.more (h : NJ w wr out run Ao co vs Ar cr) (ho : foot.Own w2 22 1 Ar' (run.length + add.length) c' (uv run ++ uv add)) (hc : Chg (sf Ar) wr w2) (hf : Fresh wr (sf Ar) (sf Ar')) (hw : W32 add) : NJ w w2 out (run ++ add) Ao co vs Ar' c' := by
  have hlt := foot.Own.lt h.lst.acc.own
  refine ⟨⟨⟨foot.Own.chg h.lst.acc.own hc fun k _ hk => h.apart k hk, h.lst.acc.bel.trans (hc.below h.low h.lst.acc.bel.size), h.lst.acc.low⟩, ?_, h.lst.len⟩, fun k hk he => ?_, by rw [List.length_append, show uv (run ++ add) = uv run ++ uv add from by simp [uv]]; exact ho, fun k hk => ?_, h.w32.app hw⟩
  · have h1 : rAll rSeg wr (fun k => ((w.heap.size ≤ k ∧ ¬ sf Ar k) ∧ ¬ sf Ao k) ∧ ¬ sf Ar' k) vs out := h.lst.all.mono keeps_seg fun k hk hG => ⟨hG, fun hs => by
      rcases hf k hs with e | e
      · exact hG.1.2 e
      · omega⟩
    exact (h1.chg keeps_seg hc fun k _ hG hs => hG.1.1.2 hs).mono keeps_seg fun k _ hG => ⟨⟨hG.1.1.1, hG.2⟩, hG.1.2⟩
  · rcases hf k he with e | e
    · exact h.apart k hk e
    · have := hlt k hk; omega
  · rcases hf k hk with e | e
    · exact h.low k e
    · exact Nat.le_trans h.lst.acc.bel.size e
/-- the pieces alone, apart from their row -/
theorem NJ.outs (h : NJ w wr out run Ao co vs Ar cr) : Lst 2 rSeg 122 (fun k => w.heap.size ≤ k) w wr Ao out.length co vs out := h.lst.wide keeps_seg fun k _ hk => hk.1
end
section
variable {w wr w2 w3 : World} {out ps : List Sg} {Ao A' A1 : Option Addr} {co c' c1 : Nat} {vs vs1 : List Value}
/-- a list handed back, behind those that stand -/
theorem outs_app (h : Lst 2 rSeg 122 (fun k => w.heap.size ≤ k) w wr Ao out.length co vs out) (hr : Lst 2 rSeg 122 (fun k => wr.heap.size ≤ k) wr w2 A1 ps.length c1 vs1 ps)
    (ho : foot.Own w3 122 2 A' (out.length + ps.length) c' (vs ++ vs1)) (hc : Chg (sf Ao) w2 w3) (hf : Fresh w2 (sf Ao) (sf A')) : Lst 2 rSeg 122 (fun k => w.heap.size ≤ k) w w3 A' (out ++ ps).length c' (vs ++ vs1) (out ++ ps) := by
  have hlt := foot.Own.lt h.acc.own
  have := (h.go keeps_seg hr.acc.bel).app keeps_seg (hr.all.mono keeps_seg fun k _ hk => ⟨Nat.le_trans h.acc.bel.size hk.1, fun e => by have := hlt k e; have := hk.1; omega⟩) rfl ho hc hf
  rw [List.length_append]
  exact this
end
end Go.Proofs.Ytafepficapdepaa.pth
