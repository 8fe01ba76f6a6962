/- What confluenceref08.Path and numbers return. Condition: at most 10^5 bytes. -/
import Derived.Test.YtgpmkbpahnbhlaaGreatAttrNext
import Derived.Test.YtgpmkbpahnbhlaaGreatOctRef
import Derived.Deep.RegionHeld3
namespace Go.Proofs.YtgpmkbpahnbhlaaGreat.attr
open Go.RowKit Go.Proofs.YtgpmkbpahnbhlaaGreat.kit Go.Proofs.YtgpmkbpahnbhlaaGreat.mem Go.Proofs.YtgpmkbpahnbhlaaGreat.foot Go.Proofs.YtgpmkbpahnbhlaaGreat.nums Go.Proofs.YtgpmkbpahnbhlaaGreat.asn Go.Proofs.YtgpmkbpahnbhlaaGreat.pth Go.Proofs.YtgpmkbpahnbhlaaGreat.octet
set_option linter.unusedVariables false
set_option linter.unusedSimpArgs false
/-- within a piece: so many numbers are read -/
structure PR (w : World) (sb : Nat) (kd : Int) (xs : List Nat) (Aa : Option Addr) (ca : Nat) (Ao : Option Addr) (co : Nat) (vs : List Value) (out : List Sg) (wr : World) : Prop where
  bx : Bk wr sb 55 #[.int .i64 kd, .slice Aa xs.length ca]
  as_ : Acc w 23 1 wr Aa xs.length ca (uv xs)
  lo : ∀ k, sf Aa k → sb < k
  ls : Lst 2 rSeg 55 (fun k => w.heap.size ≤ k ∧ k < sb) w wr Ao out.length co vs out
  hi : ∀ k, sf Ao k → k < sb
  ws : w.heap.size ≤ sb
section
variable {w wr w3 w4 : World} {sb x c' ca co : Nat} {kd : Int} {xs : List Nat} {Aa Ao A' : Option Addr} {vs : List Value} {out : List Sg}
theorem PR.start (h : Lst 2 rSeg 55 (fun k => w.heap.size ≤ k) w wr Ao out.length co vs out) (kd : Int) : PR w wr.heap.size kd [] none 0 Ao co vs out (wr.alloc (.cells #[.int .i64 kd, .slice none 0 0] 55)) := by
  have hb : Below wr.heap.size wr (wr.alloc (.cells #[.int .i64 kd, .slice none 0 0] 55)) := (Below.refl _ _).alloc (Nat.le_refl _) _
  exact ⟨Bk.new wr _ _, ⟨foot.Own.none_ _ _ _, h.acc.bel.trans (hb.mono h.acc.bel.size), fun k e => absurd e (sf_none k)⟩, fun k e => absurd e (sf_none k), (h.wide keeps_seg fun k hk hB => ⟨hB, hk⟩).go keeps_seg hb, fun k hk => h.acc.own.lt k hk, h.acc.bel.size⟩
theorem PR.go (h : PR w sb kd xs Aa ca Ao co vs out wr) (hb : Below wr.heap.size wr w3) : PR w sb kd xs Aa ca Ao co vs out w3 :=
  ⟨h.bx.below hb h.bx.lt, h.as_.go hb, h.lo, h.ls.go keeps_seg hb, h.hi, h.ws⟩
theorem PR.put (h : PR w sb kd xs Aa ca Ao co vs out wr) (ho : foot.Own w4 23 1 A' (xs.length + 1) c' (uv xs ++ [.int .u32 (x : Int)])) (hc : Chg (sf Aa) (wr.alloc (.cells #[.int .u32 (x : Int)] 23)) w4) (hf : Fresh (wr.alloc (.cells #[.int .u32 (x : Int)] 23)) (sf Aa) (sf A')) :
    Bk w4 sb 55 #[.int .i64 kd, .slice Aa xs.length ca] ∧ PR w sb kd (xs ++ [x]) A' c' Ao co vs out (w4.setCell ⟨sb, 1, none⟩ (.slice A' (xs.length + 1) c')) := by
  have hb : Below wr.heap.size wr (wr.alloc (.cells #[.int .u32 (x : Int)] 23)) := (Below.refl _ _).alloc (Nat.le_refl _) _
  have hsb := h.bx.lt
  have hws := h.ws
  have hAsb : ¬ sf Aa sb := fun e => by have := h.lo _ e; omega
  have hbx4 : Bk w4 sb 55 #[.int .i64 kd, .slice Aa xs.length ca] := (h.bx.below hb hsb).chg hc hAsb
  have hlo' : ∀ k, sf A' k → sb < k := fun k hk => by
    rcases hf k hk with e | e
    · exact h.lo k e
    · have := hb.size; omega
  have hst : Chg (fun k => k = sb) w4 (w4.setCell ⟨sb, 1, none⟩ (.slice A' (xs.length + 1) c')) := (Chg.refl (fun k => k = sb) w4).put (p := ⟨sb, 1, none⟩) (.inl rfl) _
  have hac : Acc w 23 1 w4 A' (xs.length + 1) c' (uv xs ++ [.int .u32 (x : Int)]) := (h.as_.go hb).app ho hc hf
  have hlow : ∀ k, sf Aa k → w.heap.size ≤ k := h.as_.low
  have hls4 : Lst 2 rSeg 55 (fun k => w.heap.size ≤ k ∧ k < sb) w w4 Ao out.length co vs out := Lst.turn keeps_seg (h.ls.go keeps_seg hb) hc hlow (fun k hk e => by have := h.hi k hk; have := h.lo k e; omega) (fun k hk e => by have := hk.2; have := h.lo k e; omega)
  refine ⟨hbx4, ?_, ?_, hlo', ?_, h.hi, hws⟩
  · rw [List.length_append]
    have := hbx4.put 1 (.slice A' (xs.length + 1) c')
    simpa using this
  · rw [List.length_append, uv_app]
    exact Acc.turn hac hst (fun k e => by omega) (fun k hk e => by have := hlo' k hk; omega)
  · exact Lst.turn keeps_seg hls4 hst (fun k e => by omega) (fun k hk e => by have := h.hi k hk; omega) (fun k hk e => by have := hk.2; omega)
end
end Go.Proofs.YtgpmkbpahnbhlaaGreat.attr
