/- A writer beside a byte row of the call's own (a slice that is appended to), apart from one another. No condition. -/
import Derived.Test.YtajilbapjpfloaaWriter
import Derived.Test.YtajilbapjpfloaaOpen
namespace Go.Proofs.Ytajilbapjpfloaa.octet
open Go.RowKit Go.Proofs.Ytajilbapjpfloaa.kit Go.Proofs.Ytajilbapjpfloaa.mem
set_option linter.unusedVariables false

/-- block b is a writer that has written l; v is a byte row of the call's own that holds x; both lie from B on, apart -/
structure Two (w : World) (B b : Nat) (l : List UInt8) (v : Value) (x : List UInt8) : Prop where
  wr : Wtr w B b l
  own : w.ownsRow B 5 1 v x.length (bv x)
  sep : ∀ k, v.ownBlock = some k → Sep w b k

section
variable {w w' : World} {B b : Nat} {l l' x news : List UInt8} {v v' : Value}
theorem Two.base (h : Two w B b l v x) : B ≤ w.heap.size := h.wr.base
theorem Two.drew (h : Two w B b l v x) : Two w.drew B b l v x := ⟨h.wr, h.own, h.sep⟩
theorem Two.below (h : Two w B b l v x) (hb : Below w.heap.size w w') : Two w' B b l v x := by
  refine ⟨h.wr.below hb, ?_, fun k hk => ?_⟩
  · refine h.own.kept (row := none) ⟨hb.os, hb.tape, hb.output, hb.size, fun k hk _ => hb.block k hk⟩ ?_
    by_cases e : v.ownBlock = none
    · exact .inl e
    · exact .inr e
  · exact ((only_below hb h.wr.lt).block k (h.own.lt k hk).2 (h.sep k hk)).2
/-- the writer was written to -/
theorem Two.write (h : Two w B b l v x) (hw : Wtr w' B b l') (ho : Only w w' b) : Two w' B b l' v x := by
  refine ⟨hw, ?_, fun k hk => (ho.block k (h.own.lt k hk).2 (h.sep k hk)).2⟩
  rcases h.own.2 with ⟨rfl, h0⟩ | ⟨g, cap, cur, rfl, h1, h2, h3⟩
  · exact ⟨h.own.1, .inl ⟨rfl, h0⟩⟩
  · have hg := h.own.lt g rfl
    exact ⟨h.own.1, .inr ⟨g, cap, cur, rfl, h1, (ho.block g hg.2 (h.sep g rfl)).1.trans h2, h3⟩⟩
/-- the row was appended to -/
theorem Two.append (h : Two w B b l v x) (hown : w'.ownsRow B 5 1 v' (x.length + news.length) (bv x ++ bv news)) (hg : w.grownBy w' v.ownBlock) (hat : v'.ownBlock = v.ownBlock ∨ v'.ownBlock = some w.heap.size) : Two w' B b l v' (x ++ news) := by
  have hlt := h.wr.lt
  have hbv : some b ≠ v.ownBlock := by
    intro e
    exact (h.sep b e.symm).1 rfl
  have hrow : rowOf w' b = rowOf w b := by
    unfold rowOf
    rw [World.cell?_of_block (w := w) (hg.block b hlt hbv)]
  obtain ⟨⟨h1, A, c, hk, ho⟩, hx, hs⟩ := h
  refine ⟨⟨h1, A, c, hk.grown hg hbv, ho.kept hg ?_⟩, by rw [bv_app, List.length_append]; exact hown, fun k hk2 => ?_⟩
  · by_cases e : (Value.slice A l.length c).ownBlock = none
    · exact .inl e
    · refine .inr (fun e2 => ?_)
      obtain ⟨k, hk3⟩ := Option.ne_none_iff_exists'.1 e
      have := hs k (e2.symm.trans hk3)
      exact this.2 (by rw [Bk.row (cs := []) hk]; exact hk3.symm)
  · rcases hat with e | e
    · have := hs k (e ▸ hk2)
      exact ⟨this.1, by rw [hrow]; exact this.2⟩
    · rw [e] at hk2
      injection hk2 with hk2
      subst hk2
      refine ⟨by omega, ?_⟩
      rw [hrow, Bk.row (cs := []) hk]
      intro e3
      have := (ho.lt _ e3.symm).2
      omega
/-- bytes that are not in the row v -/
structure Src (w : World) (v : Value) (C : Option Addr) (l : List UInt8) : Prop where
  bs : Bs w w.heap.size C l
  ap : ∀ ad, C = some ad → v.ownBlock ≠ some ad.block
theorem Src.below {C : Option Addr} (h : Src w v C l') (hb : Below w.heap.size w w') : Src w' v C l' := ⟨(h.bs.below hb (Nat.le_refl _)).more hb.size, h.ap⟩
theorem Two.src (h : Two w B b l v x) {C : Option Addr} (hs : Bs w' w'.heap.size C l') (hn : ∀ ad, C = some ad → w.heap.size ≤ ad.block) : Src w' v C l' :=
  ⟨hs, fun ad e e2 => by have := (h.own.lt _ e2).2; have := hn ad e; omega⟩
theorem Src.append {C : Option Addr} (h : Src w v C l') (hl : 0 < l'.length) (hg : w.grownBy w' v.ownBlock) (hat : v'.ownBlock = v.ownBlock ∨ v'.ownBlock = some w.heap.size) : Src w' v' C l' := by
  obtain ⟨k, off, e, hk, _⟩ := h.bs.2 hl
  subst e
  have hne := h.ap _ rfl
  refine ⟨⟨h.bs.1, fun _ => ?_⟩, fun ad e => ?_⟩
  · obtain ⟨k', off', e, hk', hc⟩ := h.bs.2 hl
    cases e
    exact ⟨k, off, rfl, Nat.lt_of_lt_of_le hk hg.size, fun j u hu => by rw [World.cell?_of_block (w := w) (hg.block k hk (fun e => hne e.symm))]; exact hc j u hu⟩
  · cases e
    rcases hat with e | e
    · rw [e]; exact hne
    · rw [e]; intro e2; injection e2 with e2; simp at e2; omega
theorem Two.keep (h : Two w B b l v x) (ho : Only w w' b) : Below B w w' := h.wr.only ho
theorem Two.app_keep (h : Two w B b l v x) (hg : w.grownBy w' v.ownBlock) : Below B w w' := below_grown hg h.base (fun g e => (h.own.lt g e).1)
end
end Go.Proofs.Ytajilbapjpfloaa.octet
