/- Paths in memory: rows of numbers, pieces, lists of pieces; what stays where cells stay. Conditions as each lemma states. -/
import Derived.Test.YtafepficapdepaaLst
import Derived.Test.YtafepficapdepaaAsnSet
import Derived.Test.YtafepficapdepaaStay
import Derived.Test.YtafepficapdepaaPathMath
namespace Go.Proofs.Ytafepficapdepaa.pth
open Go.RowKit Go.Joins Go.ChangeShapes Go.WideShapes Go.ChangeAt Go.Proofs.Ytafepficapdepaa.kit Go.Proofs.Ytafepficapdepaa.mem Go.Proofs.Ytafepficapdepaa.foot Go.Proofs.Ytafepficapdepaa.nums Go.Proofs.Ytafepficapdepaa.asn
set_option linter.unusedVariables false
set_option linter.unusedSimpArgs false
/-- numbers of 32 bits each -/
def W32 (l : List Nat) : Prop := ∀ n ∈ l, n < 4294967296
theorem W32.sub {l r : List Nat} (h : W32 l) (hs : ∀ x ∈ r, x ∈ l) : W32 r := fun x hx => h x (hs x hx)
theorem W32.app {l r : List Nat} (h : W32 l) (k : W32 r) : W32 (l ++ r) := fun x hx => (List.mem_append.1 hx).elim (h x) (k x)
theorem W32.take {l : List Nat} (h : W32 l) (n : Nat) : W32 (l.take n) := h.sub fun _ => List.mem_of_mem_take
theorem W32.drop {l : List Nat} (h : W32 l) (n : Nat) : W32 (l.drop n) := h.sub fun _ => List.mem_of_mem_drop
/-- a slice of numbers -/
def rNs : Rel (List Nat) := fun w G cs l => ∃ A c, cs = [.slice A l.length c] ∧ (A = none → c = 0) ∧ l.length ≤ c ∧ c ≤ maxLen ∧ Us w G A l ∧ W32 l
theorem keeps_ns : Keeps 1 rNs := by
  refine ⟨fun h => ?_, fun h u hu => ?_, fun h hc hd => ?_, fun h hG => ?_⟩
  all_goals obtain ⟨A, c, rfl, h1, h2, h3, h4, h5⟩ := h
  · rfl
  · simp at hu; rw [hu]; rfl
  · exact ⟨A, c, rfl, h1, h2, h3, h4.chg hc hd, h5⟩
  · exact ⟨A, c, rfl, h1, h2, h3, h4.mono hG, h5⟩
/-- a piece: its kind, its numbers -/
def rSeg : Rel Sg := rPair (rInt .i64) rNs
theorem keeps_seg : Keeps 2 rSeg := keeps_pair (keeps_int .i64) keeps_ns
def rPath : Rel (List Sg) := rSl 2 rSeg
theorem keeps_path : Keeps 1 rPath := keeps_sl keeps_seg
theorem Rel_own {w : World} {A : Option Addr} {c : Nat} {l : List Nat} {G : Foot} (h : foot.Own w 22 1 A l.length c (uv l)) (hw : W32 l) (hG : ∀ k, sf A k → G k) : rNs w G [.slice A l.length c] l :=
  ⟨A, c, rfl, h.nil, h.cap, h.max, h.rg.mono fun k _ hk => hG k hk, hw⟩
theorem seg_of {w : World} {G : Foot} {k : Int} {l : List Nat} {A : Option Addr} {c : Nat} (hk : (Lit.int .i64 k).wf = true) (h : rNs w G [.slice A l.length c] l) : rSeg w G [.int .i64 k, .slice A l.length c] (k, l) :=
  ⟨[.int .i64 k], [.slice A l.length c], rfl, ⟨rfl, hk⟩, h⟩
/-- a piece's two cells -/
theorem seg_at {w : World} {G : Foot} {cs : List Value} {s : Sg} (h : rSeg w G cs s) : ∃ A c, cs = [.int .i64 s.1, .slice A s.2.length c] ∧ (Lit.int .i64 s.1).wf = true ∧ (A = none → c = 0) ∧ s.2.length ≤ c ∧ c ≤ maxLen ∧ Us w G A s.2 ∧ W32 s.2 := by
  obtain ⟨c1, c2, rfl, ⟨rfl, hk⟩, A, c, rfl, h1, h2, h3, h4, h5⟩ := h
  exact ⟨A, c, rfl, hk, h1, h2, h3, h4, h5⟩
section
variable {H : Type} {enc : TypeId × Value → H} {w : World} {base : Nat} {held : Bool}
theorem nums_of_ints {w : World} {G : Foot} {l : List Int} {vs : List Value} (h : rAll (rInt .u32) w G vs l) : vs = uv (l.map Int.toNat) ∧ W32 (l.map Int.toNat) := by
  obtain ⟨e, hw⟩ := all_int h
  refine ⟨?_, fun n hn => ?_⟩
  · rw [e]
    unfold uv
    rw [List.map_map]
    refine List.map_congr_left fun z hz => ?_
    have := wf_u32 (hw z hz)
    simp only [Function.comp]
    congr 1
    omega
  · obtain ⟨z, hz, rfl⟩ := List.mem_map.1 hn
    have := wf_u32 (hw z hz)
    omega
theorem opens_ns : Opens enc Try.prog w base held 67 rNs := fun {fuel cs x} h => by
  obtain ⟨l, A, c, h1, h2, h3, h4, vs, h5, h6⟩ := opens_sl (keeps_int .u32) Try.underlying67 (by kernel_rfl) (by omega) (opens_int Try.underlying22) h
  obtain ⟨e1, hw⟩ := nums_of_ints h6
  have hl : (l.map Int.toNat).length = l.length := by simp
  refine ⟨l.map Int.toNat, A, c, by rw [hl]; exact h1, h2, by rw [hl]; exact h3, h4, ?_, hw⟩
  unfold Us
  rw [hl, ← e1]
  exact h5
end
section
variable {w w' : World} {G : Foot}
theorem ns_stay {cs : List Value} {l : List Nat} (h : rNs w G cs l) (hs : Stay w w') : rNs w' G cs l := by
  obtain ⟨A, c, rfl, h1, h2, h3, h4, h5⟩ := h
  exact ⟨A, c, rfl, h1, h2, h3, Rg.stay h4 hs, h5⟩
theorem seg_stay {cs : List Value} {s : Sg} (h : rSeg w G cs s) (hs : Stay w w') : rSeg w' G cs s := by
  obtain ⟨c1, c2, e, h1, h2⟩ := h
  exact ⟨c1, c2, e, h1, ns_stay h2 hs⟩
theorem all_stay : ∀ {l : List Sg} {vs : List Value}, rAll rSeg w G vs l → Stay w w' → rAll rSeg w' G vs l
  | [], _, h, _ => h
  | _ :: l, _, ⟨a, t, e, h1, h2⟩, hs => ⟨a, t, e, seg_stay h1 hs, all_stay h2 hs⟩
end
/-- a list of pieces handed back in new memory -/
abbrev RetP (l : List Sg) := RetL 2 rSeg 122 l
theorem info_seg : (Try.prog.info? 122).map (fun i => (i.zero, i.size, i.bytes)) = some (some (.agg #[.int .i64 0, .slice none 0 0]), 2, 32) := by kernel_rfl
theorem seg_cells : (Value.cells (.agg #[.int .i64 0, .slice none 0 0])).size = 2 := rfl
end Go.Proofs.Ytafepficapdepaa.pth
