/- string(b) of bytes. No condition. -/
import Derived.Test.YtaeeeinpelfppaaGreatRows
import Derived.Test.YtaeeeinpelfppaaGreatGround
import Derived.Laws.BytesString
import Derived.Laws.Cells
namespace Go.Proofs.YtaeeeinpelfppaaGreat.mem
open Go.RowKit

theorem push_all (l : List UInt8) : ∀ s : ByteArray, (l.map fun c => (c.toNat : Int)).foldl (fun r n => r.push (UInt8.ofNat n.toNat)) s = ⟨s.data ++ l.toArray⟩ := by
  induction l with
  | nil => intro s; simp
  | cons c l ih =>
    intro s
    rw [List.map_cons, List.foldl_cons, ih]
    congr 1
    simp [ByteArray.push]

theorem run_str {w : World} {B c : Nat} {A : Option Addr} {l : List UInt8} (hs : Bs w B A l) :
    (convert 22 9 (.slice A l.length c)).run Tryz.prog w = .ok (.string ⟨l.toArray⟩) w := by
  rw [run_convert_bytes_string w 22 9 5 A l.length c Tryz.underlying22 Tryz.underlying5 Tryz.underlying9]
  rcases A with _ | ad
  · have hl : l = [] := by
      rcases Nat.eq_zero_or_pos l.length with h | h
      · exact List.eq_nil_of_length_eq_zero h
      · obtain ⟨b, off, e, _⟩ := hs.2 h; cases e
    subst hl
    rfl
  · have hc : ∀ j v, (bv l)[j]? = some v → w.cell? (ad.add j) = some v := by
      intro j v hv
      rcases Nat.eq_zero_or_pos l.length with h | h
      · have := List.eq_nil_of_length_eq_zero h
        subst this
        simp [bv] at hv
      · obtain ⟨b, off, e, _, hcell⟩ := hs.2 h
        injection e with e
        subst e
        have := hcell j v hv
        unfold Addr.add
        split
        · rename_i hj; subst hj; simpa using this
        · simpa using this
    have hrun := run_loadCells_list (P := Tryz.prog) (w := w) ad (bv l) hc
    rw [bv_len] at hrun
    rw [run_bytesToString w ad l.length c (l.map fun c => (c.toNat : Int)) (by rw [hrun]; simp [bv, Function.comp_def])]
    rw [push_all]
    simp

end Go.Proofs.YtaeeeinpelfppaaGreat.mem
