/- What confluenceref15.Add returns: parts with one more. Condition: at most 10^5 parts, below 2^32. -/
import Derived.Test.YtpabblkppbfbjaaDoorRefParts
import Derived.Test.YtpabblkppbfbjaaDoorStruct
import Derived.Deep.RegionHeld3
import Derived.Deep.DeepCutAuto
import Derived.Deep.QuietTactic
namespace Go.Proofs.YtpabblkppbfbjaaDoor.wlk
open Go.RowKit Go.Proofs.YtpabblkppbfbjaaDoor.kit Go.Proofs.YtpabblkppbfbjaaDoor.pfx Go.Proofs.YtpabblkppbfbjaaDoor.mem Go.Proofs.YtpabblkppbfbjaaDoor.foot Go.Proofs.YtpabblkppbfbjaaDoor.srt
set_option linter.unusedVariables false
set_option linter.unusedSimpArgs false

theorem info_prt : (Tryd.prog.info? 28).map (fun i => (i.zero, i.size, i.bytes)) = some (some (.agg #[.int .i64 0, .int .i64 0]), 2, 16) := by kernel_rfl
theorem qv_app (l m : List Prt) : qv (l ++ m) = qv l ++ qv m := by simp [qv]
theorem qv_one (l : List Prt) : ∀ u ∈ qv l, u.oneCell' = true := by
  intro u hu
  simp only [qv, List.mem_flatMap] at hu
  obtain ⟨p, _, hu⟩ := hu
  simp at hu
  rcases hu with rfl | rfl <;> rfl
theorem qv_take : ∀ (l : List Prt) (n : Nat), (qv l).take (n * 2) = qv (l.take n)
  | [], n => by simp [qv]
  | p :: l, 0 => by simp [qv]
  | p :: l, n + 1 => by
    have e : qv (p :: l) = .int .i64 (p.1 : Int) :: .int .i64 (p.2 : Int) :: qv l := by simp [qv]
    have e2 : qv (p :: l.take n) = .int .i64 (p.1 : Int) :: .int .i64 (p.2 : Int) :: qv (l.take n) := by simp [qv]
    rw [List.take_succ_cons, e, e2, show (n + 1) * 2 = n * 2 + 1 + 1 by omega, List.take_succ_cons, List.take_succ_cons, qv_take l n]
theorem qv_drop : ∀ (l : List Prt) (n : Nat), (qv l).drop (n * 2) = qv (l.drop n)
  | [], n => by simp [qv]
  | p :: l, 0 => by simp [qv]
  | p :: l, n + 1 => by
    have e : qv (p :: l) = .int .i64 (p.1 : Int) :: .int .i64 (p.2 : Int) :: qv l := by simp [qv]
    rw [e, show (n + 1) * 2 = n * 2 + 1 + 1 by omega, List.drop_succ_cons, List.drop_succ_cons, List.drop_succ_cons, qv_drop l n]
theorem pcut_lo (A : Option Addr) (c l n : Nat) (hA : A = none → c = 0) (hc : l ≤ c) (hm : c ≤ maxLen) (hn : n ≤ l) (w : World) :
    (Instr.slice 33 (.slice A l c) none (some (.int .i64 n)) none).run Tryd.prog w = .ok (.slice A n c) w := by
  unfold maxLen at hm
  rcases A with _ | ad
  · have := hA rfl
    subst this
    obtain rfl : l = 0 := by omega
    obtain rfl : n = 0 := by omega
    have h : ∀ w, (Instr.slice 33 (.slice none 0 0) none (some (.int .i64 0)) none).run Tryd.prog w = .ok (.slice none 0 0) w := fun w => by kernel_rfl
    exact h w
  · have h1 : (n : Int) ≤ (c : Int) := by omega
    go_simp
theorem pcut_hi (A : Option Addr) (c l n : Nat) (hA : A = none → c = 0) (hc : l ≤ c) (hm : c ≤ maxLen) (hn : n ≤ l) :
    ∃ A' c', (A' = none → c' = 0) ∧ l - n ≤ c' ∧ c' ≤ maxLen ∧ (∀ w, (Instr.slice 33 (.slice A l c) (some (.int .i64 n)) none none).run Tryd.prog w = .ok (.slice A' (l - n) c') w) ∧ (∀ w G (x : List Value), Rg w G 2 A l x → Rg w G 2 A' (l - n) (x.drop (n * 2))) := by
  have hm' := hm
  unfold maxLen at hm
  rcases A with _ | ad
  · have := hA rfl
    subst this
    obtain rfl : l = 0 := by omega
    obtain rfl : n = 0 := by omega
    exact ⟨none, 0, fun _ => rfl, Nat.le_refl _, Nat.zero_le _, fun w => by kernel_rfl, fun w G x h => by simpa using h⟩
  · by_cases hz : n = c
    · subst hz
      obtain rfl : l = n := by omega
      refine ⟨some ad, 0, (fun h => by cases h), by omega, Nat.zero_le _, fun w => ?_, fun w G x h => ?_⟩
      · go_simp
      · rw [List.drop_of_length_le (by rw [h.1]; exact Nat.le_refl _), Nat.sub_self]; exact Rg.nil _ _ _ _
    · refine ⟨some (ad.add (n * 2)), c - n, (fun h => by cases h), by omega, by unfold maxLen; omega, fun w => ?_, fun w G x h => h.skip hn⟩
      have h1 : (n : Int) ≤ (l : Int) := by omega
      go_simp
      intro h; exact absurd h.symm hz
theorem own_lo {w : World} {A : Option Addr} {m c n : Nat} {xs : List Value} (h : Own w 28 2 A m c xs) (hn : n ≤ m) (w' : World) :
    (Instr.slice 33 (.slice A m c) none (some (.int .i64 n)) none).run Tryd.prog w' = .ok (.slice A n c) w' := pcut_lo A c m n h.nil h.cap h.max hn w'
theorem own_hi {w : World} {A : Option Addr} {m c n : Nat} {xs : List Value} (h : Own w 28 2 A m c xs) (hn : n ≤ m) :
    ∃ A' c', (A' = none → c' = 0) ∧ m - n ≤ c' ∧ c' ≤ maxLen ∧ (∀ w, (Instr.slice 33 (.slice A m c) (some (.int .i64 n)) none none).run Tryd.prog w = .ok (.slice A' (m - n) c') w) ∧ (∀ w G (x : List Value), Rg w G 2 A m x → Rg w G 2 A' (m - n) (x.drop (n * 2))) := pcut_hi A c m n h.nil h.cap h.max hn
theorem rg_box {w : World} {g : Nat} {t : TypeId} {a b : Value} (h : Bk w g t #[a, b]) : Rg w (fun k => k = g) 2 (some ⟨g, 0, none⟩) 1 [a, b] :=
  ⟨rfl, fun _ => ⟨g, 0, rfl, rfl, h.lt, fun j u hu => by rw [h.cell, Nat.zero_add]; simpa using hu⟩⟩
theorem acc_apq {w w0 w1 w2 : World} {e : TypeId} {size n m c c' : Nat} {A A' : Option Addr} {xs news : List Value} (hc : Chg (sf A) w0 w2) (hf : Fresh w0 (sf A) (sf A')) (ho : Own w2 e size A' m c' news) (h : Acc w e size w1 A n c xs) (h1 : w0.heap = w1.heap) (h2 : w0.os = w1.os) (h3 : w0.tape = w1.tape) (h4 : w0.output = w1.output) : Acc w e size w2 A' m c' news :=
  (h.go (w2 := w0) ⟨h2, h3, h4, by rw [h1]; exact Nat.le_refl _, fun k _ => by rw [h1]⟩).app ho hc hf
theorem bk_apq {w0 w1 w2 : World} {g0 g : Nat} {t : TypeId} {cs : Array Value} (hc : Chg (sf (some ⟨g0, 0, none⟩)) w0 w2) (h : Bk w1 g t cs) (h1 : w0.heap = w1.heap) (hn : g0 ≠ g) : Bk w2 g t cs :=
  Bk.chg (w := w0) (by unfold Bk; rw [h1]; exact h) hc (by rw [sf_some]; exact hn)

/-- within: what is gathered, and the one that is put, in its box -/
structure AJ (w wr : World) (A : Option Addr) (n c : Nat) (xs : List Value) (y : Prt) : Prop where
  acc : Acc w 28 2 wr A n c xs
  box : Bk wr w.heap.size 28 #[.int .i64 (y.1 : Int), .int .i64 (y.2 : Int)]
  ap : ¬ sf A w.heap.size
section
variable {w wr w0 w2 : World} {A A' : Option Addr} {n c m c' : Nat} {xs news : List Value} {y : Prt}
theorem AJ.go (h : AJ w wr A n c xs y) (hb : Below wr.heap.size wr w2) : AJ w w2 A n c xs y := ⟨h.acc.go hb, h.box.below hb h.box.lt, h.ap⟩
theorem AJ.app (h : AJ w w0 A n c xs y) (ho : Own w2 28 2 A' m c' news) (hc : Chg (sf A) w0 w2) (hf : Fresh w0 (sf A) (sf A')) : AJ w w2 A' m c' news y :=
  ⟨h.acc.app ho hc hf, h.box.chg hc h.ap, fun hs => by
    rcases hf _ hs with k | k
    · exact h.ap k
    · have := h.box.lt; omega⟩
theorem AJ.put0 (h : AJ w wr A n c xs y) (a : Nat) : AJ w (wr.setCell ⟨w.heap.size, 0, none⟩ (.int .i64 (a : Int))) A n c xs (a, y.2) :=
  ⟨⟨h.acc.own.chg ((Chg.refl (fun k => k = w.heap.size) wr).put (p := ⟨w.heap.size, 0, none⟩) (.inl rfl) _) (fun k _ hk e => h.ap (by have e : k = w.heap.size := e; rw [← e]; exact hk)), h.acc.bel.setCell (p := ⟨w.heap.size, 0, none⟩) (Nat.le_refl _) _, h.acc.low⟩, by
    have := h.box.put 0 (.int .i64 (a : Int))
    simpa using this, h.ap⟩
theorem AJ.put1 (h : AJ w wr A n c xs y) (b : Nat) : AJ w (wr.setCell ⟨w.heap.size, 1, none⟩ (.int .i64 (b : Int))) A n c xs (y.1, b) :=
  ⟨⟨h.acc.own.chg ((Chg.refl (fun k => k = w.heap.size) wr).put (p := ⟨w.heap.size, 1, none⟩) (.inl rfl) _) (fun k _ hk e => h.ap (by have e : k = w.heap.size := e; rw [← e]; exact hk)), h.acc.bel.setCell (p := ⟨w.heap.size, 1, none⟩) (Nat.le_refl _) _, h.acc.low⟩, by
    have := h.box.put 1 (.int .i64 (b : Int))
    simpa using this, h.ap⟩
end

def RetQ (out : List Prt) (w : World) (e : Ending) (w' : World) : Prop := ∃ A c, e = .returned (.slice A out.length c) ∧ Own w' 28 2 A out.length c (qv out) ∧ (∀ x, sf A x → w.heap.size ≤ x) ∧ Below w.heap.size w w'

end Go.Proofs.YtpabblkppbfbjaaDoor.wlk
