/- Rows of numbers of 32 bits: in memory, as arguments, copied. Conditions as each lemma states. -/
import Derived.Test.YtafepficapdepaaRows
import Derived.Test.YtafepficapdepaaFoot
import Derived.Test.YtafepficapdepaaOpen
namespace Go.Proofs.Ytafepficapdepaa.nums
open Go.RowKit Go.Joins Go.ChangeShapes Go.WideShapes Go.ChangeAt Go.Proofs.Ytafepficapdepaa.kit Go.Proofs.Ytafepficapdepaa.mem Go.Proofs.Ytafepficapdepaa.foot
set_option linter.unusedVariables false
set_option linter.unusedSimpArgs false

def uv (l : List Nat) : List Value := l.map fun n : Nat => .int .u32 (n : Int)
theorem uv_len (l : List Nat) : (uv l).length = l.length := by simp [uv]
theorem uv_app (l r : List Nat) : uv (l ++ r) = uv l ++ uv r := by simp [uv]
theorem uv_take (l : List Nat) (k : Nat) : uv (l.take k) = (uv l).take k := by simp [uv, List.map_take]
theorem uv_drop (l : List Nat) (k : Nat) : uv (l.drop k) = (uv l).drop k := by simp [uv, List.map_drop]
theorem uv_one (l : List Nat) : ∀ u ∈ uv l, u.oneCell' = true := by
  intro u hu
  simp [uv] at hu
  obtain ⟨n, _, rfl⟩ := hu
  rfl
/-- the slice with this address holds these numbers -/
def Us (w : World) (G : Foot) (A : Option Addr) (l : List Nat) : Prop := Rg w G 1 A l.length (uv l)
theorem Us.at_ {w : World} {G : Foot} {A : Option Addr} {l : List Nat} (h : Us w G A l) {k : Nat} (hk : k < l.length) : ∃ b off, A = some ⟨b, off, none⟩ ∧ G b ∧ b < w.heap.size ∧ w.cell? ⟨b, off + k, none⟩ = some (.int .u32 (l[k] : Int)) := by
  obtain ⟨b, off, e, hb, hl, hc⟩ := h.2 (by omega)
  exact ⟨b, off, e, hb, hl, hc k _ (by simp [uv, hk])⟩

section
variable {H : Type} {enc : TypeId × Value → H} {P : Program} {w : World} {base : Nat} {held : Bool}
theorem open_nums {r : Reach} {b0 : Nat} {t e : TypeId} {v : Value} {d : DataW H} {p : List MemPlace} (ht : P.underlying t = some (.slice e)) (he : P.underlying e = some (.int .u32)) (hC : P.cellsOf e = 1)
    (hv : Value.okWide P w r b0 t v) (h : DataW.Trod enc P w base (fun _ => true) held t v d p) :
    ∃ A c, ∃ l : List Nat, v = .slice A l.length c ∧ (A = none → c = 0) ∧ l.length ≤ c ∧ c ≤ maxLen ∧ Us w (fun _ => True) A l ∧ ∀ n ∈ l, n < 4294967296 := by
  obtain ⟨A, c, zs, rfl, h1, h2, h3, h4, h5⟩ := open_row ht he hC hv h
  have hl : (zs.map fun z => z.toNat).length = zs.length := by simp
  refine ⟨A, c, zs.map fun z => z.toNat, by rw [hl], h1, by rw [hl]; exact h2, h3, ?_, ?_⟩
  · have hb : uv (zs.map fun z => z.toNat) = zs.map fun z => .int .u32 z := by
      unfold uv
      rw [List.map_map]
      refine List.map_congr_left fun z hz => ?_
      have := wf_u32 (h5 z hz)
      simp only [Function.comp]
      congr 1
      omega
    unfold Us
    rw [hb, hl]
    exact Rg.of_rd h4 (Nat.le_refl _) fun _ _ => trivial
  · intro n hn
    simp at hn
    obtain ⟨z, hz, rfl⟩ := hn
    have := wf_u32 (h5 z hz)
    omega
end
theorem info_u32 : (Try.prog.info? 22).map (fun i => (i.zero, i.size, i.bytes)) = some (some (.int .u32 0), 1, 4) := by kernel_rfl
/-- numbers handed back in new memory -/
def RetNums (l : List Nat) (w : World) (e : Ending) (w' : World) : Prop :=
  ∃ A c, e = .returned (.slice A l.length c) ∧ Own w' 22 1 A l.length c (uv l) ∧ (∀ k, sf A k → w.heap.size ≤ k) ∧ Below w.heap.size w w'

/-- l[:n] of a slice, nil or not, n within its length -/
theorem cut_nums (A : Option Addr) (c l n : Nat) (hA : A = none → c = 0) (hc : l ≤ c) (hm : c ≤ maxLen) (hn : n ≤ l) (w : World) :
    (Instr.slice 67 (.slice A l c) none (some (.int .i64 n)) none).run Try.prog w = .ok (.slice A n c) w := by
  unfold maxLen at hm
  rcases A with _ | ad
  · have := hA rfl
    subst this
    obtain rfl : l = 0 := by omega
    obtain rfl : n = 0 := by omega
    have h : ∀ w, (Instr.slice 67 (.slice none 0 0) none (some (.int .i64 0)) none).run Try.prog w = .ok (.slice none 0 0) w := fun w => by kernel_rfl
    exact h w
  · have h1 : (n : Int) ≤ (c : Int) := by omega
    go_simp

set_option maxHeartbeats 1000000 in
theorem Few_any (A : Option Addr) (c : Nat) (l : List Nat) (most : Nat) (G : Foot) (w : World) (hm : most ≤ 1099511627776) (hA : A = none → c = 0) (hc : l.length ≤ c) (hcm : c ≤ maxLen) (hs : Us w G A l) :
    Calls Try.prog 77 #[.slice A l.length c, .int .i64 most] w (RetNums (l.take most) w) := by
  obtain ⟨i0, hi, hz0, hz1, hz2⟩ := info_parts info_u32
  have Hi := Lib.hid hi
  have Hz0 := Lib.hid hz0
  have Hz1 := Lib.hid hz1
  have Hz2 := Lib.hid hz2
  have hcut := cut_nums A c l.length most hA hc hcm
  have HA := Lib.hid hA
  have HO0 : Hid (Own (w.alloc (.cells #[] 22)) 22 1 (some ⟨w.heap.size, 0, none⟩) 0 0 []) := Own.made w 22 1 0 0 #[] [] (Nat.le_refl _) (Nat.zero_le _) rfl rfl rfl
  have hb0 : Below w.heap.size w (w.alloc (.cells #[] 22)) := (Below.refl _ _).alloc (Nat.le_refl _) _
  have HFin : Hid (∀ (x : List Nat) (A' : Option Addr) (c' : Nat) (w' : World), Own w' 22 1 A' (0 + x.length) c' ([] ++ uv x) → Chg (sf (some ⟨w.heap.size, 0, none⟩)) (w.alloc (.cells #[] 22)) w' → Fresh (w.alloc (.cells #[] 22)) (sf (some ⟨w.heap.size, 0, none⟩)) (sf A') → RetNums x w (.returned (.slice A' x.length c')) w') := fun x A' c' w' h1 h2 h3 => by
    rw [Nat.zero_add, List.nil_append] at h1
    refine ⟨A', c', rfl, h1, fun k hk => ?_, hb0.trans (h2.below (fun k hk => by rw [sf_some] at hk; exact Nat.le_of_eq hk) hb0.size)⟩
    rcases h3 k hk with e | e
    · rw [sf_some] at e; exact Nat.le_of_eq e
    · exact Nat.le_trans hb0.size e
  by_cases h : most < l.length
  · have hcut := hcut (by omega)
    have hl : (l.take most).length = most := by simp; omega
    have HR := Lib.hid ((hs.take (k := most) (by omega)).bel hb0)
    have HL := Lib.hid hl
    have HFin := Lib.hid (HFin.out (l.take most))
    rw [Nat.mul_one, ← uv_take] at HR
    rw [hl] at HFin
    clear hs hA hi hz0 hz1 hz2 hl hb0
    generalize l.take most = x at *
    go_enter Try.func77, Try.ntmps77
    go_wp2_with (at_builtin; refine wpList_app _ rfl (.tmp 12) (.tmp 13) _ rfl 22 i0 _ 1 4 Try.underlying67 Hi.out Hz0.out Hz1.out Hz2.out rfl (by omega) _ 0 0 [] rfl HO0.out _ A most c HA.out (uv x) rfl HR.out (uv_one _) (by unfold maxLen; omega) (by omega) ?_; intro A' c' w' ho hc' hf; have HE := Lib.hid (HFin.out _ _ _ ho hc' hf); clear ho hc' hf)
    go_ret
    exact HE.out
  · have hl : l.take most = l := List.take_of_length_le (by omega)
    rw [hl]
    have hl2 : l.length ≤ 1099511627776 := by omega
    have HR := Lib.hid (hs.bel hb0)
    have HFin := Lib.hid (HFin.out l)
    clear hs hA hi hz0 hz1 hz2 hl hb0 hcut
    go_enter Try.func77, Try.ntmps77
    go_wp2_with (at_builtin; refine wpList_app _ rfl (.tmp 12) (.tmp 13) _ rfl 22 i0 _ 1 4 Try.underlying67 Hi.out Hz0.out Hz1.out Hz2.out rfl (by omega) _ 0 0 [] rfl HO0.out _ A l.length c HA.out (uv l) rfl HR.out (uv_one _) (by unfold maxLen; omega) (by omega) ?_; intro A' c' w' ho hc' hf; have HE := Lib.hid (HFin.out _ _ _ ho hc' hf); clear ho hc' hf)
    go_ret
    exact HE.out
end Go.Proofs.Ytafepficapdepaa.nums
