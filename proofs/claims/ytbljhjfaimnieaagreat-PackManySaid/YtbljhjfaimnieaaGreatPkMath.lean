/- The bytes of prefixes as lists: written, and read. No program in sight. How many prefixes fit, and how they are parted. Plain Lean. Groups of one key, parts of prefixes, and how many parts there are. Plain Lean. -/
import Derived.Test.YtbljhjfaimnieaaGreatPfxMath
import Derived.Test.YtbljhjfaimnieaaGreatOctLives
namespace Go.Proofs.YtbljhjfaimnieaaGreat.nlri
open Go.Proofs.YtbljhjfaimnieaaGreat.pfx Go.Proofs.YtbljhjfaimnieaaGreat.octet
set_option linter.unusedVariables false

/-- how many bytes so many bits take -/
def bodyN (n : Nat) : Nat := (n + 7) / 8
theorem bodyN_le (n : Nat) (h : n ≤ 32) : bodyN n ≤ 4 := by unfold bodyN; omega
/-- how many bytes a prefix has -/
def sizeP (p : Nat × Int) : Nat := if goodB p.1 p.2 = true then 1 + bodyN p.2.toNat else 0

/-- a good prefix's bytes -/
def encP (p : Nat × Int) : List UInt8 := octet.byteOf p.2 :: (be4 (p.1 : Int)).take (bodyN p.2.toNat)
def enc (l : List (Nat × Int)) : List UInt8 := l.flatMap encP
end Go.Proofs.YtbljhjfaimnieaaGreat.nlri

namespace Go.Proofs.YtbljhjfaimnieaaGreat.nlri
set_option linter.unusedVariables false

/-- how many fit, from the first on -/
def fitI : Int → List (Nat × Int) → Nat
  | _, [] => 0
  | r, p :: l => if r - (sizeP p : Int) < 0 then 0 else fitI (r - (sizeP p : Int)) l + 1
def sumP (l : List (Nat × Int)) : Nat := (l.map sizeP).sum
theorem sumP_cons (p : Nat × Int) (l : List (Nat × Int)) : sumP (p :: l) = sizeP p + sumP l := by simp [sumP]
theorem sumP_snoc (p : Nat × Int) (l : List (Nat × Int)) : sumP (l ++ [p]) = sumP l + sizeP p := by simp [sumP]
theorem fitI_le : ∀ (r : Int) (l : List (Nat × Int)), fitI r l ≤ l.length
  | _, [] => Nat.le_refl _
  | r, p :: l => by
    unfold fitI
    split
    · exact Nat.zero_le _
    · have := fitI_le (r - (sizeP p : Int)) l
      simp only [List.length_cons]; omega
/-- the first k fit -/
theorem fitI_at : ∀ (l : List (Nat × Int)) (r : Int) (k : Nat), k ≤ fitI r l → (k = fitI r l ↔ ∀ p, l[k]? = some p → r - (sumP (l.take k) : Int) - (sizeP p : Int) < 0)
  | [], r, k, h => by
    simp only [fitI] at h ⊢
    obtain rfl : k = 0 := by omega
    simp
  | q :: l, r, k, h => by
    unfold fitI at h ⊢
    split
    · rename_i hc
      rw [if_pos hc] at h
      obtain rfl : k = 0 := by omega
      simp [sumP]
      exact hc
    · rename_i hc
      rw [if_neg hc] at h
      rcases k with _ | k
      · simp [sumP]
        omega
      · have ih := fitI_at l (r - (sizeP q : Int)) k (by omega)
        rw [List.take_succ_cons, sumP_cons]
        simp only [List.getElem?_cons_succ]
        constructor
        · intro e p hp
          have := ih.1 (by omega) p hp
          omega
        · intro hh
          have := ih.2 fun p hp => by have := hh p hp; omega
          omega
/-- those that may be packed -/
def okP (room : Int) (p : Nat × Int) : Bool := !(sizeP p == 0 || decide (room < (sizeP p : Int)))
theorem okP_iff (room : Int) (p : Nat × Int) : okP room p = true ↔ 0 < sizeP p ∧ (sizeP p : Int) ≤ room := by
  unfold okP
  simp only [Bool.not_eq_true', Bool.or_eq_false_iff, beq_eq_false_iff_ne, decide_eq_false_iff_not]
  omega
def packF : Nat → Int → List (Nat × Int) → List (List (Nat × Int))
  | 0, _, _ => []
  | f + 1, room, l => if l = [] then [] else l.take (fitI room l) :: packF f room (l.drop (fitI room l))
def packK (room : Int) (l : List (Nat × Int)) : List (List (Nat × Int)) := packF l.length room l
theorem fitI_pos {room : Int} {l : List (Nat × Int)} (h : l ≠ []) (hok : ∀ p ∈ l, okP room p = true) : 1 ≤ fitI room l := by
  rcases l with _ | ⟨p, l⟩
  · exact absurd rfl h
  · have := (okP_iff room p).1 (hok p (by simp))
    unfold fitI
    rw [if_neg (by omega)]
    omega
theorem packF_more : ∀ (f g : Nat) (room : Int) (l : List (Nat × Int)), (∀ p ∈ l, okP room p = true) → l.length ≤ f → l.length ≤ g → packF f room l = packF g room l
  | 0, g, room, l, hok, hf, hg => by
    have : l = [] := List.length_eq_zero_iff.1 (by omega)
    subst this
    cases g with
    | zero => rfl
    | succ g => simp [packF]
  | f + 1, 0, room, l, hok, hf, hg => by
    have : l = [] := List.length_eq_zero_iff.1 (by omega)
    subst this
    simp [packF]
  | f + 1, g + 1, room, l, hok, hf, hg => by
    unfold packF
    split
    · rfl
    · rename_i h
      have h1 := fitI_pos h hok
      have h2 : (l.drop (fitI room l)).length < l.length := by
        have : 0 < l.length := List.length_pos_iff.2 h
        rw [List.length_drop]; omega
      rw [packF_more f g room (l.drop (fitI room l)) (fun p hp => hok p (List.mem_of_mem_drop hp)) (by omega) (by omega)]
theorem packK_cons {room : Int} {l : List (Nat × Int)} (h : l ≠ []) (hok : ∀ p ∈ l, okP room p = true) : packK room l = l.take (fitI room l) :: packK room (l.drop (fitI room l)) := by
  have h1 := fitI_pos h hok
  have h3 : 0 < l.length := List.length_pos_iff.2 h
  obtain ⟨f, hf⟩ : ∃ f, l.length = f + 1 := ⟨l.length - 1, by omega⟩
  unfold packK
  rw [hf]
  conv => lhs; unfold packF
  rw [if_neg h, packF_more f (l.drop (fitI room l)).length room _ (fun p hp => hok p (List.mem_of_mem_drop hp)) (by rw [List.length_drop]; omega) (Nat.le_refl _)]
theorem packK_nil (room : Int) : packK room [] = [] := rfl
end Go.Proofs.YtbljhjfaimnieaaGreat.nlri

namespace Go.Proofs.YtbljhjfaimnieaaGreat.pck
open Go.Proofs.YtbljhjfaimnieaaGreat.nlri
set_option linter.unusedVariables false
set_option linter.unusedSectionVars false
section
variable {α β : Type} [DecidableEq β] (key : α → β)
def hk (g : List α) : Option β := g.head?.map key
/-- one more: into the group of its key, or a group of its own behind all -/
def insG (x : α) : List (List α) → List (List α)
  | [] => [[x]]
  | g :: gs => if hk key g = some (key x) then (g ++ [x]) :: gs else g :: insG x gs
def groupsL (l : List α) : List (List α) := l.foldl (fun gs x => insG key x gs) []
theorem insG_none {x : α} : ∀ {gs : List (List α)}, (∀ g ∈ gs, hk key g ≠ some (key x)) → insG key x gs = gs ++ [[x]]
  | [], _ => rfl
  | g :: gs, h => by
    unfold insG
    rw [if_neg (h g (by simp)), insG_none fun g hg => h g (List.mem_cons_of_mem _ hg)]
    rfl
theorem insG_ne {x : α} : ∀ {gs : List (List α)}, (∀ g ∈ gs, g ≠ []) → ∀ g ∈ insG key x gs, g ≠ []
  | [], _, g, hg => by simp [insG] at hg; rw [hg]; simp
  | q :: gs, h, g, hg => by
    unfold insG at hg
    split at hg
    · rcases List.mem_cons.1 hg with hg | hg
      · rw [hg]; simp
      · exact h g (List.mem_cons_of_mem _ hg)
    · rcases List.mem_cons.1 hg with hg | hg
      · rw [hg]; exact h q (by simp)
      · exact insG_ne (fun g hg => h g (List.mem_cons_of_mem _ hg)) g hg
theorem groupsL_ne (l : List α) : ∀ g ∈ groupsL key l, g ≠ [] := by
  have h : ∀ (l : List α) (gs : List (List α)), (∀ g ∈ gs, g ≠ []) → ∀ g ∈ l.foldl (fun gs x => insG key x gs) gs, g ≠ [] := by
    intro l
    induction l with
    | nil => exact fun gs h => h
    | cons x l ih => exact fun gs h => ih _ (insG_ne key h)
  exact h l [] (by simp)
theorem insG_mem {x y : α} : ∀ {gs : List (List α)} {g : List α}, g ∈ insG key x gs → y ∈ g → y = x ∨ ∃ q ∈ gs, y ∈ q
  | [], g, hg, hy => by simp [insG] at hg; rw [hg] at hy; simp at hy; exact .inl hy
  | q :: gs, g, hg, hy => by
    unfold insG at hg
    split at hg
    · rcases List.mem_cons.1 hg with hg | hg
      · rw [hg] at hy
        rcases List.mem_append.1 hy with hy | hy
        · exact .inr ⟨q, by simp, hy⟩
        · simp at hy; exact .inl hy
      · exact .inr ⟨g, List.mem_cons_of_mem _ hg, hy⟩
    · rcases List.mem_cons.1 hg with hg | hg
      · rw [hg] at hy; exact .inr ⟨q, by simp, hy⟩
      · rcases insG_mem hg hy with h | ⟨p, hp, h⟩
        · exact .inl h
        · exact .inr ⟨p, List.mem_cons_of_mem _ hp, h⟩
end
/-- how many parts there are, if all are of one size -/
theorem fitI_one {e : Nat} (he : 0 < e) : ∀ (l : List (Nat × Int)) (r : Nat), (∀ p ∈ l, sizeP p = e) → fitI (r : Int) l = min l.length (r / e)
  | [], r, _ => by simp [fitI]
  | p :: l, r, h => by
    have hp := h p (by simp)
    unfold fitI
    rw [hp]
    by_cases hr : r < e
    · rw [if_pos (by omega), Nat.div_eq_of_lt hr]
      simp
    · have h2 := Nat.div_eq_sub_div he (Nat.le_of_not_lt hr)
      rw [if_neg (by omega), show ((r : Int) - (e : Int)) = ((r - e : Nat) : Int) by omega, fitI_one he l (r - e) fun q hq => h q (List.mem_cons_of_mem _ hq), h2, List.length_cons]
      omega
theorem packK_len {e room : Nat} (he : 0 < e) (hr : e ≤ room) : ∀ (n : Nat) (l : List (Nat × Int)), l.length ≤ n → (∀ p ∈ l, sizeP p = e) → (packK (room : Int) l).length = (l.length + room / e - 1) / (room / e)
  | n, [], hn, _ => by
    have h1 : 1 ≤ room / e := (Nat.one_le_div_iff he).2 hr
    rw [packK_nil]
    simp only [List.length_nil, Nat.zero_add]
    rw [Nat.div_eq_of_lt (by omega)]
  | 0, p :: l, hn, _ => by simp at hn
  | n + 1, p :: l, hn, h => by
    have h1 : 1 ≤ room / e := (Nat.one_le_div_iff he).2 hr
    rw [packK_cons (by simp) (fun q hq => (okP_iff _ q).2 (by rw [h q hq]; omega)), fitI_one he _ _ h]
    have h3 : (p :: l).length = l.length + 1 := rfl
    generalize (p :: l) = q at *
    rw [List.length_cons, packK_len he hr n (q.drop (min q.length (room / e))) (by rw [List.length_drop]; omega) fun x hx => h x (List.mem_of_mem_drop hx), List.length_drop]
    generalize room / e = k at *
    rcases Nat.le_total q.length k with hk | hk
    · rw [Nat.min_eq_left hk, Nat.sub_self, Nat.div_eq_of_lt (by omega)]
      have : (q.length + k - 1) / k = 1 := by
        rw [Nat.div_eq_iff (by omega)]
        omega
      omega
    · rw [Nat.min_eq_right hk]
      have : q.length + k - 1 = (q.length - k + k - 1) + k := by omega
      rw [this, Nat.add_div_right _ (by omega)]
end Go.Proofs.YtbljhjfaimnieaaGreat.pck
