/- What clock's Keys returns. Condition: at most 10000 keys. -/
import Derived.Test.YtbhhkjkjihenoaaClockTick
import Derived.Test.YtbhhkjkjihenoaaShKeys
namespace Go.Proofs.Ytbhhkjkjihenoaa.clk
open Go.RowKit Go.Proofs.Ytbhhkjkjihenoaa.kit Go.Proofs.Ytbhhkjkjihenoaa.mem Go.Proofs.Ytbhhkjkjihenoaa.foot Go.Proofs.Ytbhhkjkjihenoaa.maps
set_option linter.unusedVariables false
set_option linter.unusedSimpArgs false

theorem keys_perm {w : World} {b n : Nat} {es : KV} (h : Mp iE Try.prog 3 .i64 w b n es) : ∃ D, w.ownsMap Try.prog 3 iE.rd b n D ∧ Go.Maps.size D = es.length ∧ (Go.intKeys D).Perm (es.map (·.1)) := by
  obtain ⟨D, hown, hrep⟩ := h
  refine ⟨D, hown, hrep.size, ?_⟩
  have hown' := hown
  have hmem := hrep.has
  obtain ⟨es1, hD, hpw, _⟩ := hown.entries (Go.Maps.int_keyed Try.underlying3)
  obtain ⟨es2, hD', hko⟩ := hown.keysOf
  obtain rfl : es1 = es2 := by rw [hD] at hD'; simpa using hD'
  rw [hD] at hmem ⊢
  refine (perm_intKeys hpw (fun p hp => ?_) (List.pairwise_map.2 hrep.nd) (fun x => ?_)).symm
  · obtain ⟨v, hv⟩ := hko p hp
    obtain ⟨x, _, hx, _⟩ := Go.Maps.keyOf_i64 Try.underlying3 hv
    exact ⟨x, hx⟩
  · rw [hmem, List.any_eq_true, List.mem_map]
    constructor
    · rintro ⟨p, hp, rfl⟩; exact ⟨p, hp, by simp⟩
    · rintro ⟨p, hp, e⟩; exact ⟨p, hp, by simpa using e⟩

theorem row_slice {w : World} {base : Nat} {e : TypeId} {size n : Nat} {v : Value} {xs : List Value} (h : w.ownsRow base e size v n xs) : ∃ A c, v = .slice A n c := by
  rcases h.2 with ⟨h0, h1⟩ | ⟨g, cap, cur, h0, _⟩
  · exact ⟨none, 0, by rw [h0, h1]⟩
  · exact ⟨_, cap, h0⟩
theorem enters_sort : ∀ args w, (callFunc 123 args).run Try.prog w = .ok (.enter 123 args) w := enters_of Try.func123 (by kernel_rfl) rfl
theorem enters_keys : ∀ args w, (callFunc 126 args).run Try.prog w = .ok (.enter 126 args) w := enters_of Try.func126 (by kernel_rfl) rfl

theorem mapsKeys_any (mb : Option Nat) (w : World) : Calls Try.prog 98 #[.map mb] w fun e w' => e = .returned (.func (.func 126) #[] #[.pointer (some ⟨w.heap.size, 0, none⟩)]) ∧ w' = w.alloc (.cells #[.map mb] 150) :=
  (callsIn_wide (n := 5)).1 (AnyZI.keys_in Try.keysZ Fence.wide 5 trivial rfl mb w)
set_option maxHeartbeats 1000000 in
theorem sortedKeys_any {b n : Nat} {es : KV} (w : World) (hl : es.length ≤ 10000) (h : Mp iE Try.prog 3 .i64 w b n es) :
    Calls Try.prog 97 #[.func (.func 126) #[] #[.pointer (some ⟨w.heap.size, 0, none⟩)]] (w.alloc (.cells #[.map (some b)] 150)) fun e w' => RetI (sorted (es.map (·.1))) w.heap.size e w' ∧ Below w.heap.size w w' := by
  obtain ⟨D, hown, hsz, hperm⟩ := keys_perm h
  have hbl := hown.lt
  have hseq : SeqGives Fence.wide 2 Try.prog 126 #[.pointer (some ⟨w.heap.size, 0, none⟩)] encZ (fun ss => ss.Perm (Go.intKeys D)) (Go.Maps.size D) (w.alloc (.cells #[.map (some b)] 150)) :=
    AnyZI.keys_gives (ρ := Try.keysZ_ren) { Try.keysZ with } Fence.wide _ trivial rfl (by omega) w.heap.size b n D _ (by simp) (by simp) (by
      obtain ⟨es, clock, hb, Ft, hs, hD⟩ := hown
      exact ⟨es, clock, (Below.heap_alloc _ _ b hbl).trans hb, Ft, hs, hD⟩)
  have cS := AnyZI.sorted_in Try.sortedZ Fence.wide 5 trivial trivial trivial trivial rfl (by omega) (Try.sortsZ _) enters_sort 126 #[.pointer (some ⟨w.heap.size, 0, none⟩)] trivial enters_keys _ _ (by rw [hsz]; unfold maxLen; omega) (by rw [hsz]; omega) _ hseq
  refine ((callsIn_wide (n := 5)).1 cS).mono ?_
  rintro e w' ⟨v, ss, rfl, hS, hrow, hnil, hb⟩
  have e1 : (ss.mergeSort fun x y => decide (x ≤ y)) = sorted (es.map (·.1)) := sorted_perm (hS.trans hperm)
  rw [e1] at hrow
  have hlen : ss.length = (sorted (es.map (·.1))).length := by rw [← e1]; exact (List.mergeSort_perm _ _).length_eq.symm
  have hrow' : w'.ownsRow w.heap.size 3 1 v ss.length (iv (sorted (es.map (·.1)))) := ownsRow_base_a hrow (by simp)
  rw [hlen] at hrow'
  obtain ⟨A, c, rfl⟩ := row_slice hrow'
  obtain ⟨ho, hlow⟩ := Own.of_row hrow'
  exact ⟨⟨A, c, rfl, ho, hlow⟩, ((Below.refl _ w).alloc (Nat.le_refl _) _).trans (hb.mono (by simp))⟩

set_option maxRecDepth 100000 in
theorem Keys_any {F : Foot} {t : Nat} {now : Int} {es : KV} (w : World) (hl : es.length ≤ 10000) (h : Ck w F t now es) :
    Calls Try.prog 58 #[.pointer (some ⟨t, 0, none⟩)] w fun e w' => ∃ L A c, L = sorted (es.map (·.1)) ∧ e = .returned (.slice A L.length c) ∧ Own w' 3 1 A L.length c (iv L) ∧ (∀ k, sf A k → w.heap.size ≤ k) ∧ Below w.heap.size w w' := by
  obtain ⟨⟨b, hb, hmp, _⟩, _⟩ := h
  have HS := Lib.hid (sortedKeys_any w hl hmp)
  have b1 := hb.cell 1
  simp at b1
  clear hb hmp
  go_enter Try.func58, Try.ntmps58
  go_wp2_with (go_at_call 98; refine (mapsKeys_any _ _).mono ?_; rintro e w' ⟨rfl, rfl⟩)
  refine HS.out.mono ?_; rintro e w1 ⟨⟨A, c, rfl, ho, hlow⟩, hbl⟩
  obtain ⟨L, hL⟩ : ∃ L, L = sorted (es.map (·.1)) := ⟨_, rfl⟩
  rw [← hL] at ho ⊢
  have HE := Lib.hid (show L = sorted (es.map (·.1)) ∧ Own w1 3 1 A L.length c (iv L) ∧ (∀ k, sf A k → w.heap.size ≤ k) ∧ Below w.heap.size w w1 from ⟨hL, ho, hlow, hbl⟩)
  clear ho hlow hbl HS hL
  go_wp2_with fail
  go_ret
  obtain ⟨h1, h2, h3, h4⟩ := HE.out
  exact ⟨L, A, c, h1, rfl, h2, h3, h4⟩
end Go.Proofs.Ytbhhkjkjihenoaa.clk
