/- Updates that came in: opened to Um; some Updates are cut once. No condition. -/
import Derived.Test.YtaeeeinpelfppaaGreatUpdRefEnc
import Derived.Test.YtaeeeinpelfppaaGreatAttrOpen
import Derived.Test.YtaeeeinpelfppaaGreatTrieArgs
namespace Go.Proofs.YtaeeeinpelfppaaGreat.upd
open Go.RowKit Go.Proofs.YtaeeeinpelfppaaGreat.kit Go.Proofs.YtaeeeinpelfppaaGreat.mem Go.Proofs.YtaeeeinpelfppaaGreat.foot Go.Proofs.YtaeeeinpelfppaaGreat.nums Go.Proofs.YtaeeeinpelfppaaGreat.asn Go.Proofs.YtaeeeinpelfppaaGreat.pth Go.Proofs.YtaeeeinpelfppaaGreat.octet Go.Proofs.YtaeeeinpelfppaaGreat.attr
set_option linter.unusedVariables false
set_option linter.unusedSimpArgs false
theorem all_pv {w : World} {G : Foot} : ∀ {l : List (Int × Int)} {vs : List Value}, rAll RPfx w G vs l → ∃ L : List (Nat × Int), L.length = l.length ∧ (∀ x ∈ L, x.1 < 4294967296) ∧ vs = pv L
  | [], vs, h => ⟨[], rfl, (fun x hx => by cases hx), h⟩
  | p :: l, vs, h => by
    obtain ⟨cs, ds, rfl, hp, hl⟩ := h
    obtain ⟨a, ha, h1, rfl, _⟩ := pfx_eq hp
    obtain ⟨L, h2, h3, rfl⟩ := all_pv hl
    refine ⟨(a, p.2) :: L, by simp [h2], fun x hx => ?_, by simp [pv]⟩
    rcases List.mem_cons.1 hx with hx | hx
    · rw [hx]; exact ha
    · exact h3 x hx
theorem pw_of {w : World} {G : Foot} {A : Option Addr} {c : Nat} {l : List (Int × Int)} (h1 : A = none → c = 0) (h2 : l.length ≤ c) (h3 : c ≤ maxLen) (h : Els 2 RPfx w G A l) : ∃ L : List (Nat × Int), L.length = l.length ∧ (∀ x ∈ L, x.1 < 4294967296) ∧ Pw w G A c L := by
  obtain ⟨vs, h4, h5⟩ := h
  obtain ⟨L, h6, h7, rfl⟩ := all_pv h5
  exact ⟨L, h6, h7, h1, by rw [h6]; exact h2, h3, by rw [h6]; exact h4⟩
/-- an Update whose addresses are addresses -/
def rUpd : Rel Upd := fun w G cs u => ∃ A1 c1 Ap cp Ac cc A2 c2, cs = upc A1 u.gone.length c1 (atc u.a Ap cp Ac cc) A2 u.here.length c2 ∧ Um w G u A1 c1 Ap cp Ac cc A2 c2 ∧ (∀ q ∈ u.gone, q.1 < 4294967296) ∧ (∀ q ∈ u.here, q.1 < 4294967296)
section
variable {H : Type} {enc : TypeId × Value → H} {w : World} {base : Nat} {held : Bool}
set_option maxRecDepth 100000 in
theorem opens_upd : Opens enc Tryz.prog w base held 31 rUpd := fun {fuel cs x} h => by
  have ho : Opens enc Tryz.prog w base held 24 (rSl 2 RPfx) := opens_sl keeps_pfx Tryz.underlying24 (by kernel_rfl) (by omega) opens_pfx
  obtain ⟨⟨g, a, q⟩, hr⟩ := opens_struct (R := rPair (rSl 2 RPfx) (rPair rAt (rSl 2 RPfx))) Tryz.underlying31 (by kernel_rfl)
    (opensF_cons (o' := 1) rfl (by kernel_rfl) ho (opensF_cons (o' := 10) rfl (by kernel_rfl) opens_atr (opensF_last rfl ho))) h
  obtain ⟨_, _, rfl, ⟨A1, c1, rfl, n1, n2, n3, n4⟩, _, _, rfl, ⟨Ap, cp, Ac, cc, rfl, ha⟩, ⟨A2, c2, rfl, m1, m2, m3, m4⟩⟩ := hr
  obtain ⟨L, h1, h2, h3⟩ := pw_of n1 n2 n3 n4
  obtain ⟨M, k1, k2, k3⟩ := pw_of m1 m2 m3 m4
  exact ⟨⟨L, a, M⟩, A1, c1, Ap, cp, Ac, cc, A2, c2, by rw [h1, k1]; simp [upc], ⟨h3, ha, k3⟩, h2, k2⟩
end
theorem ub_few {u : Upd} (h1 : ∀ q ∈ u.gone, q.1 < 4294967296) (h2 : ∀ q ∈ u.here, q.1 < 4294967296) : Ub (fewU u) :=
  ⟨by show (u.gone.take 30).length ≤ _; rw [List.length_take]; omega, by show (u.here.take 30).length ≤ _; rw [List.length_take]; omega, fun q hq => h1 q (List.mem_of_mem_take hq), fun q hq => h2 q (List.mem_of_mem_take hq), by show nsz (fewP u.a.path) ≤ _; have := fewP_sz u.a.path; omega, by show (u.a.comms.take 260).length ≤ _; rw [List.length_take]; omega⟩
theorem gone_few (u : Upd) : (nlri.enc (fewU u).gone).length < 65536 := by
  have h1 := nlri.enc_le (fewU u).gone
  have h2 : (fewU u).gone.length ≤ 30 := by show (u.gone.take 30).length ≤ _; rw [List.length_take]; omega
  omega
/-- what Encode hands back, in one form -/
theorem RetEnc.forms {f : Upd} {w w' : World} {e : Ending} (h : RetEnc f w e w') : ∃ A n c ev, e = .returned (.tuple #[.slice A n c, .int .i64 ev]) ∧ Below w.heap.size w w' ∧ ((GoodU f ∧ (encUp f).length ≤ 4077 ∧ ev = 0 ∧ n = (encUp f).length ∧ Bn w' (fun _ => True) A c (encUp f)) ∨ (GoodU f ∧ 4077 < (encUp f).length ∧ ev = 6 ∧ n = 0) ∨ (¬ GoodU f ∧ ev = 1 ∧ n = 0)) := by
  obtain ⟨h1, h2, h3⟩ := h
  by_cases hg : GoodU f
  · rcases Nat.lt_or_ge 4077 (encUp f).length with hl | hl
    · obtain ⟨rfl, hb⟩ := h2 ⟨hg, hl⟩
      exact ⟨_, _, _, _, rfl, hb, .inr (.inl ⟨hg, hl, rfl, rfl⟩)⟩
    · obtain ⟨A, c, rfl, n1, n2, n3, hs, hb⟩ := h1 ⟨hg, hl⟩
      exact ⟨_, _, _, _, rfl, hb, .inl ⟨hg, hl, rfl, rfl, n1, n2, n3, Rg.of_rd hs (Nat.le_refl _) fun _ _ => trivial⟩⟩
  · obtain ⟨rfl, hb⟩ := h3 hg
    exact ⟨_, _, _, _, rfl, hb, .inr (.inr ⟨hg, rfl, rfl⟩)⟩
end Go.Proofs.YtaeeeinpelfppaaGreat.upd
