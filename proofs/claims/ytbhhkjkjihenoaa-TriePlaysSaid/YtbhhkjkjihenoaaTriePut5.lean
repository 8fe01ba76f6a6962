/- What a tree's Put, Get return and leave, of a good prefix and of one that is not. Condition: fewer than a million keys. -/
import Derived.Test.YtbhhkjkjihenoaaTriePut3
import Derived.Test.YtbhhkjkjihenoaaTriePut4
namespace Go.Proofs.Ytbhhkjkjihenoaa.tri
open Go.RowKit Go.Proofs.Ytbhhkjkjihenoaa.kit Go.Proofs.Ytbhhkjkjihenoaa.mem Go.Proofs.Ytbhhkjkjihenoaa.foot Go.Proofs.Ytbhhkjkjihenoaa.pfx
set_option linter.unusedVariables false
set_option linter.unusedSimpArgs false

theorem put_any (p : Key) (v : Int) (hp : p.length ≤ 32) : ∀ (t : T) (F : Foot) (A : Option Addr) (w : World), Tr w F t A → (∀ x, F x → x < w.heap.size) → t.cnt < 999990 →
    Calls Try.prog 73 #[.pointer A, .agg #[.int .u32 (adr p), .int .i64 p.length], .int .i64 v] w (PutP t p v w F)
  | .nil, F, A, w, h, hF, hc => by
    have hA : A = none := h
    subst hA
    exact put_nil p v hp F w
  | .node k u b l r, F, A, w, h, hF, hc => by
    by_cases e : k = p
    · exact put_same p v hp F A w h hF hc e
    · by_cases h1 : k <+: p
      · rcases hs : side k p with _ | _
        · exact put_low p v hp F A w h hF hc h1 e hs (put_any p v hp l)
        · exact put_high p v hp F A w h hF hc h1 e hs (put_any p v hp r)
      · by_cases h2 : p <+: k
        · rcases hs : side p k with _ | _
          · exact put_over_low p v hp F A w h hF hc h1 h2 e hs
          · exact put_over_high p v hp F A w h hF hc h1 h2 e hs
        · rcases hs : side (lcp k p) p with _ | _
          · exact put_both_low p v hp F A w h hF hc h1 h2 e hs
          · exact put_both_high p v hp F A w h hF hc h1 h2 e hs

theorem find_key {p : Key} : ∀ {t : T} {k : Key} {u : Int} {b : Bool} {l r : T}, t.find p = .node k u b l r → k = p
  | .nil, _, _, _, _, _, h => by simp [T.find] at h
  | .node k' u' b' l' r', _, _, _, _, _, h => by
    unfold T.find at h
    split at h
    · split at h
      · cases h; assumption
      · split at h
        · exact find_key h
        · exact find_key h
    · cases h
/-- what a key has, and whether it has something -/
def wasV (t : T) (p : Key) : Int := match (t.find p).got with | some u => u | none => 0
def hadB (t : T) (p : Key) : Bool := (t.find p).got.isSome
/-- a tree stands behind a call -/
def Stood (w : World) (F : Foot) (tr : Nat) (t : T) (w' : World) : Prop := ∃ F', Tri w' F' tr t ∧ Chg F w w' ∧ Fresh w F F'
theorem Stood.same {w w' : World} {F : Foot} {tr : Nat} {t : T} (h : Tri w F tr t) (hb : Below w.heap.size w w') : Stood w F tr t w' := ⟨F, h.bel hb, Chg.of_below hb F, Fresh.refl _ _⟩
/-- the root written anew -/
theorem Stood.root {w w1 w2 : World} {F G : Foot} {tr : Nat} {t t' : T} {A A2 : Option Addr} (h : Tri w F tr t) (hk : Bk w tr 130 #[.pointer A]) (hG : ¬ G tr) (hGF : ∀ x, G x → F x) (hb : Below w.heap.size w w1) (hL : Left w1 G t' A2 w2) :
    Bk w2 tr 130 #[.pointer A] ∧ Stood w F tr t' (w2.setCell ⟨tr, 0, none⟩ (.pointer A2)) := by
  obtain ⟨F2, h1, h2, h3, h4⟩ := hL
  have hk2 : Bk w2 tr 130 #[.pointer A] := (hk.below hb hk.lt).chg h2 hG
  have hsz := hb.size
  have hne : ¬ F2 tr := fun e => by
    rcases h3 tr e with e | e
    · exact hG e
    · have := hk.lt; omega
  have hc3 : Chg (fun x => x = tr) w2 (w2.setCell ⟨tr, 0, none⟩ (.pointer A2)) := (Chg.refl (fun x => x = tr) w2).put (p := ⟨tr, 0, none⟩) (.inl rfl) _
  refine ⟨hk2, fun x => x = tr ∨ F2 x, ⟨⟨A2, F2, hk2.put 0 (.pointer A2), h1.chg hc3 (fun x hx e => hne (e ▸ hx)), hne, fun x hx => .inr hx⟩, .inl rfl, fun x hx => ?_⟩, ?_, fun x hx => ?_⟩
  · rcases hx with e | e
    · rw [e]; exact (hk2.put 0 (.pointer A2)).lt
    · have := h4 x e; simpa [World.setCell] using this
  · exact ((Chg.of_below hb F).trans h2 fun x _ hx => hGF x hx).trans hc3 fun x _ e => by rw [e]; exact h.mem
  · rcases hx with e | e
    · exact .inl (by rw [e]; exact h.mem)
    · rcases h3 x e with e | e
      · exact .inl (hGF x e)
      · exact .inr (by omega)
/-- the value of a node that is put written anew -/
theorem Stood.value {w w1 : World} {F : Foot} {tr : Nat} {t : T} {p : Key} {u v : Int} {l r : T} {A : Option Addr} (h : Tri w F tr t) (hf : Found w F tr t p (.node p u true l r) A) (hb : Below w.heap.size w w1) :
    ∃ g kl kr, A = some ⟨g, 0, none⟩ ∧ Bk w1 g 138 (nodeV p u true (T.node p u true l r).cnt kl kr) ∧ Stood w F tr (t.put p v) (w1.setCell ⟨g, 2, none⟩ (.int .i64 v)) := by
  obtain ⟨G, ⟨g, FL, FR, kl, kr, e, c1, c2, c3, c4, c5, c6, c7, c8, c9, c10, c11⟩, hGF, _, hp⟩ := hf
  subst e
  have hk1 := c1.below hb c1.lt
  have hc3 : Chg (fun x => x = g) w (w1.setCell ⟨g, 2, none⟩ (.int .i64 v)) := (Chg.of_below hb (fun x => x = g)).put (p := ⟨g, 2, none⟩) (.inl rfl) _
  have hput : (T.node p u true l r).put p v = T.node p v true l r := by rw [T.put, if_pos rfl]
  have hcnt : (T.node p v true l r).cnt = (T.node p u true l r).cnt := by rw [T.cnt_node, T.cnt_node]
  refine ⟨g, kl, kr, rfl, hk1, F, hp v _ ?_ (by rw [hput]; exact hcnt) (hc3.mono fun x _ e => by rw [e]; exact c5), hc3.mono fun x _ e => by rw [e]; exact hGF g c5, Fresh.refl _ _⟩
  rw [hput]
  refine ⟨g, FL, FR, kl, kr, rfl, ?_, c2, c3.chg hc3 fun x hx e => c6 (e ▸ hx), c4.chg hc3 fun x hx e => c7 (e ▸ hx), c5, c6, c7, c8, c9, fun x hx => Nat.lt_of_lt_of_le (c10 x hx) hc3.size, fun x hx => Nat.lt_of_lt_of_le (c11 x hx) hc3.size⟩
  rw [hcnt]
  exact hk1.put 2 (.int .i64 v)

/-- what Put leaves -/
def PutQ (t : T) (p : Key) (v : Int) (F : Foot) (tr : Nat) (w : World) (e : Ending) (w' : World) : Prop := e = .returned (.tuple #[.int .i64 (wasV t p), .bool (hadB t p)]) ∧ Stood w F tr (t.put p v) w'

set_option maxRecDepth 100000 in
set_option maxHeartbeats 1000000 in
theorem Put_any {F : Foot} {tr : Nat} {t : T} (p : Key) (v : Int) (w : World) (hp : p.length ≤ 32) (h : Tri w F tr t) (hw : t.Wf []) (hc : t.cnt < 999990) :
    Calls Try.prog 19 #[.pointer (some ⟨tr, 0, none⟩), .agg #[.int .u32 (adr p), .int .i64 p.length], .int .i64 v] w (PutQ t p v F tr w) := by
  have HG := Lib.hid (good_any (adr p) p.length (adr_lt hp))
  rw [good_adr hp] at HG
  obtain ⟨⟨A, G, hk, htr, hGt, hGF⟩, hmem, hlt⟩ := id h
  have HB0 : Hid (Below w.heap.size w (w.alloc (.cells #[.int .u32 (adr p : Int), .int .i64 (p.length : Int)] 30))) := (Below.refl _ _).alloc (Nat.le_refl _) _
  have KX := Lib.hid (Bk.new w 30 #[.int .u32 (adr p : Int), .int .i64 (p.length : Int)])
  have H := Lib.hid h
  have HW := Lib.hid hw
  have HC := Lib.hid hc
  have HK := Lib.hid hk
  have HTr := Lib.hid htr
  have HGt := Lib.hid hGt
  have HGF := Lib.hid hGF
  have HLt := Lib.hid hlt
  have htl := hk.lt
  clear h hw hc hk htr hGt hGF hlt
  go_enter Try.func19, Try.ntmps19
  go_wp2_with fail
  refine (HG.out _).mono ?_; rintro e w1 ⟨rfl, hb1⟩
  have HB1 := Lib.hid (HB0.out.trans (hb1.mono HB0.out.size))
  have kx1 := KX.out.below hb1 KX.out.lt
  have p0 := kx1.cell 0
  have p1 := kx1.cell 1
  simp at p0 p1
  have KX1 := Lib.hid kx1
  have HF := Lib.hid (find_any p w1 hp (H.out.bel HB1.out) HW.out)
  clear hb1 kx1 HG
  go_wp2_with fail
  refine HF.out.mono ?_; rintro e w2 ⟨A2, rfl, hb2, hfd⟩
  have HB2 : Hid (Below w.heap.size w w2) := HB1.out.trans (hb2.mono HB1.out.size)
  have kx2 := KX1.out.below hb2 KX1.out.lt
  have p0 := kx2.cell 0
  have p1 := kx2.cell 1
  have pl := kx2.lt
  simp at p0 p1
  have hT := (H.out.bel HB1.out)
  have HT1 := Lib.hid hT
  have HFd := Lib.hid hfd
  have HB21 := Lib.hid hb2
  clear hfd hb2 kx2 hT HF
  rcases hs : t.find p with _ | ⟨k, u, b, l, r⟩
  · have HE : Hid (wasV t p = 0 ∧ hadB t p = false) := by rw [Hid]; unfold wasV hadB; rw [hs]; exact ⟨rfl, rfl⟩
    have hA2 : A2 = none := by obtain ⟨_, h1, _⟩ := HFd.out; rw [hs] at h1; exact h1
    subst hA2
    clear hs HFd
    have q0 := (HK.out.below HB2.out htl).cell 0
    have ql := (HK.out.below HB2.out htl).lt
    simp at q0
    have HP := Lib.hid (put_any p v hp t G A w2.drew ((HTr.out.bel HB2.out).drew) (fun x hx => Nat.lt_of_lt_of_le (HLt.out x (HGF.out x hx)) HB2.out.size) HC.out)
    go_wp2_with fail
    go_region_with (first
      | (go_at_call 73; refine HP.out.mono ?_; rintro e w3 ⟨A3, rfl, hL3⟩; go_must (have HR := Lib.hid (Stood.root H.out HK.out HGt.out HGF.out HB2.out.drew hL3)); go_must (have s0 := HR.out.1.cell 0); go_must (have sf := HR.out.1.free 0); go_must (have sl := HR.out.1.lt); simp at s0; clear hL3))
    all_goals
      go_wp2_with fail
      go_ret2
      exact ⟨by rw [HE.out.1, HE.out.2]; rfl, HR.out.2⟩
  · obtain rfl := find_key hs
    rcases b with _ | _
    · have HE : Hid (wasV t k = 0 ∧ hadB t k = false) := by rw [Hid]; unfold wasV hadB; rw [hs]; exact ⟨rfl, rfl⟩
      obtain ⟨g, rfl, r3⟩ : ∃ g, A2 = some ⟨g, 0, none⟩ ∧ w2.cell? ⟨g, 3, none⟩ = some (.bool false) := by
        obtain ⟨_, h1, _⟩ := HFd.out
        rw [hs] at h1
        obtain ⟨g, _, _, _, _, e, c1, _⟩ := h1
        exact ⟨g, e, by have := (c1.below HB21.out c1.lt).cell 3; simpa using this⟩
      clear hs HFd
      have q0 := (HK.out.below HB2.out htl).cell 0
      have ql := (HK.out.below HB2.out htl).lt
      simp at q0
      have HP := Lib.hid (put_any k v hp t G A w2.drew ((HTr.out.bel HB2.out).drew) (fun x hx => Nat.lt_of_lt_of_le (HLt.out x (HGF.out x hx)) HB2.out.size) HC.out)
      go_wp2_with fail
      go_region_with (first
        | (go_at_call 73; refine HP.out.mono ?_; rintro e w3 ⟨A3, rfl, hL3⟩; go_must (have HR := Lib.hid (Stood.root H.out HK.out HGt.out HGF.out HB2.out.drew hL3)); go_must (have s0 := HR.out.1.cell 0); go_must (have sf := HR.out.1.free 0); go_must (have sl := HR.out.1.lt); simp at s0; clear hL3))
      all_goals
        go_wp2_with fail
        go_ret2
        exact ⟨by rw [HE.out.1, HE.out.2]; rfl, HR.out.2⟩
    · have HE : Hid (wasV t k = u ∧ hadB t k = true) := by rw [Hid]; unfold wasV hadB; rw [hs]; exact ⟨rfl, rfl⟩
      have hfd := HFd.out
      rw [hs] at hfd
      obtain ⟨g, kl, kr, rfl, hg, F3, hF3, hC3, hX3⟩ := Stood.value (v := v) HT1.out hfd HB21.out
      have HR : Hid (Stood w F tr (t.put k v) (w2.setCell ⟨g, 2, none⟩ (.int .i64 v))) := ⟨F3, hF3, (Chg.of_below HB1.out F).trans hC3 (fun _ _ e => e), fun x hx => (hX3 x hx).imp id fun h => Nat.le_trans HB1.out.size h⟩
      have r2 := hg.cell 2
      have r3 := hg.cell 3
      have rf := hg.free 2
      have rl := hg.lt
      simp at r2 r3
      clear hs HFd hfd hg hF3 hC3 hX3
      go_wp2_with fail
      go_ret2
      exact ⟨by rw [HE.out.1, HE.out.2]; rfl, HR.out⟩
end Go.Proofs.Ytbhhkjkjihenoaa.tri
