/- What the reference's Wrap of a message returns. Condition: at most 2^16 bytes. -/
import Derived.Test.YthoclemgiopjpaaFrameLives2
namespace Go.Proofs.Ythoclemgiopjpaa.frame
open Go.RowKit Go.Proofs.Ythoclemgiopjpaa.kit Go.Proofs.Ythoclemgiopjpaa.mem Go.Proofs.Ythoclemgiopjpaa.foot Go.Proofs.Ythoclemgiopjpaa.octet
set_option linter.unusedVariables false
set_option linter.unusedSimpArgs false

theorem big_two (n : Nat) : bigv n 2 = [octet.byteOf ((n : Int) / 256), octet.byteOf (n : Int)] := by
  simp [bigv]

/-- a row of the call's own, from here on -/
def Ow (w : World) (A : Option Addr) (c : Nat) (l : List UInt8) (w' : World) : Prop :=
  Own w' 5 1 A l.length c (bv l) ∧ (∀ k, sf A k → w.heap.size ≤ k) ∧ Below w.heap.size w w'
theorem Ow.bel {w w1 w2 : World} {A : Option Addr} {c : Nat} {l : List UInt8} (h : Ow w A c l w1) (hb : Below w1.heap.size w1 w2) : Ow w A c l w2 := ⟨h.1.bel hb, h.2.1, h.2.2.trans (hb.mono h.2.2.size)⟩
theorem Ow.app {w w1 w2 : World} {A A' : Option Addr} {c c' : Nat} {l x : List UInt8} (h : Ow w A c l w1) (ho : Own w2 5 1 A' (l.length + x.length) c' (bv l ++ bv x)) (hc : Chg (sf A) w1 w2) (hf : Fresh w1 (sf A) (sf A')) : Ow w A' c' (l ++ x) w2 := by
  refine ⟨by rw [List.length_append, bv_app]; exact ho, fun k hk => ?_, h.2.2.trans (hc.below h.2.1 h.2.2.size)⟩
  rcases hf k hk with e | e
  · exact h.2.1 k e
  · exact Nat.le_trans h.2.2.size e

set_option maxRecDepth 100000 in
set_option maxHeartbeats 1000000 in
theorem refWrap_any (kind : Int) (A : Option Addr) (c B : Nat) (body : List UInt8) (w : World) (hk : 1 ≤ kind ∧ kind ≤ 4) (hl : body.length ≤ 60000) (hA : A = none → c = 0) (hB : B ≤ w.heap.size) (hs : Bs w B A body) :
    Calls Try.prog 26 #[.int .i64 kind, .slice A body.length c] w fun e w' => ∃ A' c', e = .returned (.slice A' (wrapF kind body).length c') ∧ Ow w A' c' (wrapF kind body) w' := by
  obtain ⟨y, hy⟩ : ∃ y, wrapF kind body = y := ⟨_, rfl⟩
  rw [hy]
  have Hy := Lib.hid hy
  obtain ⟨i0, hi, hz0, hz1, hz2⟩ := info_parts info_u8
  have Hi := Lib.hid hi
  have Hz0 := Lib.hid hz0
  have Hz1 := Lib.hid hz1
  have Hz2 := Lib.hid hz2
  have HO0 : Hid (Ow w (some ⟨w.heap.size, 0, none⟩) 0 (List.replicate 0 255) (w.alloc (.cells #[] 5))) := ⟨by have := Own.made w 5 1 0 0 #[] [] (Nat.le_refl _) (Nat.zero_le _) rfl rfl rfl; simpa [bv] using this, fun k hk => by rw [sf_some] at hk; exact Nat.le_of_eq hk, (Below.refl _ _).alloc (Nat.le_refl _) _⟩
  have Hs := Lib.hid hs
  have HA := Lib.hid hA
  clear hi hz0 hz1 hz2 hs hA hy
  go_enter Try.func26, Try.ntmps26
  go_wp2_with fail
  go_loopw [5, 6] (fun vo i wr => ∃ (k : Nat) (A : Option Addr) (c : Nat), k ≤ 16 ∧ i = .int .i64 k ∧ vo = .slice A k c ∧ Ow w A c (List.replicate k 255) wr) (fun _ i _ => 16 - (intOf i).toNat)
  case atStart => exact ⟨0, _, 0, by omega, rfl, rfl, HO0.out⟩
  case round =>
    obtain ⟨k, A1, c1, hk16, rfl, rfl, hO⟩ := hrel
    have hO1 := hO.bel ((Below.refl _ _).alloc (Nat.le_refl _) (.cells #[.int .u8 255] 5))
    clear HO0
    by_cases hlt : k < 16
    · have e1 : (List.replicate k (255 : UInt8)).length = k := by simp
      have hown := hO1.1
      rw [e1] at hown
      have HO := Lib.hid hown
      have HR := Lib.hid (Rg.new wr 5 1 1 #[.int .u8 255] rfl)
      have HN : Hid (∀ {A' c' w2}, Own w2 5 1 A' (k + 1) c' (bv (List.replicate k 255) ++ [.int .u8 255]) → Chg (sf A1) (wr.alloc (.cells #[.int .u8 255] 5)) w2 → Fresh (wr.alloc (.cells #[.int .u8 255] 5)) (sf A1) (sf A') → Ow w A' c' (List.replicate (k + 1) 255) w2) := fun h1 h2 h3 => by
        have h4 := hO1.app (x := [255]) (by rw [e1]; exact h1) h2 h3
        rw [List.replicate_succ']
        exact h4
      clear hO hO1 e1 hown
      go_wp2_with (at_builtin; refine wpList_app _ rfl (.tmp 12) (.tmp 13) _ rfl 5 i0 _ 1 1 Try.underlying23 Hi.out Hz0.out Hz1.out Hz2.out rfl (by omega) A1 k c1 (bv (List.replicate k 255)) rfl HO.out _ (some ⟨wr.heap.size, 0, none⟩) 1 1 (by intro h; cases h) [.int .u8 255] rfl HR.out (by intro u hu; simp at hu; rw [hu]; rfl) (by unfold maxLen; omega) (by omega) ?_; intro A2 c2 w2 ho2 hc2 hf2; have HN2 := Lib.hid (HN.out ho2 hc2 hf2); clear ho2 hc2 hf2)
      go_roundw
      case rel => exact ⟨k + 1, A2, c2, by omega, by go_num, rfl, HN2.out⟩
      case measure => simp [intOf]; omega
    · obtain rfl : k = 16 := by omega
      have hO2 : Ow w A1 c1 marks wr := hO
      have HO2 := Lib.hid hO2
      have hbg := Big_any (19 + body.length) 2 wr (by omega) (by omega)
      have hbl := bigv_len (19 + body.length) 2
      obtain ⟨bg, hbge⟩ : ∃ bg, bigv (19 + body.length) 2 = bg := ⟨_, rfl⟩
      rw [hbge] at hbg hbl
      rw [show ((19 + body.length : Nat) : Int) = 19 + (body.length : Int) from by omega] at hbg
      unfold RetBytes at hbg
      rw [hbl] at hbg
      have HBg := Lib.hid hbg
      have HBl := Lib.hid hbl
      have HBe := Lib.hid hbge
      have hk1 := hk.1
      have hk4 := hk.2
      have hkb : bv [octet.byteOf kind] = [.int .u8 kind] := by
        have := byteOf_nat kind
        simp only [bv, List.map_cons, List.map_nil]
        congr 2
        omega
      have HKb := Lib.hid hkb
      have hml : marks.length = 16 := rfl
      have HMl := Lib.hid hml
      clear hO hO1 hO2 hbl hbg hbge hkb hml hk
      go_wp2_with fail
      refine HBg.out.mono ?_; rintro e w1 ⟨Ab, cb, rfl, g1, g2, g3, g4, g5, g6⟩
      have hO1 := HO2.out.bel g5
      have hown := hO1.1
      rw [HMl.out] at hown
      have HOw := Lib.hid hown
      have HG1 := Lib.hid g1
      have hrb : Rg w1 (fun _ => True) 1 Ab 2 (bv bg) := by
        have := Rg.of_rd (G := fun _ => True) g4 (Nat.le_refl _) fun _ _ => trivial
        rw [HBl.out] at this
        exact this
      have HRb := Lib.hid hrb
      have HN1 : Hid (∀ {A' c' w2}, Own w2 5 1 A' (16 + 2) c' (bv marks ++ bv bg) → Chg (sf A1) w1 w2 → Fresh w1 (sf A1) (sf A') → Ow w A' c' (marks ++ bg) w2) := fun h1 h2 h3 => hO1.app (x := bg) (by rw [HMl.out, HBl.out]; exact h1) h2 h3
      clear g1 g2 g3 g4 g5 g6 hO1 hown hrb HBg
      have HL2 : Hid ((marks ++ bg).length = 18) := by rw [Hid, List.length_append, HMl.out, HBl.out]
      have HN2 : Hid (∀ {A' c' w2}, Ow w A' c' (marks ++ bg) w2 → Own (w2.alloc (.cells #[.int .u8 kind] 5)) 5 1 A' 18 c' (bv (marks ++ bg)) ∧ Rg (w2.alloc (.cells #[.int .u8 kind] 5)) (fun _ => True) 1 (some ⟨w2.heap.size, 0, none⟩) 1 [.int .u8 kind] ∧
          ∀ {A3 c3 w3}, Own w3 5 1 A3 (18 + 1) c3 (bv (marks ++ bg) ++ [.int .u8 kind]) → Chg (sf A') (w2.alloc (.cells #[.int .u8 kind] 5)) w3 → Fresh (w2.alloc (.cells #[.int .u8 kind] 5)) (sf A') (sf A3) → Ow w A3 c3 ((marks ++ bg) ++ [octet.byteOf kind]) w3) := fun {A' c' w2} h => by
        have h2 := h.bel ((Below.refl _ _).alloc (Nat.le_refl _) (.cells #[.int .u8 kind] 5))
        have h3 := h2.1
        rw [HL2.out] at h3
        exact ⟨h3, (Rg.new w2 5 1 1 #[.int .u8 kind] rfl).mono fun _ _ _ => trivial, fun q1 q2 q3 => h2.app (x := [octet.byteOf kind]) (by rw [HL2.out, HKb.out]; exact q1) q2 q3⟩
      have HL3 : Hid (((marks ++ bg) ++ [octet.byteOf kind]).length = 19) := by rw [Hid, List.length_append, HL2.out]; rfl
      have HN3 : Hid (∀ {A' c' w3}, Ow w A' c' ((marks ++ bg) ++ [octet.byteOf kind]) w3 → Own w3 5 1 A' 19 c' (bv ((marks ++ bg) ++ [octet.byteOf kind])) ∧ Rg w3 (fun _ => True) 1 A body.length (bv body) ∧
          ∀ {A4 c4 w4}, Own w4 5 1 A4 (19 + body.length) c4 (bv ((marks ++ bg) ++ [octet.byteOf kind]) ++ bv body) → Chg (sf A') w3 w4 → Fresh w3 (sf A') (sf A4) → Ow w A4 c4 y w4 ∧ 19 + body.length = y.length) := fun {A' c' w3} h => by
        have h3 := h.1
        rw [HL3.out] at h3
        refine ⟨h3, Rg.of_rd (Rd.below Hs.out h.2.2 hB) (Nat.le_trans hB h.2.2.size) fun _ _ => trivial, fun q1 q2 q3 => ?_⟩
        have h4 := h.app (x := body) (by rw [HL3.out]; exact q1) q2 q3
        have e : ((marks ++ bg) ++ [octet.byteOf kind]) ++ body = y := by
          rw [← Hy.out, ← HBe.out, big_two]
          unfold wrapF
          rw [show ((19 + body.length : Nat) : Int) = 19 + (body.length : Int) from by omega]
        rw [e] at h4
        exact ⟨h4, by rw [← e, List.length_append, HL3.out]⟩
      go_wp2_with (first
        | (at_builtin; refine wpList_app _ rfl (.tmp 15) (.tmp 20) _ rfl 5 i0 _ 1 1 Try.underlying23 Hi.out Hz0.out Hz1.out Hz2.out rfl (by omega) A1 16 c1 (bv marks) rfl HOw.out _ Ab 2 cb HG1.out (bv bg) rfl HRb.out (bv_one _) (by unfold maxLen; omega) (by omega) ?_; intro A2 c2 w2 ho2 hc2 hf2; obtain ⟨m1, m2, m3⟩ := HN2.out (HN1.out ho2 hc2 hf2); have HM1 := Lib.hid m1; have HM2 := Lib.hid m2; have HM3 : Hid (∀ {A3 c3 w3}, Own w3 5 1 A3 (18 + 1) c3 (bv (marks ++ bg) ++ [.int .u8 kind]) → Chg (sf A2) (w2.alloc (.cells #[.int .u8 kind] 5)) w3 → Fresh (w2.alloc (.cells #[.int .u8 kind] 5)) (sf A2) (sf A3) → Ow w A3 c3 ((marks ++ bg) ++ [octet.byteOf kind]) w3) := m3; clear ho2 hc2 hf2 m1 m2 m3)
        | (at_builtin; refine wpList_app _ rfl (.tmp 21) (.tmp 24) _ rfl 5 i0 _ 1 1 Try.underlying23 Hi.out Hz0.out Hz1.out Hz2.out rfl (by omega) A2 18 c2 (bv (marks ++ bg)) rfl HM1.out _ (some ⟨w2.heap.size, 0, none⟩) 1 1 (by intro h; cases h) [.int .u8 kind] rfl HM2.out (by intro u hu; simp at hu; rw [hu]; rfl) (by unfold maxLen; omega) (by omega) ?_; intro A3 c3 w3 ho3 hc3 hf3; obtain ⟨m1, m2, m3⟩ := HN3.out (HM3.out ho3 hc3 hf3); have HP1 := Lib.hid m1; have HP2 := Lib.hid m2; have HP3 : Hid (∀ {A4 c4 w4}, Own w4 5 1 A4 (19 + body.length) c4 (bv ((marks ++ bg) ++ [octet.byteOf kind]) ++ bv body) → Chg (sf A3) w3 w4 → Fresh w3 (sf A3) (sf A4) → Ow w A4 c4 y w4 ∧ 19 + body.length = y.length) := m3; clear ho3 hc3 hf3 m1 m2 m3)
        | (at_builtin; refine wpList_app _ rfl (.tmp 25) (.tmp 26) _ rfl 5 i0 _ 1 1 Try.underlying23 Hi.out Hz0.out Hz1.out Hz2.out rfl (by omega) A3 19 c3 (bv ((marks ++ bg) ++ [octet.byteOf kind])) rfl HP1.out _ A body.length c HA.out (bv body) rfl HP2.out (bv_one _) (by unfold maxLen; omega) (by omega) ?_; intro A4 c4 w4 ho4 hc4 hf4; obtain ⟨m1, m2⟩ := HP3.out ho4 hc4 hf4; have HQ1 := Lib.hid m1; rw [m2]; clear ho4 hc4 hf4 m1 m2))
      go_ret
      exact ⟨A4, c4, rfl, HQ1.out⟩
end Go.Proofs.Ythoclemgiopjpaa.frame
