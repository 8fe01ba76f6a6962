/- The walk of the law OctetWrites: the Go text returns true and writes nothing that was there. No condition. -/
import Derived.Test.YtajilbapjpfloaaOctLives
import Derived.Test.YtajilbapjpfloaaTwo
import Derived.Deep.DeepCutAuto
import Derived.Deep.OwnRows
import Derived.Laws.OwnMore
namespace Go.Proofs.Ytajilbapjpfloaa.octetWrites
open Go.RowKit Go.Proofs.Ytajilbapjpfloaa.kit Go.Proofs.Ytajilbapjpfloaa.mem Go.Proofs.Ytajilbapjpfloaa.octet
set_option linter.unusedVariables false

theorem bytes_same (A : Option Addr) (c B : Nat) (l : List UInt8) (w : World) (hl : l.length ≤ 300) (hcap : l.length ≤ c) (hA : A = none → c = 0) (hB : B ≤ w.heap.size) (hs : Bs w B A l) :
    Calls Try.prog 17 #[.slice A l.length c, .int .i64 300] w (RetBytes l w) := by
  have h := Bytes_law A c B l 300 w (Or.inl (by omega)) hcap (by unfold maxLen; omega) hA hB hs
  rw [List.take_of_length_le hl] at h
  exact h

theorem made_zero (k : Nat) : madeCells #[Value.int .u8 0] k = Array.replicate k (.int .u8 0) := by
  exact Array.ext' (by rw [toList_madeCells_one]; simp)

theorem byte_mod {a b : Int} (h : a % 256 = b % 256) : octet.byteOf a = octet.byteOf b := by unfold octet.byteOf; rw [h]
theorem seven (n0 n1 n2 : Int) (N0 N1 N2 M2 : Nat) (e3 : IntKind.u32.wrap n2 = M2) (e0 : IntKind.u64.wrap n0 = N0) (e1 : IntKind.u64.wrap n1 = N1) (e2 : IntKind.u64.wrap n2 = N2) :
    (([] ++ [octet.byteOf n0]) ++ [octet.byteOf (n1 / 256), octet.byteOf n1]) ++ [octet.byteOf ((M2 : Int) / 16777216), octet.byteOf ((M2 : Int) / 65536), octet.byteOf ((M2 : Int) / 256), octet.byteOf M2] = (([] ++ bigv N0 1) ++ bigv N1 2) ++ bigv N2 4 := by
  have f0 : n0 % 18446744073709551616 = N0 := e0
  have f1 : n1 % 18446744073709551616 = N1 := e1
  have f2 : n2 % 18446744073709551616 = N2 := e2
  have f3 : n2 % 4294967296 = M2 := e3
  have g0 : octet.byteOf n0 = octet.byteOf N0 := byte_mod (by omega)
  have g1 : octet.byteOf (n1 / 256) = octet.byteOf ((N1 : Int) / 256) := byte_mod (by omega)
  have g2 : octet.byteOf n1 = octet.byteOf N1 := byte_mod (by omega)
  have g3 : octet.byteOf ((M2 : Int) / 16777216) = octet.byteOf ((N2 : Int) / 16777216) := byte_mod (by omega)
  have g4 : octet.byteOf ((M2 : Int) / 65536) = octet.byteOf ((N2 : Int) / 65536) := byte_mod (by omega)
  have g5 : octet.byteOf ((M2 : Int) / 256) = octet.byteOf ((N2 : Int) / 256) := byte_mod (by omega)
  have g6 : octet.byteOf M2 = octet.byteOf N2 := byte_mod (by omega)
  simp [bigv, g0, g1, g2, g3, g4, g5, g6]

theorem sized_any (B b : Nat) (l news : List UInt8) (A : Option Addr) (c B' : Nat) (ok : Bool) (hok : decide ((news.length : Int) ≤ 255) = ok) (w : World) (hw : Wtr w B b l) (hlen : l.length ≤ 549755813888) (hA : A = none → c = 0) (hB : B' ≤ w.heap.size) (hs : Bs w B' A news) (hsep : ∀ ad, A = some ad → Sep w b ad.block) :
    Calls Try.prog 32 #[.pointer (some ⟨b, 0, none⟩), .slice A news.length c] w fun e w' => e = .returned (.bool ok) ∧ Wtr w' B b (if ok then l ++ octet.byteOf news.length :: news else l) ∧ Only w w' b := by
  subst hok
  by_cases h : news.length ≤ 255
  · have e : decide ((news.length : Int) ≤ 255) = true := by simp; omega
    rw [e]
    exact Sized_yes B b l news A c B' w hw hlen h hA hB hs hsep
  · have e : decide ((news.length : Int) ≤ 255) = false := by simp; omega
    rw [e]
    refine (Sized_no B b l news A c w (by omega)).mono ?_
    rintro e w' ⟨rfl, rfl⟩
    exact ⟨rfl, hw, Only.refl _ _⟩

set_option maxRecDepth 100000 in
set_option maxHeartbeats 8000000 in
theorem core (n0 n1 n2 : Int) (N0 N1 N2 M2 : Nat) (e3 : IntKind.u32.wrap n2 = M2) (h3 : M2 ≤ 4294967295) (e0 : IntKind.u64.wrap n0 = N0) (e1 : IntKind.u64.wrap n1 = N1) (e2 : IntKind.u64.wrap n2 = N2) (h0 : N0 < 18446744073709551616) (h1 : N1 < 18446744073709551616) (h2 : N2 < 18446744073709551616)
    (A : Option Addr) (c : Nat) (l : List UInt8) (long : Int) (W : World) (hA : A = none → c = 0) (hcap : l.length ≤ c) (hm : l.length ≤ maxLen) (hs : Bs W W.heap.size A l) :
    Calls Try.prog 7 #[.agg #[.int .i64 n0, .int .i64 n1, .int .i64 n2], .slice A l.length c, .int .i64 long] W fun e w' => e = .returned (.bool true) ∧ Below W.heap.size W w' := by
  obtain ⟨l1, hl1, HB⟩ : ∃ l1 : List UInt8, l1.length ≤ 300 ∧ Calls Try.prog 17 #[.slice A l.length c, .int .i64 300] (W.alloc (.cells #[.int .i64 n0, .int .i64 n1, .int .i64 n2] 58)) (RetBytes l1 (W.alloc (.cells #[.int .i64 n0, .int .i64 n1, .int .i64 n2] 58))) :=
    ⟨l.take 300, by simp; omega, Bytes_law A c W.heap.size l 300 _ (Or.inr (by omega)) hcap hm hA (by simp) (hs.alloc (Nat.le_refl _) _)⟩
  have HB0 := Lib.hid HB
  clear HB
  obtain ⟨i0, hi, hz0, hz1, hz2⟩ := info_parts info_u8
  have Hi := Lib.hid hi
  have Hz0 := Lib.hid hz0
  have Hz1 := Lib.hid hz1
  have Hz2 := Lib.hid hz2
  clear hi hz0 hz1 hz2 hs hA hcap
  go_enter Try.func7, Try.ntmps7
  go_wp2_with fail
  refine HB0.out.mono ?_; rintro e w1 ⟨A1, k1, rfl, g2, g3, g4, g5, g6, g7⟩
  have q0 := (g6.cell (p := ⟨W.heap.size, 0, none⟩) (by simp)).trans (show _ = some (.int .i64 n0) by go_simp)
  have q1 := (g6.cell (p := ⟨W.heap.size, 1, none⟩) (by simp)).trans (show _ = some (.int .i64 n1) by go_simp)
  have q2 := (g6.cell (p := ⟨W.heap.size, 2, none⟩) (by simp)).trans (show _ = some (.int .i64 n2) by go_simp)
  have hWB : W.heap.size < w1.heap.size := by have := g6.size; simp at this; omega
  have HA1 := Lib.hid g2
  have HS := Lib.hid g5
  have HW := Lib.hid (((Below.refl _ W).alloc (Nat.le_refl _) _).trans (g6.mono (by simp)))
  have hcap1 := g3
  clear g2 g3 g4 g5 g6 g7 HB0
  -- the writer and the row
  have hT : Two (((w1.alloc (.cells #[.slice none 0 0] 44)).alloc (.cells #[] 5)).drew) w1.heap.size w1.heap.size [] (.slice (some ⟨w1.heap.size + 1, 0, none⟩) 0 0) [] := by
    have ho := own_empty (w1.alloc (.cells #[.slice none 0 0] 44)) 5 w1.heap.size (by simp)
    simp only [World.size_alloc] at ho
    refine ⟨(wtr_new w1).alloc _, ho, fun k hk => ?_⟩
    injection hk with hk
    subst hk
    have := (wtr_new w1).sep (w' := (w1.alloc (.cells #[.slice none 0 0] 44)).alloc (.cells #[] 5)) (k := w1.heap.size + 1) (by simp) ((Below.refl _ _).alloc (Nat.le_refl _) _)
    exact this
  have HT := Lib.hid hT
  have HK : Hid (Below w1.heap.size w1 (((w1.alloc (.cells #[.slice none 0 0] 44)).alloc (.cells #[] 5)).drew)) := (((Below.refl _ w1).alloc (Nat.le_refl _) _).alloc (by simp) _).drew
  clear hT
  go_wp2_with fail
  go_region_held3 (fun w' => w'.cell? ⟨W.heap.size, 0, none⟩ = some (.int .i64 n0) ∧ w'.cell? ⟨W.heap.size, 1, none⟩ = some (.int .i64 n1) ∧ w'.cell? ⟨W.heap.size, 2, none⟩ = some (.int .i64 n2)) (first | exact ⟨q0, q1, q2⟩ | exact ⟨(HK.out.cell (p := ⟨W.heap.size, 0, none⟩) hWB).trans q0, (HK.out.cell (p := ⟨W.heap.size, 1, none⟩) hWB).trans q1, (HK.out.cell (p := ⟨W.heap.size, 2, none⟩) hWB).trans q2⟩) (first
    | (go_at_call 30; refine (U8_any w1.heap.size w1.heap.size [] n0 _ (by exact HT.out.wr) (by simp)).mono ?_; rintro e w2 ⟨rfl, hw2, ho2⟩; have HK := Lib.hid (HK.out.trans (HT.out.keep ho2)); have HT := Lib.hid (HT.out.write hw2 ho2); clear hw2 ho2)
    | (go_at_call 31; refine (U16_any w1.heap.size w1.heap.size _ n1 _ (by exact HT.out.wr) (by simp)).mono ?_; rintro e w3 ⟨rfl, hw3, ho3⟩; have HK := Lib.hid (HK.out.trans (HT.out.keep ho3)); have HT := Lib.hid (HT.out.write hw3 ho3); clear hw3 ho3)
    | (go_at_call 29; refine (U32_any w1.heap.size w1.heap.size _ M2 _ (by exact HT.out.wr) (by simp) (by omega) (by omega)).mono ?_; rintro e w4 ⟨rfl, hw4, ho4⟩; have HK := Lib.hid (HK.out.trans (HT.out.keep ho4)); have HT := Lib.hid (HT.out.write hw4 ho4); clear hw4 ho4))
  go_upto_region 4 with fail
  have HT := Lib.hid HT.out.drew
  have HK := Lib.hid HK.out.drew
  go_cut [8] (fun s8 wx => ∃ (A8 : Option Addr) (k8 : Nat) (x : List UInt8), s8 = .slice A8 x.length k8 ∧ x.length ≤ 7 ∧ Two wx w1.heap.size w1.heap.size x (.slice A8 x.length k8) x ∧ Below w1.heap.size w1 wx)
  case first =>
    have q0 := (HK.out.cell (p := ⟨W.heap.size, 0, none⟩) hWB).trans q0
    have q1 := (HK.out.cell (p := ⟨W.heap.size, 1, none⟩) hWB).trans q1
    have q2 := (HK.out.cell (p := ⟨W.heap.size, 2, none⟩) hWB).trans q2
    go_region_held3 (fun w' => w'.cell? ⟨W.heap.size, 0, none⟩ = some (.int .i64 n0) ∧ w'.cell? ⟨W.heap.size, 1, none⟩ = some (.int .i64 n1) ∧ w'.cell? ⟨W.heap.size, 2, none⟩ = some (.int .i64 n2)) (exact ⟨q0, q1, q2⟩) (first
      | (go_at_call_of 33 (Value.int IntKind.i64 1); refine (Big_any N0 1 _ h0 (by omega)).mono ?_; rintro e wb ⟨C0, c0, rfl, d2, d3, d4, d5, d6, d7⟩; have st := d6.mono HT.out.base; have HK := Lib.hid (HK.out.trans st); have q0 := (st.cell (p := ⟨W.heap.size, 0, none⟩) hWB).trans q0; have q1 := (st.cell (p := ⟨W.heap.size, 1, none⟩) hWB).trans q1; have q2 := (st.cell (p := ⟨W.heap.size, 2, none⟩) hWB).trans q2; clear st; (try have HC1 := Lib.hid (HC1.out.below d6)); (try have HC2 := Lib.hid (HC2.out.below d6)); have HC0 := Lib.hid (HT.out.src d5 d7); have HD0 := Lib.hid d2; have HT := Lib.hid (HT.out.below d6); clear d2 d3 d4 d5 d6 d7)
      | (go_at_call_of 33 (Value.int IntKind.i64 2); refine (Big_any N1 2 _ h1 (by omega)).mono ?_; rintro e wb ⟨C1, c1, rfl, d2, d3, d4, d5, d6, d7⟩; have st := d6.mono HT.out.base; have HK := Lib.hid (HK.out.trans st); have q0 := (st.cell (p := ⟨W.heap.size, 0, none⟩) hWB).trans q0; have q1 := (st.cell (p := ⟨W.heap.size, 1, none⟩) hWB).trans q1; have q2 := (st.cell (p := ⟨W.heap.size, 2, none⟩) hWB).trans q2; clear st; (try have HC0 := Lib.hid (HC0.out.below d6)); (try have HC2 := Lib.hid (HC2.out.below d6)); have HC1 := Lib.hid (HT.out.src d5 d7); have HD1 := Lib.hid d2; have HT := Lib.hid (HT.out.below d6); clear d2 d3 d4 d5 d6 d7)
      | (go_at_call_of 33 (Value.int IntKind.i64 4); refine (Big_any N2 4 _ h2 (by omega)).mono ?_; rintro e wb ⟨C2, c2, rfl, d2, d3, d4, d5, d6, d7⟩; have st := d6.mono HT.out.base; have HK := Lib.hid (HK.out.trans st); have q0 := (st.cell (p := ⟨W.heap.size, 0, none⟩) hWB).trans q0; have q1 := (st.cell (p := ⟨W.heap.size, 1, none⟩) hWB).trans q1; have q2 := (st.cell (p := ⟨W.heap.size, 2, none⟩) hWB).trans q2; clear st; (try have HC0 := Lib.hid (HC0.out.below d6)); (try have HC1 := Lib.hid (HC1.out.below d6)); have HC2 := Lib.hid (HT.out.src d5 d7); have HD2 := Lib.hid d2; have HT := Lib.hid (HT.out.below d6); clear d2 d3 d4 d5 d6 d7)
      | (refine step_append_sl rfl (.tmp 27) (.tmp 31) _ rfl w1.heap.size 5 i0 _ 1 1 Try.underlying26 Hi.out Hz0.out Hz1.out Hz2.out rfl (by omega) (.slice (some ⟨w1.heap.size + 1, 0, none⟩) 0 0) 0 (bv []) rfl (HT.out.own) _ C0 1 c0 HD0.out (bv (bigv N0 1)) rfl HC0.out.bs (bv_one _) (by unfold maxLen; omega) (by omega) HT.out.base ?_; intro R0 r0 wr ho hg hat; have st := HT.out.app_keep hg; have HK := Lib.hid (HK.out.trans st); have q0 := (st.cell (p := ⟨W.heap.size, 0, none⟩) hWB).trans q0; have q1 := (st.cell (p := ⟨W.heap.size, 1, none⟩) hWB).trans q1; have q2 := (st.cell (p := ⟨W.heap.size, 2, none⟩) hWB).trans q2; clear st; (try have HC1 := Lib.hid (HC1.out.append (by simp [bigv_len]) hg hat)); (try have HC2 := Lib.hid (HC2.out.append (by simp [bigv_len]) hg hat)); have HT := Lib.hid (HT.out.append (news := bigv N0 1) ho hg hat); clear ho hg hat)
      | (refine step_append_sl rfl (.tmp 32) (.tmp 36) _ rfl w1.heap.size 5 i0 _ 1 1 Try.underlying26 Hi.out Hz0.out Hz1.out Hz2.out rfl (by omega) (.slice R0 (0 + 1) r0) 1 (bv ([] ++ bigv N0 1)) rfl (HT.out.own) _ C1 2 c1 HD1.out (bv (bigv N1 2)) rfl HC1.out.bs (bv_one _) (by unfold maxLen; omega) (by omega) HT.out.base ?_; intro R1 r1 wr ho hg hat; have st := HT.out.app_keep hg; have HK := Lib.hid (HK.out.trans st); have q0 := (st.cell (p := ⟨W.heap.size, 0, none⟩) hWB).trans q0; have q1 := (st.cell (p := ⟨W.heap.size, 1, none⟩) hWB).trans q1; have q2 := (st.cell (p := ⟨W.heap.size, 2, none⟩) hWB).trans q2; clear st; (try have HC2 := Lib.hid (HC2.out.append (by simp [bigv_len]) hg hat)); have HT := Lib.hid (HT.out.append (news := bigv N1 2) ho hg hat); clear ho hg hat)
      | (refine step_append_sl rfl (.tmp 37) (.tmp 41) _ rfl w1.heap.size 5 i0 _ 1 1 Try.underlying26 Hi.out Hz0.out Hz1.out Hz2.out rfl (by omega) (.slice R1 (1 + 2) r1) 3 (bv (([] ++ bigv N0 1) ++ bigv N1 2)) rfl (HT.out.own) _ C2 4 c2 HD2.out (bv (bigv N2 4)) rfl HC2.out.bs (bv_one _) (by unfold maxLen; omega) (by omega) HT.out.base ?_; intro R2 r2 wr ho hg hat; have st := HT.out.app_keep hg; have HK := Lib.hid (HK.out.trans st); have q0 := (st.cell (p := ⟨W.heap.size, 0, none⟩) hWB).trans q0; have q1 := (st.cell (p := ⟨W.heap.size, 1, none⟩) hWB).trans q1; have q2 := (st.cell (p := ⟨W.heap.size, 2, none⟩) hWB).trans q2; clear st;  have HT := Lib.hid (HT.out.append (news := bigv N2 4) ho hg hat); clear ho hg hat))
    have hT := HT.out
    rw [seven n0 n1 n2 N0 N1 N2 M2 e3 e0 e1 e2] at hT
    go_wp2_with fail
    go_meet
    exact ⟨R2, r2, (([] ++ bigv N0 1) ++ bigv N1 2) ++ bigv N2 4, rfl, (by simp [bigv_len]), hT, HK.out⟩
  case rest =>
    obtain ⟨A8, k8, x, rfl, hx7, hT, hK⟩ := hcut
    obtain ⟨ok, hok⟩ : ∃ ok, decide ((l1.length : Int) ≤ 255) = ok := ⟨_, rfl⟩
    have HOK := Lib.hid hok
    clear hok e0 e1 e2 e3 h0 h1 h2 h3 q0 q1 q2
    have HS := Lib.hid (HS.out.below hK (Nat.le_refl _))
    have HT := Lib.hid hT
    have HK := Lib.hid hK
    clear hT hK
    have HB5 := Lib.hid (bytes_same A1 k1 w1.heap.size l1 wc hl1 hcap1 HA1.out HT.out.base HS.out)
    go_wp2_with fail
    refine HB5.out.mono ?_; rintro e w5 ⟨A5, k5, rfl, g2, g3, g4, g5, g6, g7⟩
    have HP := Lib.hid (Put_any w1.heap.size w1.heap.size x l1 A5 k5 w5.heap.size w5 (HT.out.wr.below g6) (by omega) g2 (Nat.le_refl _) g5)
    have HS := Lib.hid (HS.out.below (g6.mono HT.out.base) (Nat.le_refl _))
    have HK := Lib.hid (HK.out.trans (g6.mono HT.out.base))
    have HT := Lib.hid (HT.out.below g6)
    clear g2 g3 g4 g5 g6 g7 HB5
    go_wp2_with fail
    refine HP.out.mono ?_; rintro e w6 ⟨rfl, hw6, ho6⟩
    have HS := Lib.hid (HS.out.below (HT.out.keep ho6) (Nat.le_refl _))
    have HK := Lib.hid (HK.out.trans (HT.out.keep ho6))
    have HT := Lib.hid (HT.out.write hw6 ho6)
    clear hw6 ho6 HP
    go_wp2_with (at_builtin; refine wpList_append_sl rfl (.tmp 47) (.tmp 48) _ rfl w1.heap.size 5 i0 _ 1 1 Try.underlying26 Hi.out Hz0.out Hz1.out Hz2.out rfl (by omega) (.slice A8 x.length k8) x.length (bv x) rfl HT.out.own w1.heap.size A1 l1.length k1 HA1.out (bv l1) rfl HS.out (bv_one _) (by unfold maxLen; omega) (by omega) HT.out.base ?_; intro R7 r7 w7 ho hg hat; have HS := Lib.hid (HS.out.below (HT.out.app_keep hg) (Nat.le_refl _)); have HK := Lib.hid (HK.out.trans (HT.out.app_keep hg)); have HT := Lib.hid (HT.out.append (news := l1) ho hg hat); clear ho hg hat)
    have HB7 := Lib.hid (bytes_same A1 k1 w1.heap.size l1 w7 hl1 hcap1 HA1.out HT.out.base HS.out)
    go_wp2_with fail
    refine HB7.out.mono ?_; rintro e w8 ⟨A9, k9, rfl, g2, g3, g4, g5, g6, g7⟩
    have HP := Lib.hid (sized_any w1.heap.size w1.heap.size (x ++ l1) l1 A9 k9 w8.heap.size ok HOK.out w8 (HT.out.wr.below g6) (by simp; omega) g2 (Nat.le_refl _) g5 (fun ad h => HT.out.wr.sep (g7 ad h) g6))
    have HS := Lib.hid (HS.out.below (g6.mono HT.out.base) (Nat.le_refl _))
    have HK := Lib.hid (HK.out.trans (g6.mono HT.out.base))
    have HT := Lib.hid (HT.out.below g6)
    clear g2 g3 g4 g5 g6 g7 HB7
    go_wp2_with fail
    refine HP.out.mono ?_; rintro e w9 ⟨rfl, hw9, ho9⟩
    have HS := Lib.hid (HS.out.below (HT.out.keep ho9) (Nat.le_refl _))
    have HK := Lib.hid (HK.out.trans (HT.out.keep ho9))
    have HT := Lib.hid (HT.out.write hw9 ho9)
    clear hw9 ho9 HP
    have hok := HOK.out
    go_upto_if 59 with fail
    go_cut [8] (fun s8 wx => ∃ (A8 : Option Addr) (n8 k8 : Nat) (x : List UInt8), s8 = .slice A8 n8 k8 ∧ n8 = x.length ∧ x.length ≤ 1000 ∧ Two wx w1.heap.size w1.heap.size x (.slice A8 n8 k8) x ∧ Below w1.heap.size w1 wx ∧ Bs wx w1.heap.size A1 l1)
    case first =>
      cases ok
      · have HT : Hid (Two w9 w1.heap.size w1.heap.size (x ++ l1) (.slice R7 (x.length + l1.length) r7) (x ++ l1)) := HT
        go_wp2_with fail
        go_meet
        exact ⟨R7, _, r7, x ++ l1, rfl, by simp, by simp; omega, HT.out, HK.out, HS.out⟩
      · have hT : Two w9 w1.heap.size w1.heap.size ((x ++ l1) ++ octet.byteOf l1.length :: l1) (.slice R7 (x.length + l1.length) r7) (x ++ l1) := HT.out
        clear HT
        have ha : Below w9.heap.size w9 (w9.alloc (.cells #[.int .u8 ((l1.length : Int) % 256)] 5)) := (Below.refl _ _).alloc (Nat.le_refl _) _
        have HT := Lib.hid (hT.below ha)
        have HS := Lib.hid (HS.out.below (ha.mono hT.base) (Nat.le_refl _))
        have HK := Lib.hid (HK.out.trans (ha.mono hT.base))
        have HN : Hid (Bs (w9.alloc (.cells #[.int .u8 ((l1.length : Int) % 256)] 5)) (w9.heap.size + 1) (some ⟨w9.heap.size, 0, none⟩) [octet.byteOf l1.length]) := bs_new _ _ _ (bv1 _)
        clear hT ha
        have e63 : IntKind.u8.wrap (l1.length : Int) = (l1.length : Int) % 256 := rfl
        go_wp2_with (first
          | (at_builtin; refine wpList_append_sl rfl (.tmp 60) (.tmp 64) _ rfl w1.heap.size 5 i0 _ 1 1 Try.underlying26 Hi.out Hz0.out Hz1.out Hz2.out rfl (by omega) (.slice R7 (x.length + l1.length) r7) (x.length + l1.length) (bv (x ++ l1)) rfl (by have := HT.out.own; rw [List.length_append] at this; exact this) (w9.heap.size + 1) (some ⟨w9.heap.size, 0, none⟩) 1 1 (fun h => by cases h) (bv [octet.byteOf l1.length]) rfl HN.out (bv_one _) (by unfold maxLen; omega) (by omega) HT.out.base ?_; intro R10 r10 w10 ho hg hat; have HS := Lib.hid (HS.out.below (HT.out.app_keep hg) (Nat.le_refl _)); have HK := Lib.hid (HK.out.trans (HT.out.app_keep hg)); have HT := Lib.hid (HT.out.append (news := [octet.byteOf l1.length]) (by rw [List.length_append]; exact ho) hg hat); clear ho hg hat)
          | (at_builtin; refine wpList_append_sl rfl (.tmp 65) (.tmp 66) _ rfl w1.heap.size 5 i0 _ 1 1 Try.underlying26 Hi.out Hz0.out Hz1.out Hz2.out rfl (by omega) (.slice R10 (x.length + l1.length + 1) r10) (x.length + l1.length + 1) (bv (x ++ l1 ++ [octet.byteOf l1.length])) rfl (by have := HT.out.own; rw [List.length_append, List.length_append] at this; exact this) w1.heap.size A1 l1.length k1 HA1.out (bv l1) rfl HS.out (bv_one _) (by unfold maxLen; omega) (by omega) HT.out.base ?_; intro R11 r11 w11 ho hg hat; have HS := Lib.hid (HS.out.below (HT.out.app_keep hg) (Nat.le_refl _)); have HK := Lib.hid (HK.out.trans (HT.out.app_keep hg)); have HT := Lib.hid (HT.out.append (news := l1) (by rw [List.length_append, List.length_append]; exact ho) hg hat); clear ho hg hat))
        go_meet
        refine ⟨R11, _, r11, x ++ l1 ++ [octet.byteOf l1.length] ++ l1, rfl, by simp; omega, by simp; omega, ?_, HK.out, HS.out⟩
        have h := HT.out
        rw [show (x ++ l1) ++ octet.byteOf l1.length :: l1 = x ++ l1 ++ [octet.byteOf l1.length] ++ l1 from by simp] at h
        exact h
    case rest =>
      obtain ⟨A8, n8, k8, x, rfl, rfl, hx7, hT, hK, hS⟩ := hcut
      clear HT HK HS
      have HS := Lib.hid hS
      clear hS
      have HT := Lib.hid hT
      have HK := Lib.hid hK
      clear hT hK
      have hM : (0 : Int) ≤ (l1.length : Int) ∧ (l1.length : Int) ≤ 300 := ⟨by omega, by omega⟩
      have HB12 := Lib.hid (bytes_same A1 k1 w1.heap.size l1 wc hl1 hcap1 HA1.out HT.out.base HS.out)
      go_wp2_with fail
      refine HB12.out.mono ?_; rintro e w12 ⟨A12, k12, rfl, g2, g3, g4, g5, g6, g7⟩
      have HP := Lib.hid (Long_yes w1.heap.size w1.heap.size x l1 A12 k12 w12.heap.size w12 (HT.out.wr.below g6) (by omega) (by omega) g2 (Nat.le_refl _) g5 (fun ad h => HT.out.wr.sep (g7 ad h) g6))
      have HS := Lib.hid (HS.out.below (g6.mono HT.out.base) (Nat.le_refl _))
      have HK := Lib.hid (HK.out.trans (g6.mono HT.out.base))
      have HT := Lib.hid (HT.out.below g6)
      clear g2 g3 g4 g5 g6 g7 HB12
      go_wp2_with fail
      refine HP.out.mono ?_; rintro e w13 ⟨rfl, hw13, ho13⟩
      have HS := Lib.hid (HS.out.below (HT.out.keep ho13) (Nat.le_refl _))
      have HK := Lib.hid (HK.out.trans (HT.out.keep ho13))
      have HT := Lib.hid (HT.out.write hw13 ho13)
      clear hw13 ho13 HP
      go_wp2_with fail
      refine (Big_any l1.length 2 w13 (by omega) (by omega)).mono ?_; rintro e w14 ⟨C, c14, rfl, d2, d3, d4, d5, d6, d7⟩
      have HS := Lib.hid (HS.out.below (d6.mono HT.out.base) (Nat.le_refl _))
      have HK := Lib.hid (HK.out.trans (d6.mono HT.out.base))
      have HT := Lib.hid (HT.out.below d6)
      have HN := Lib.hid d5
      have HD := Lib.hid d2
      clear d2 d3 d4 d5 d6 d7
      go_wp2_with (first
        | (at_builtin; refine wpList_append_sl rfl (.tmp 72) (.tmp 76) _ rfl w1.heap.size 5 i0 _ 1 1 Try.underlying26 Hi.out Hz0.out Hz1.out Hz2.out rfl (by omega) (.slice A8 x.length k8) x.length (bv x) rfl HT.out.own w14.heap.size C 2 c14 HD.out (bv (bigv l1.length 2)) rfl HN.out (bv_one _) (by unfold maxLen; omega) (by omega) HT.out.base ?_; intro R15 r15 w15 ho hg hat; have HS := Lib.hid (HS.out.below (HT.out.app_keep hg) (Nat.le_refl _)); have HK := Lib.hid (HK.out.trans (HT.out.app_keep hg)); have HT := Lib.hid (HT.out.append (news := bigv l1.length 2) ho hg hat); clear ho hg hat)
        | (at_builtin; refine wpList_append_sl rfl (.tmp 77) (.tmp 78) _ rfl w1.heap.size 5 i0 _ 1 1 Try.underlying26 Hi.out Hz0.out Hz1.out Hz2.out rfl (by omega) (.slice R15 (x.length + 2) r15) (x.length + 2) (bv (x ++ bigv l1.length 2)) rfl (by have := HT.out.own; rw [List.length_append] at this; exact this) w1.heap.size A1 l1.length k1 HA1.out (bv l1) rfl HS.out (bv_one _) (by unfold maxLen; omega) (by omega) HT.out.base ?_; intro R16 r16 w16 ho hg hat; have HS := Lib.hid (HS.out.below (HT.out.app_keep hg) (Nat.le_refl _)); have HK := Lib.hid (HK.out.trans (HT.out.app_keep hg)); have HT := Lib.hid (HT.out.append (news := l1) (by rw [List.length_append]; exact ho) hg hat); clear ho hg hat))
      -- what was written is what was awaited
      have hT := HT.out
      have hx : x ++ octet.byteOf ((l1.length : Int) / 256) :: octet.byteOf l1.length :: l1 = x ++ bigv l1.length 2 ++ l1 := by simp [bigv]
      rw [hx] at hT
      obtain ⟨y, hy⟩ : ∃ y, x ++ bigv l1.length 2 ++ l1 = y := ⟨_, rfl⟩
      have hyl : x.length + 2 + l1.length = y.length := by rw [← hy]; simp [bigv_len]; omega
      rw [hy, hyl] at hT
      have HT := Lib.hid hT
      clear hT hx hy
      have hrun : ∀ w, Two w w1.heap.size w1.heap.size y (.slice R16 y.length r16) y → (convert 26 9 (.slice R16 (x.length + 2 + l1.length) r16)).run Try.prog w = .ok (.string ⟨y.toArray⟩) w := by
        intro w h
        rw [hyl]
        exact run_str (Rd.of_own h.own)
      have hy1 : y.length ≤ 1400 := by omega
      have HT := Lib.hid HT.out.drew
      have HK := Lib.hid HK.out.drew
      clear hyl
      go_cut [89] (fun s89 wx => s89 = .bool false ∧ Two wx w1.heap.size w1.heap.size y (.slice R16 y.length r16) y ∧ Below w1.heap.size w1 wx)
      case first =>
        have hc := hrun _ HT.out
        go_region_with (first
          | (go_at_call 34; refine (Bytes_any w1.heap.size w1.heap.size y _ (by exact HT.out.wr) (by omega)).mono ?_; rintro e w17 ⟨⟨A17, k17, rfl, g2, g3, g4, g5, g6, g7⟩, _⟩; have hstr := run_str (c := k17) g5; have HK := Lib.hid (HK.out.trans (g6.mono HT.out.base)); have HT := Lib.hid (HT.out.below g6); have hc := hrun _ HT.out; clear g2 g3 g4 g5 g6 g7))
        all_goals (go_wp2_with fail; go_meet; exact ⟨rfl, HT.out, HK.out⟩)
      case rest =>
        obtain ⟨rfl, hT, hK⟩ := hcut
        clear HT HK hrun
        have HT := Lib.hid hT
        have HK := Lib.hid hK
        have HL := Lib.hid (lives_any wc)
        have HKL : Hid (∀ w' wz, Below w1.heap.size w1 wz → Below wz.heap.size wz w' → Below W.heap.size W w') := fun w' wz h1 h2 => HW.out.trans ((h1.trans (h2.mono h1.size)).mono (by omega))
        clear hT hK
        by_cases hlo : long < 65530
        · go_wp2_with fail
          refine HL.out.mono ?_; rintro e w18 ⟨rfl, hb⟩
          have HF := Lib.hid (HKL.out _ _ HK.out hb)
          clear hb
          go_wp2_with fail
          go_ret
          exact ⟨rfl, HF.out⟩
        by_cases hhi : 65540 < long
        · go_wp2_with fail
          refine HL.out.mono ?_; rintro e w18 ⟨rfl, hb⟩
          have HF := Lib.hid (HKL.out _ _ HK.out hb)
          clear hb
          go_wp2_with fail
          go_ret
          exact ⟨rfl, HF.out⟩
        obtain ⟨k, rfl⟩ := Int.eq_ofNat_of_zero_le (show 0 ≤ long by omega)
        have hmk := run_make_row' (P := Try.prog) 26 5 (.int .u8 0) 1 Try.underlying26 info_u8 rfl .i64 .i64 k (by omega) (by omega)
        have hz : Below wc.heap.size wc (wc.alloc (.cells (madeCells #[.int .u8 0] k) 5)) := (Below.refl _ _).alloc (Nat.le_refl _) _
        have HT2 := Lib.hid (HT.out.below hz)
        have HK2 := Lib.hid (HK.out.trans (hz.mono HT.out.base))
        have hN : Bs (wc.alloc (.cells (madeCells #[.int .u8 0] k) 5)) (wc.heap.size + 1) (some ⟨wc.heap.size, 0, none⟩) (List.replicate k 0) := bs_new _ _ _ (by rw [made_zero]; simp [bv])
        have hsep : ∀ ad, (some ⟨wc.heap.size, 0, none⟩ : Option Addr) = some ad → Sep (wc.alloc (.cells (madeCells #[.int .u8 0] k) 5)) w1.heap.size ad.block := by
          intro ad h
          cases h
          exact HT.out.wr.sep (Nat.le_refl _) hz
        have HG : Hid (∃ b : Bool, b = decide ((k : Int) ≤ 65535) ∧ Calls Try.prog 39 #[.pointer (some ⟨w1.heap.size, 0, none⟩), .slice (some ⟨wc.heap.size, 0, none⟩) k k] (wc.alloc (.cells (madeCells #[.int .u8 0] k) 5)) fun e w' => e = .returned (.bool b) ∧ Below w1.heap.size w1 w') := by
          by_cases hk : k ≤ 65535
          · refine ⟨true, by simp; omega, ?_⟩
            have := Long_yes w1.heap.size w1.heap.size y (List.replicate k 0) (some ⟨wc.heap.size, 0, none⟩) k (wc.heap.size + 1) (wc.alloc (.cells (madeCells #[.int .u8 0] k) 5)) HT2.out.wr (by omega) (by simp; exact hk) (fun h => by cases h) (by simp) hN hsep
            rw [List.length_replicate] at this
            exact this.mono fun e w' h => ⟨h.1, HK2.out.trans (HT2.out.keep h.2.2)⟩
          · refine ⟨false, by simp; omega, ?_⟩
            exact (Long_no w1.heap.size w1.heap.size k _ k _ (by omega)).mono fun e w' h => ⟨h.1, h.2 ▸ HK2.out⟩
        obtain ⟨b, hb, hlong⟩ := HG.out
        have HLong := Lib.hid hlong
        clear hN hsep hz HG hlong
        go_wp2_with fail
        refine HLong.out.mono ?_; rintro e w18 ⟨rfl, hb18⟩
        have HK := Lib.hid hb18
        have hbb : (b == decide ((k : Int) ≤ 65535)) = true := by rw [hb]; simp
        clear hb18 hb
        go_wp2_with fail
        refine (lives_any w18).mono ?_; rintro e w19 ⟨rfl, hb19⟩
        have HF := Lib.hid (HKL.out _ _ HK.out hb19)
        clear hb19
        go_wp2_with fail
        go_ret
        exact ⟨rfl, HF.out⟩

set_option maxRecDepth 100000 in
theorem walk {H : Type} {enc : TypeId × Value → H} {W : World} {base : Nat} {v0 v1 : Value} {d0 d1 : DataW H} {p0 p1 : List MemPlace}
    (hv0 : Value.okWide Try.prog W .any base 58 v0) (h0 : DataW.Trod enc Try.prog W 0 (fun _ => true) true 58 v0 d0 p0)
    (hv1 : Value.okWide Try.prog W .any base 26 v1) (h1 : DataW.Trod enc Try.prog W 0 (fun _ => true) true 26 v1 d1 p1) (a2 : Int) (w2 : (Lit.int .i64 a2).wf = true) :
    Calls Try.prog 7 #[v0, v1, .int .i64 a2] W fun e w' => e = .returned (.bool true) ∧ Below W.heap.size W w' := by
  obtain ⟨x, y, z, rfl, wx, wy, wz⟩ := open_arr3 Try.underlying58 Try.underlying3 (by kernel_rfl) (by kernel_rfl) hv0 h0
  obtain ⟨A, c, l, rfl, hA, hcap, hm, hs⟩ := open_bytes Try.underlying26 Try.underlying5 (by kernel_rfl) hv1 h1
  have fx : ∀ x : Int, ∃ N : Nat, IntKind.u64.wrap x = N ∧ N < 18446744073709551616 := fun x => ⟨(x % 18446744073709551616).toNat, by show x % 18446744073709551616 = _; omega, by omega⟩
  obtain ⟨N0, e0, h0⟩ := fx x
  obtain ⟨N1, e1, h1⟩ := fx y
  obtain ⟨N2, e2, h2⟩ := fx z
  exact core x y z N0 N1 N2 (z % 4294967296).toNat (by show z % 4294967296 = _; omega) (by omega) e0 e1 e2 h0 h1 h2 A c l a2 W hA hcap (by omega) hs

end Go.Proofs.Ytajilbapjpfloaa.octetWrites
