/- asn.merged, its closure, asn.Union and asn.Minus: what they return. Condition: fewer than 10^6 numbers. -/
import Derived.Test.YtafepficapdepaaAsnSet
import Derived.Test.YtafepficapdepaaAsnMath
import Derived.Test.YtafepficapdepaaSeg
namespace Go.Proofs.Ytafepficapdepaa.asn
open Go.RowKit Go.Proofs.Ytafepficapdepaa.kit Go.Proofs.Ytafepficapdepaa.mem Go.Proofs.Ytafepficapdepaa.foot Go.Proofs.Ytafepficapdepaa.nums
set_option linter.unusedVariables false
set_option linter.unusedSimpArgs false
/-- a slice of numbers as it is read -/
structure Sn (w : World) (G : Foot) (A : Option Addr) (c : Nat) (l : List Nat) : Prop where
  nil : A = none → c = 0
  cap : l.length ≤ c
  max : c ≤ maxLen
  us : Us w G A l
theorem Sn.bel {w w' : World} {G : Foot} {A : Option Addr} {c : Nat} {l : List Nat} (h : Sn w G A c l) (hb : Below w.heap.size w w') : Sn w' G A c l := ⟨h.nil, h.cap, h.max, Rg.bel h.us hb⟩
theorem Sn.own {w : World} {A : Option Addr} {c : Nat} {l : List Nat} (h : foot.Own w 22 1 A l.length c (uv l)) : Sn w (sf A) A c l := ⟨h.nil, h.cap, h.max, h.rg⟩
theorem Sn.of_ns {w : World} {G : Foot} {cs : List Value} {l : List Nat} (h : pth.rNs w G cs l) : ∃ A c, cs = [.slice A l.length c] ∧ Sn w G A c l ∧ pth.W32 l := by
  obtain ⟨A, c, e, h1, h2, h3, h4, h5⟩ := h
  exact ⟨A, c, e, ⟨h1, h2, h3, h4⟩, h5⟩
theorem Sn.empty (w : World) (G : Foot) : Sn w G none 0 [] := ⟨fun _ => rfl, Nat.le_refl _, Nat.zero_le _, Rg.nil _ _ _ _⟩
/-- s[n:] -/
theorem cutn_hi (A : Option Addr) (c l n : Nat) (hA : A = none → c = 0) (hc : l ≤ c) (hm : c ≤ maxLen) (hn : n ≤ l) :
    ∃ A' c', (A' = none → c' = 0) ∧ l - n ≤ c' ∧ c' ≤ maxLen ∧ (∀ w, (Instr.slice 67 (.slice A l c) (some (.int .i64 n)) none none).run Try.prog w = .ok (.slice A' (l - n) c') w) ∧ (∀ w G (x : List Nat), x.length = l → Us w G A x → Us w G A' (x.drop n)) := by
  have hm' := hm
  unfold maxLen at hm
  rcases A with _ | ad
  · have := hA rfl
    subst this
    obtain rfl : l = 0 := by omega
    obtain rfl : n = 0 := by omega
    exact ⟨none, 0, fun _ => rfl, Nat.le_refl _, Nat.zero_le _, fun w => by kernel_rfl, fun w B x hx h => h⟩
  · by_cases hz : n = c
    · subst hz
      obtain rfl : l = n := by omega
      refine ⟨some ad, 0, (fun h => by cases h), by omega, Nat.zero_le _, fun w => ?_, fun w B x hx h => ?_⟩
      · go_simp
      · rw [List.drop_of_length_le (by omega)]; exact Rg.nil _ _ _ _
    · refine ⟨some (ad.add n), c - n, (fun h => by cases h), by omega, by unfold maxLen; omega, fun w => ?_, fun w B x hx h => ?_⟩
      · have h1 : (n : Int) ≤ (l : Int) := by omega
        go_simp
        intro h; exact absurd h.symm hz
      · have := Rg.skip h (k := n) (by omega)
        rw [Nat.mul_one, ← uv_drop] at this
        unfold Us; rw [List.length_drop]; exact this
theorem Sn.tail {w : World} {G : Foot} {A : Option Addr} {c n : Nat} {l : List Nat} (h : Sn w G A c l) (hn : n ≤ l.length) :
    ∃ A' c', (∀ w, (Instr.slice 67 (.slice A l.length c) (some (.int .i64 n)) none none).run Try.prog w = .ok (.slice A' (l.length - n) c') w) ∧ Sn w G A' c' (l.drop n) := by
  obtain ⟨A', c', h1, h2, h3, h4, h5⟩ := cutn_hi A c l.length n h.nil h.cap h.max hn
  exact ⟨A', c', h4, h1, by rw [List.length_drop]; exact h2, h3, h5 _ _ _ rfl h.us⟩
theorem Sn.at_ {w : World} {G : Foot} {A : Option Addr} {c : Nat} {l : List Nat} (h : Sn w G A c l) {i : Nat} (hi : i < l.length) : ∃ b off, A = some ⟨b, off, none⟩ ∧ b < w.heap.size ∧ w.cell? ⟨b, off + i, none⟩ = some (.int .u32 (l[i] : Int)) := by
  obtain ⟨b, off, h1, _, h2, h3⟩ := h.us.at_ hi
  exact ⟨b, off, h1, h2, h3⟩
/-- behind the first one, as the walk writes it -/
theorem Sn.tl {w : World} {G : Foot} {b off c x : Nat} {l : List Nat} (h : Sn w G (some ⟨b, off, none⟩) c (x :: l)) : Sn w G (if c = 1 then some ⟨b, off, none⟩ else some ⟨b, off + 1, none⟩) (c - 1) l := by
  have hc := h.cap
  have hm := h.max
  rw [List.length_cons] at hc
  by_cases h1 : c = 1
  · rw [if_pos h1]
    have : l = [] := List.length_eq_zero_iff.1 (by omega)
    subst this
    exact ⟨(fun e => by cases e), by simp, by omega, Rg.nil _ _ _ _⟩
  · rw [if_neg h1]
    refine ⟨(fun e => by cases e), by omega, by omega, ?_⟩
    have := Rg.skip h.us (k := 1) (by simp)
    rw [Nat.mul_one, ← uv_drop] at this
    simpa [Us, Addr.add] using this
/-- the variable in block ob holds a slice of these -/
structure OutN (B ob : Nat) (w : World) (xs : List Nat) : Prop where
  ex : ∃ A c, Bk w ob 67 #[.slice A xs.length c] ∧ foot.Own w 22 1 A xs.length c (uv xs) ∧ ∀ x, sf A x → B ≤ x ∧ x ≠ ob
  lo : B ≤ ob
theorem OutN.start (w : World) (B : Nat) (hB : B ≤ w.heap.size) : OutN B w.heap.size (w.alloc (.cells #[.slice none 0 0] 67)) [] :=
  ⟨⟨none, 0, Bk.new w _ _, foot.Own.none_ _ _ _, fun x hx => absurd hx (sf_none x)⟩, hB⟩
theorem OutN.bel {B ob : Nat} {w w' : World} {xs : List Nat} (h : OutN B ob w xs) (hb : Below w.heap.size w w') : OutN B ob w' xs := by
  obtain ⟨⟨A, c, h1, h2, h3⟩, h4⟩ := h
  exact ⟨⟨A, c, h1.below hb h1.lt, h2.bel hb, h3⟩, h4⟩
theorem OutN.next {B ob : Nat} {w w0 w2 : World} {xs : List Nat} {n : Nat} {A A2 : Option Addr} {c c2 : Nat} (h1 : Bk w ob 67 #[.slice A xs.length c]) (h3 : ∀ x, sf A x → B ≤ x ∧ x ≠ ob) (h4 : B ≤ ob) (hB : B ≤ w.heap.size) (hb : Below w.heap.size w w0)
    (ho : foot.Own w2 22 1 A2 (xs.length + 1) c2 (uv xs ++ [.int .u32 (n : Int)])) (hc : Chg (sf A) w0 w2) (hf : Fresh w0 (sf A) (sf A2)) :
    Bk w2 ob 67 #[.slice A xs.length c] ∧ OutN B ob (w2.setCell ⟨ob, 0, none⟩ (.slice A2 (xs.length + 1) c2)) (xs ++ [n]) ∧ Below B w (w2.setCell ⟨ob, 0, none⟩ (.slice A2 (xs.length + 1) c2)) := by
  have hk2 : Bk w2 ob 67 #[.slice A xs.length c] := (h1.below hb h1.lt).chg hc fun e => (h3 ob e).2 rfl
  have hsz := hb.size
  have hA2 : ∀ x, sf A2 x → B ≤ x ∧ x ≠ ob := fun x hx => by
    rcases hf x hx with e | e
    · exact h3 x e
    · have := h1.lt; exact ⟨by omega, by omega⟩
  have hcc : Chg (fun x => x = ob) w2 (w2.setCell ⟨ob, 0, none⟩ (.slice A2 (xs.length + 1) c2)) := (Chg.refl (fun x => x = ob) w2).put (p := ⟨ob, 0, none⟩) (.inl rfl) _
  refine ⟨hk2, ⟨⟨A2, c2, ?_, ?_, hA2⟩, h4⟩, ?_⟩
  · rw [List.length_append]; exact hk2.put 0 (.slice A2 (xs.length + 1) c2)
  · rw [uv_app, List.length_append]; exact ho.chg hcc fun x _ hx e => (hA2 x hx).2 e
  · exact (((Chg.of_below hb (fun x => B ≤ x)).trans hc fun x _ hx => (h3 x hx).1).trans hcc fun x _ e => by rw [e]; exact h4).below (fun x hx => hx) hB
theorem OutN.ret {w w' : World} {ob : Nat} {l : List Nat} (h : OutN w.heap.size ob w' l) (hb : Below w.heap.size w w') : ∃ A c, w'.cell? ⟨ob, 0, none⟩ = some (.slice A l.length c) ∧ ob < w'.heap.size ∧ RetNums l w (.returned (.slice A l.length c)) w' := by
  obtain ⟨⟨A, c, h1, h2, h3⟩, h4⟩ := h
  exact ⟨A, c, by have := h1.cell 0; simpa using this, h1.lt, A, c, rfl, h2, fun k hk => (h3 k hk).1, hb⟩
set_option maxRecDepth 100000 in
theorem take_any (B ob n : Nat) (b : Bool) (w : World) (xs ys : List Nat) (hB : B ≤ w.heap.size) (hlen : xs.length < 1000000) (hI : OutN B ob w xs) (hy : ys = xs ++ if b = true then [n] else []) :
    Calls Try.prog 168 #[.int .u32 n, .bool b, .pointer (some ⟨ob, 0, none⟩)] w fun e w' => e = .returned (.tuple #[]) ∧ OutN B ob w' ys ∧ Below B w w' := by
  rcases b with _ | _
  · rw [if_neg (by simp), List.append_nil] at hy
    have HI : Hid (OutN B ob w ys) := by rw [hy]; exact hI
    clear hI hy hlen hB
    go_enter Try.func168, Try.ntmps168
    go_wp2_with fail
    exact bodyPost_end (results_none rfl _ _ _) rfl ⟨rfl, HI.out, Below.refl _ _⟩
  · rw [if_pos rfl] at hy
    obtain ⟨⟨A, c, h1, h2, h3⟩, h4⟩ := hI
    obtain ⟨i0, hi, hz0, hz1, hz2⟩ := info_parts info_u32
    have q0 := h1.cell 0
    have lo := h1.lt
    have HB0 : Hid (Below w.heap.size w (w.alloc (.cells #[.int .u32 (n : Int)] 22))) := (Below.refl _ _).alloc (Nat.le_refl _) _
    have HO := Lib.hid (h2.bel HB0.out)
    have HN : Hid (Rg (w.alloc (.cells #[.int .u32 (n : Int)] 22)) (fun k => k = w.heap.size) 1 (some ⟨w.heap.size, 0, none⟩) 1 [.int .u32 (n : Int)]) := Rg.new w 22 1 1 #[.int .u32 (n : Int)] rfl
    have HX := Lib.hid (fun A2 c2 w2 (ho : foot.Own w2 22 1 A2 (xs.length + 1) c2 _) hc hf => OutN.next (n := n) h1 h3 h4 hB HB0.out ho hc hf)
    simp at q0
    have Hi := Lib.hid hi
    have Hz0 := Lib.hid hz0
    have Hz1 := Lib.hid hz1
    have Hz2 := Lib.hid hz2
    have HY := Lib.hid hy
    clear h1 h2 h3 h4 hB hi hz0 hz1 hz2 hy
    go_enter Try.func168, Try.ntmps168
    go_wp2_with (at_builtin; refine wpList_app _ rfl (.tmp 6) (.tmp 8) _ rfl 22 i0 _ 1 4 Try.underlying67 Hi.out Hz0.out Hz1.out Hz2.out rfl (by omega) A xs.length c (uv xs) rfl HO.out _ (some ⟨w.heap.size, 0, none⟩) 1 1 (by intro h; cases h) [.int .u32 (n : Int)] rfl HN.out (by intro u hu; simp at hu; rw [hu]; rfl) (by unfold maxLen; omega) (by omega) ?_; intro A2 c2 w2 ho2 hc2 hf2; have HX2 := Lib.hid (HX.out A2 c2 w2 ho2 hc2 hf2); have k0 := HX2.out.1.cell 0; have kf := HX2.out.1.free 0; simp at k0; clear ho2 hc2 hf2)
    refine bodyPost_end (results_none rfl _ _ _) rfl ⟨rfl, by rw [HY.out]; exact HX2.out.2.1, HX2.out.2.2⟩
theorem mg_nil_l (L R T : Bool) (b : List Nat) : mg L R T [] b = if R = true then b else [] := by unfold mg; rfl
theorem mg_nil_r (L R T : Bool) (a : List Nat) : mg L R T a [] = if L = true then a else [] := by
  rcases a with _ | ⟨x, a⟩
  · rw [mg_nil_l]; simp
  · unfold mg; rfl
theorem mg_lt (L R T : Bool) {x y : Nat} (h : x < y) (a b : List Nat) : mg L R T (x :: a) (y :: b) = (if L = true then [x] else []) ++ mg L R T a (y :: b) := by
  conv => lhs; unfold mg
  rw [if_pos h]
theorem mg_gt (L R T : Bool) {x y : Nat} (h : y < x) (a b : List Nat) : mg L R T (x :: a) (y :: b) = (if R = true then [y] else []) ++ mg L R T (x :: a) b := by
  conv => lhs; unfold mg
  rw [if_neg (by omega), if_pos h]
theorem mg_eq (L R T : Bool) (x : Nat) (a b : List Nat) : mg L R T (x :: a) (x :: b) = (if T = true then [x] else []) ++ mg L R T a b := by
  conv => lhs; unfold mg
  rw [if_neg (by omega), if_neg (by omega)]
theorem one_len (b : Bool) (n : Nat) : (if b = true then [n] else ([] : List Nat)).length ≤ 1 := by cases b <;> simp
/-- what is left, taken or not -/
def kp (b : Bool) (l : List Nat) : List Nat := if b = true then l else []
theorem kp_succ (b : Bool) {l : List Nat} {i : Nat} (h : i < l.length) : kp b (l.take (i + 1)) = kp b (l.take i) ++ if b = true then [l[i]] else [] := by
  unfold kp
  cases b
  · simp
  · simp only [if_true]; exact List.take_succ_eq_append_getElem h
theorem kp_nil (b : Bool) : kp b [] = [] := by unfold kp; split <;> rfl
theorem kp_len (b : Bool) (l : List Nat) : (kp b l).length ≤ l.length := by unfold kp; split <;> simp
set_option maxRecDepth 100000 in
set_option maxHeartbeats 4000000 in
theorem merged_any (L R T : Bool) (A C : Option Addr) (c d : Nat) (a b : List Nat) (G H : Foot) (w : World) (hl : a.length + b.length < 1000000) (h1 : Sn w G A c a) (h2 : Sn w H C d b) :
    Calls Try.prog 147 #[.slice A a.length c, .slice C b.length d, .bool L, .bool R, .bool T] w (RetNums (mg L R T a b) w) := by
  have H1 := Lib.hid h1
  have H2 := Lib.hid h2
  have HT : Hid (∀ (n : Nat) (k : Bool) (w' : World) (xs ys : List Nat), w.heap.size ≤ w'.heap.size → xs.length < 1000000 → OutN w.heap.size w.heap.size w' xs → ys = xs ++ (if k = true then [n] else []) → Calls Try.prog 168 #[.int .u32 n, .bool k, .pointer (some ⟨w.heap.size, 0, none⟩)] w' fun e w2 => e = .returned (.tuple #[]) ∧ OutN w.heap.size w.heap.size w2 ys ∧ Below w.heap.size w' w2) := fun n k w' xs ys => take_any w.heap.size w.heap.size n k w' xs ys
  have HO0 := Lib.hid (OutN.start w w.heap.size (Nat.le_refl _))
  have HB0 : Hid (Below w.heap.size w (w.alloc (.cells #[.slice none 0 0] 67))) := (Below.refl _ _).alloc (Nat.le_refl _) _
  have HQ : Hid (∀ (ys : List Nat) (w' : World), ys = mg L R T a b → OutN w.heap.size w.heap.size w' ys → Below w.heap.size w w' → ∃ A c, w'.cell? ⟨w.heap.size, 0, none⟩ = some (.slice A ys.length c) ∧ w.heap.size < w'.heap.size ∧ RetNums (mg L R T a b) w (.returned (.slice A ys.length c)) w') := fun ys w' e ho hb => by
    obtain ⟨A, c, h1, h2, h3⟩ := ho.ret hb
    exact ⟨A, c, h1, h2, by rw [← e]; exact h3⟩
  obtain ⟨Q, hQ⟩ : ∃ Q, Q = RetNums (mg L R T a b) w := ⟨_, rfl⟩
  rw [← hQ] at HQ ⊢
  clear h1 h2 hQ
  obtain ⟨w1, hw1⟩ : ∃ w1, w1 = w.alloc (.cells #[.slice none 0 0] 67) := ⟨_, rfl⟩
  rw [← hw1] at HO0 HB0
  go_enter Try.func147, Try.ntmps147
  go_wp2_with fail
  rw [← hw1]
  clear hw1
  go_loopw [0, 1] (fun v0 v1 wr => ∃ (a' b' : List Nat) (Aa Ab : Option Addr) (ca cb : Nat) (xs : List Nat), v0 = .slice Aa a'.length ca ∧ v1 = .slice Ab b'.length cb ∧ Sn w G Aa ca a' ∧ Sn w H Ab cb b' ∧ OutN w.heap.size w.heap.size wr xs ∧ Below w.heap.size w wr ∧ mg L R T a b = xs ++ mg L R T a' b' ∧ xs.length + a'.length + b'.length ≤ a.length + b.length) (fun v0 v1 _ => (match v0 with | .slice _ n _ => n | _ => 0) + (match v1 with | .slice _ n _ => n | _ => 0))
  case atStart => exact ⟨a, b, A, C, c, d, [], rfl, rfl, H1.out, H2.out, HO0.out, HB0.out, rfl, by simp⟩
  case round =>
    obtain ⟨a', b', Aa, Ab, ca, cb, xs, rfl, rfl, s1, s2, ho, hb, hm, hn⟩ := hrel
    have HO := Lib.hid ho
    have HB := Lib.hid hb
    have HM := Lib.hid hm
    clear ho hb hm
    by_cases he : a'.length = 0 ∨ b'.length = 0
    · have HM2 : Hid (mg L R T a b = (xs ++ kp L a') ++ kp R b') := by
        rw [Hid, HM.out, List.append_assoc]
        congr 1
        rcases he with h | h
        · obtain rfl := List.length_eq_zero_iff.1 h
          rw [mg_nil_l, kp_nil]; rfl
        · obtain rfl := List.length_eq_zero_iff.1 h
          rw [mg_nil_r, kp_nil, List.append_nil]; rfl
      have S1 := Lib.hid s1
      have S2 := Lib.hid s2
      have HTk : Hid (∀ (k : Bool) (n : Nat) (w' : World) (ys : List Nat), ys.length < 1000000 → Below w.heap.size w w' → OutN w.heap.size w.heap.size w' ys → Calls Try.prog 168 #[.int .u32 n, .bool k, .pointer (some ⟨w.heap.size, 0, none⟩)] w' fun e w2 => e = .returned (.tuple #[]) ∧ OutN w.heap.size w.heap.size w2 (ys ++ kp k [n]) ∧ Below w.heap.size w' w2) := fun k n w' ys hy hb ho => HT.out n k w' ys _ hb.size hy ho rfl
      have HLn : Hid (∀ i j, (xs ++ kp L (a'.take i) ++ kp R (b'.take j)).length < 1000000) := fun i j => by
        have h1 := kp_len L (a'.take i)
        have h2 := kp_len R (b'.take j)
        have h3 : (a'.take i).length ≤ a'.length := (List.take_sublist i a').length_le
        have h4 : (b'.take j).length ≤ b'.length := (List.take_sublist j b').length_le
        simp only [List.length_append]
        omega
      have hd : (¬ 0 < a'.length) ∨ (0 < a'.length ∧ ¬ 0 < b'.length) := by omega
      clear s1 s2 he
      rcases hd with h | ⟨h, h2⟩
      case' inl =>
        have d1 : decide ((0 : Int) < (a'.length : Int)) = false := by rw [decide_eq_false_iff_not]; omega
        go_wp2_with fail
      case' inr =>
        have d1 : decide ((0 : Int) < (a'.length : Int)) = true := by rw [decide_eq_true_iff]; omega
        have d2 : decide ((0 : Int) < (b'.length : Int)) = false := by rw [decide_eq_false_iff_not]; omega
        go_wp2_with fail
      all_goals
        go_loopw [70] (fun v70 wq => ∃ i : Nat, i ≤ a'.length ∧ v70 = .int .i64 i ∧ OutN w.heap.size w.heap.size wq (xs ++ kp L (a'.take i)) ∧ Below w.heap.size w wq) (fun v70 _ => a'.length - (intOf v70).toNat)
        case atStart => exact ⟨0, by omega, rfl, by rw [List.take_zero, kp_nil, List.append_nil]; exact HO.out, HB.out⟩
        case round =>
          obtain ⟨i, hi, rfl, ho, hb⟩ := hrel
          have HOi := Lib.hid ho
          have HBi := Lib.hid hb
          clear ho hb
          by_cases hlt : i < a'.length
          · obtain ⟨p1, o1, rfl, l1, c1⟩ := S1.out.at_ hlt
            have q1 := (HBi.out.cell (p := ⟨p1, o1 + i, none⟩) l1).trans c1
            have HTq := Lib.hid (HTk.out L a'[i] _ (xs ++ kp L (a'.take i)) (by have := HLn.out i 0; rwa [List.take_zero, kp_nil, List.append_nil] at this) HBi.out HOi.out)
            have HKs : Hid (xs ++ kp L (a'.take (i + 1)) = xs ++ kp L (a'.take i) ++ kp L [a'[i]]) := by rw [Hid, kp_succ L hlt, List.append_assoc]; rfl
            clear c1 l1
            generalize a'[i] = x at *
            go_wp2_with (go_at_call 168; refine HTq.out.mono ?_; rintro e w2 ⟨rfl, ho2, hb2⟩; have HOz := Lib.hid ho2; have HBz := Lib.hid (HBi.out.trans hb2); clear ho2 hb2)
            go_roundw
            case rel => exact ⟨i + 1, by omega, by go_num, by rw [HKs.out]; exact HOz.out, HBz.out⟩
            case measure => simp [intOf]; omega
          · obtain rfl : i = a'.length := by omega
            rw [List.take_length] at HOi
            go_wp2_with fail
            go_loopw [81] (fun v81 wq => ∃ i : Nat, i ≤ b'.length ∧ v81 = .int .i64 i ∧ OutN w.heap.size w.heap.size wq (xs ++ kp L a' ++ kp R (b'.take i)) ∧ Below w.heap.size w wq) (fun v81 _ => b'.length - (intOf v81).toNat)
            case atStart => exact ⟨0, by omega, rfl, by rw [List.take_zero, kp_nil, List.append_nil]; exact HOi.out, HBi.out⟩
            case round =>
              obtain ⟨i, hi, rfl, ho, hb⟩ := hrel
              have HOj := Lib.hid ho
              have HBj := Lib.hid hb
              clear ho hb
              by_cases hlt : i < b'.length
              · obtain ⟨p1, o1, rfl, l1, c1⟩ := S2.out.at_ hlt
                have q1 := (HBj.out.cell (p := ⟨p1, o1 + i, none⟩) l1).trans c1
                have HTq := Lib.hid (HTk.out R b'[i] _ (xs ++ kp L a' ++ kp R (b'.take i)) (by have := HLn.out a'.length i; rwa [List.take_length] at this) HBj.out HOj.out)
                have HKs : Hid (xs ++ kp L a' ++ kp R (b'.take (i + 1)) = xs ++ kp L a' ++ kp R (b'.take i) ++ kp R [b'[i]]) := by rw [Hid, kp_succ R hlt]; simp only [List.append_assoc]; rfl
                clear c1 l1
                generalize b'[i] = x at *
                go_wp2_with (go_at_call 168; refine HTq.out.mono ?_; rintro e w2 ⟨rfl, ho2, hb2⟩; have HOz := Lib.hid ho2; have HBz := Lib.hid (HBj.out.trans hb2); clear ho2 hb2)
                go_roundw
                case rel => exact ⟨i + 1, by omega, by go_num, by rw [HKs.out]; exact HOz.out, HBz.out⟩
                case measure => simp [intOf]; omega
              · obtain rfl : i = b'.length := by omega
                rw [List.take_length] at HOj
                obtain ⟨Az, cz, z0, zl, hz⟩ := HQ.out _ _ HM2.out.symm HOj.out HBj.out
                generalize (xs ++ kp L a' ++ kp R b').length = nz at z0 hz
                have HZ := Lib.hid hz
                clear hz
                go_wp2_with fail
                exact HZ.out
    · rcases a' with _ | ⟨x, a'⟩
      · exact absurd (.inl rfl) he
      rcases b' with _ | ⟨y, b'⟩
      · exact absurd (.inr rfl) he
      clear he
      obtain ⟨p1, o1, rfl, l1, c1⟩ := s1.at_ (i := 0) (by simp)
      obtain ⟨p2, o2, rfl, l2, c2⟩ := s2.at_ (i := 0) (by simp)
      have t3 := s1.tl
      have t4 := s2.tl
      have HC : Hid (∀ w', Below w.heap.size w w' → w'.cell? ⟨p1, o1, none⟩ = some (.int .u32 (x : Int)) ∧ w'.cell? ⟨p2, o2, none⟩ = some (.int .u32 (y : Int))) := fun w' hb => ⟨by have := (hb.cell (p := ⟨p1, o1 + 0, none⟩) l1).trans c1; simpa using this, by have := (hb.cell (p := ⟨p2, o2 + 0, none⟩) l2).trans c2; simpa using this⟩
      simp only [List.length_cons] at hn
      have S1 := Lib.hid s1
      have S2 := Lib.hid s2
      have S3 := Lib.hid t3
      have S4 := Lib.hid t4
      simp only [List.length_cons]
      have HTk : Hid (∀ (k : Bool) (n : Nat) (w' : World), Below w.heap.size w w' → OutN w.heap.size w.heap.size w' xs → Calls Try.prog 168 #[.int .u32 n, .bool k, .pointer (some ⟨w.heap.size, 0, none⟩)] w' fun e w2 => e = .returned (.tuple #[]) ∧ OutN w.heap.size w.heap.size w2 (xs ++ kp k [n]) ∧ Below w.heap.size w' w2) := fun k n w' hb ho => HT.out n k w' xs _ hb.size (by omega) ho rfl
      have HLn : Hid (∀ k n, (xs ++ kp k [n]).length ≤ xs.length + 1) := fun k n => by have := kp_len k [n]; rw [List.length_append]; simp at this; omega
      clear s1 s2 t3 t4 c1 c2
      rcases Nat.lt_trichotomy x y with hxy | hxy | hxy
      · have HM2 : Hid (mg L R T a b = (xs ++ kp L [x]) ++ mg L R T a' (y :: b')) := by rw [Hid, HM.out, mg_lt L R T hxy, List.append_assoc]; rfl
        obtain ⟨q1, q2⟩ := HC.out _ HB.out
        have hlx := HLn.out L x
        go_wp2_with fail
        go_quiet (fail)
        obtain ⟨wq, hwq⟩ : ∃ wq, wq = wr.drewN nq := ⟨_, rfl⟩
        have HB1 : Hid (Below w.heap.size w wq) := by rw [hwq]; exact below_drewN HB.out _
        have HO1 : Hid (OutN w.heap.size w.heap.size wq xs) := by rw [hwq]; exact HO.out.bel (below_drewN (Below.refl _ _) _)
        obtain ⟨q1, q2⟩ := HC.out _ HB1.out
        rw [← hwq]
        clear hwq nq
        have HTq := Lib.hid (HTk.out L x wq HB1.out HO1.out)
        go_wp2_with (go_at_call 168; refine HTq.out.mono ?_; rintro e w2 ⟨rfl, ho2, hb2⟩; have HOz := Lib.hid ho2; have HBz := Lib.hid (HB1.out.trans hb2); clear ho2 hb2)
        go_roundw
        case rel => exact ⟨a', y :: b', _, _, _, _, _, by first | rfl | simp, by first | rfl | simp, S3.out, S2.out, HOz.out, HBz.out, HM2.out, by first | omega | (simp only [List.length_cons]; omega)⟩
        case measure => first | (simp; done) | (simp; omega)
      · subst hxy
        have HM2 : Hid (mg L R T a b = (xs ++ kp T [x]) ++ mg L R T a' b') := by rw [Hid, HM.out, mg_eq L R T x, List.append_assoc]; rfl
        obtain ⟨q1, q2⟩ := HC.out _ HB.out
        have hlx := HLn.out T x
        go_wp2_with fail
        go_quiet (fail)
        obtain ⟨wq, hwq⟩ : ∃ wq, wq = wr.drewN nq := ⟨_, rfl⟩
        have HB1 : Hid (Below w.heap.size w wq) := by rw [hwq]; exact below_drewN HB.out _
        have HO1 : Hid (OutN w.heap.size w.heap.size wq xs) := by rw [hwq]; exact HO.out.bel (below_drewN (Below.refl _ _) _)
        obtain ⟨q1, q2⟩ := HC.out _ HB1.out
        rw [← hwq]
        clear hwq nq
        go_wp2_with fail
        go_quiet (fail)
        obtain ⟨wq2, hwq⟩ : ∃ wq2, wq2 = wq.drewN nq := ⟨_, rfl⟩
        have HB2 : Hid (Below w.heap.size w wq2) := by rw [hwq]; exact below_drewN HB1.out _
        have HO2 : Hid (OutN w.heap.size w.heap.size wq2 xs) := by rw [hwq]; exact HO1.out.bel (below_drewN (Below.refl _ _) _)
        obtain ⟨q1, q2⟩ := HC.out _ HB2.out
        rw [← hwq]
        clear hwq nq
        have HTq := Lib.hid (HTk.out T x wq2 HB2.out HO2.out)
        go_wp2_with (go_at_call 168; refine HTq.out.mono ?_; rintro e w2 ⟨rfl, ho2, hb2⟩; have HOz := Lib.hid ho2; have HBz := Lib.hid (HB2.out.trans hb2); clear ho2 hb2)
        go_quiet (fail)
        have HBy : Hid (Below w.heap.size w (w2.drewN nq)) := below_drewN HBz.out _
        have HOy : Hid (OutN w.heap.size w.heap.size (w2.drewN nq) _) := HOz.out.bel (below_drewN (Below.refl _ _) _)
        go_wp2_with fail
        go_roundw
        case rel => exact ⟨a', b', _, _, _, _, _, by first | rfl | simp, by first | rfl | simp, S3.out, S4.out, HOy.out, HBy.out, HM2.out, by first | omega | (simp only [List.length_cons]; omega)⟩
        case measure => first | (simp; done) | (simp; omega)
      · have HM2 : Hid (mg L R T a b = (xs ++ kp R [y]) ++ mg L R T (x :: a') b') := by rw [Hid, HM.out, mg_gt L R T hxy, List.append_assoc]; rfl
        obtain ⟨q1, q2⟩ := HC.out _ HB.out
        have hlx := HLn.out R y
        have hyx : ¬ x < y := by omega
        go_wp2_with fail
        go_quiet (fail)
        obtain ⟨wq, hwq⟩ : ∃ wq, wq = wr.drewN nq := ⟨_, rfl⟩
        have HB1 : Hid (Below w.heap.size w wq) := by rw [hwq]; exact below_drewN HB.out _
        have HO1 : Hid (OutN w.heap.size w.heap.size wq xs) := by rw [hwq]; exact HO.out.bel (below_drewN (Below.refl _ _) _)
        obtain ⟨q1, q2⟩ := HC.out _ HB1.out
        rw [← hwq]
        clear hwq nq
        go_wp2_with fail
        go_quiet (fail)
        obtain ⟨wq2, hwq⟩ : ∃ wq2, wq2 = wq.drewN nq := ⟨_, rfl⟩
        have HB2 : Hid (Below w.heap.size w wq2) := by rw [hwq]; exact below_drewN HB1.out _
        have HO2 : Hid (OutN w.heap.size w.heap.size wq2 xs) := by rw [hwq]; exact HO1.out.bel (below_drewN (Below.refl _ _) _)
        obtain ⟨q1, q2⟩ := HC.out _ HB2.out
        rw [← hwq]
        clear hwq nq
        have HTq := Lib.hid (HTk.out R y wq2 HB2.out HO2.out)
        go_wp2_with (go_at_call 168; refine HTq.out.mono ?_; rintro e w2 ⟨rfl, ho2, hb2⟩; have HOz := Lib.hid ho2; have HBz := Lib.hid (HB2.out.trans hb2); clear ho2 hb2)
        go_roundw
        case rel => exact ⟨x :: a', b', _, _, _, _, _, by first | rfl | simp, by first | rfl | simp, S1.out, S4.out, HOz.out, HBz.out, HM2.out, by first | omega | (simp only [List.length_cons]; omega)⟩
        case measure => first | (simp; done) | (simp; omega)
theorem Union_any (A C : Option Addr) (c d : Nat) (a b : List Nat) (G H : Foot) (w : World) (hl : a.length + b.length < 1000000) (h1 : Sn w G A c a) (h2 : Sn w H C d b) :
    Calls Try.prog 148 #[.slice A a.length c, .slice C b.length d] w (RetNums (mg true true true a b) w) := by
  have HA := Lib.hid (merged_any true true true A C c d a b G H w hl h1 h2)
  have HF : Hid (∀ e w', RetNums (mg true true true a b) w e w' → ∃ A n c, e = .returned (.slice A n c)) := fun e w' => by
    rintro ⟨A, c, rfl, _⟩
    exact ⟨A, _, c, rfl⟩
  obtain ⟨Q, hQ⟩ : ∃ Q, Q = RetNums (mg true true true a b) w := ⟨_, rfl⟩
  rw [← hQ] at HA HF ⊢
  clear hQ hl h1 h2
  go_enter Try.func148, Try.ntmps148
  go_wp2_with (go_at_call 147; refine HA.out.mono ?_; rintro e w' hp; go_must (obtain ⟨A', n, c', rfl⟩ := HF.out e w' hp); have HP := Lib.hid hp; clear hp)
  exact HP.out
theorem Minus_any (A C : Option Addr) (c d : Nat) (a b : List Nat) (G H : Foot) (w : World) (hl : a.length + b.length < 1000000) (h1 : Sn w G A c a) (h2 : Sn w H C d b) :
    Calls Try.prog 101 #[.slice A a.length c, .slice C b.length d] w (RetNums (mg true false false a b) w) := by
  have HA := Lib.hid (merged_any true false false A C c d a b G H w hl h1 h2)
  have HF : Hid (∀ e w', RetNums (mg true false false a b) w e w' → ∃ A n c, e = .returned (.slice A n c)) := fun e w' => by
    rintro ⟨A, c, rfl, _⟩
    exact ⟨A, _, c, rfl⟩
  obtain ⟨Q, hQ⟩ : ∃ Q, Q = RetNums (mg true false false a b) w := ⟨_, rfl⟩
  rw [← hQ] at HA HF ⊢
  clear hQ hl h1 h2
  go_enter Try.func101, Try.ntmps101
  go_wp2_with (go_at_call 147; refine HA.out.mono ?_; rintro e w' hp; go_must (obtain ⟨A', n, c', rfl⟩ := HF.out e w' hp); have HP := Lib.hid hp; clear hp)
  exact HP.out
end Go.Proofs.Ytafepficapdepaa.asn
