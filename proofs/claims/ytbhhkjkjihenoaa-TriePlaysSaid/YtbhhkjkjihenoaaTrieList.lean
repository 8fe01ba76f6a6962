/- What a tree's All, Below, Count return. Conditions as each lemma states. -/
import Derived.Test.YtbhhkjkjihenoaaTrieLook
import Derived.Test.YtbhhkjkjihenoaaPre
namespace Go.Proofs.Ytbhhkjkjihenoaa.tri
open Go.RowKit Go.Proofs.Ytbhhkjkjihenoaa.kit Go.Proofs.Ytbhhkjkjihenoaa.mem Go.Proofs.Ytbhhkjkjihenoaa.foot Go.Proofs.Ytbhhkjkjihenoaa.pfx
set_option linter.unusedVariables false
set_option linter.unusedSimpArgs false

/-- a key as a prefix's two numbers -/
def pk (k : Key) : Nat × Int := (adr k, (k.length : Int))
def kv (l : List Key) : List Value := pv (l.map pk)
theorem kv_snoc (l : List Key) (k : Key) : kv (l ++ [k]) = kv l ++ [.int .u32 (adr k : Int), .int .i64 (k.length : Int)] := by simp [kv, pv_app, pv, pk]
theorem kv_len (l : List Key) : (kv l).length = l.length * 2 := by unfold kv; rw [pv_len]; simp
theorem info_pfx : (Try.prog.info? 30).map (fun i => (i.zero, i.size, i.bytes)) = some (some (.agg #[.int .u32 0, .int .i64 0]), 2, 16) := by kernel_rfl
/-- the variable in block ob holds a slice of these -/
structure OutI (B ob : Nat) (w : World) (xs : List Key) : Prop where
  ex : ∃ A c, Bk w ob 36 #[.slice A xs.length c] ∧ Own w 30 2 A xs.length c (kv xs) ∧ ∀ x, sf A x → B ≤ x ∧ x ≠ ob
  lo : B ≤ ob
theorem OutI.start (w : World) (B : Nat) (hB : B ≤ w.heap.size) : OutI B w.heap.size (w.alloc (.cells #[.slice none 0 0] 36)) [] :=
  ⟨⟨none, 0, Bk.new w _ _, Own.none_ _ _ _, fun x hx => absurd hx (sf_none x)⟩, hB⟩
theorem OutI.drewN {B ob : Nat} {w : World} {xs : List Key} (h : OutI B ob w xs) (n : Nat) : OutI B ob (w.drewN n) xs := by
  obtain ⟨⟨A, c, h1, h2, h3⟩, h4⟩ := h
  exact ⟨⟨A, c, h1.drewN n, h2.bel (below_drewN (Below.refl _ _) n), h3⟩, h4⟩
theorem OutI.next {B ob : Nat} {w w0 w2 : World} {xs : List Key} {p : Key} {A A2 : Option Addr} {c c2 : Nat} (h1 : Bk w ob 36 #[.slice A xs.length c]) (h3 : ∀ x, sf A x → B ≤ x ∧ x ≠ ob) (h4 : B ≤ ob) (hB : B ≤ w.heap.size) (hb : Below w.heap.size w w0)
    (ho : Own w2 30 2 A2 (xs.length + 1) c2 (kv xs ++ [.int .u32 (adr p : Int), .int .i64 (p.length : Int)])) (hc : Chg (sf A) w0 w2) (hf : Fresh w0 (sf A) (sf A2)) :
    Bk w2 ob 36 #[.slice A xs.length c] ∧ OutI B ob (w2.setCell ⟨ob, 0, none⟩ (.slice A2 (xs.length + 1) c2)) (xs ++ [p]) ∧ Below B w (w2.setCell ⟨ob, 0, none⟩ (.slice A2 (xs.length + 1) c2)) := by
  have hk2 : Bk w2 ob 36 #[.slice A xs.length c] := (h1.below hb h1.lt).chg hc fun e => (h3 ob e).2 rfl
  have hsz := hb.size
  have hA2 : ∀ x, sf A2 x → B ≤ x ∧ x ≠ ob := fun x hx => by
    rcases hf x hx with e | e
    · exact h3 x e
    · have := h1.lt; exact ⟨by omega, by omega⟩
  have hcc : Chg (fun x => x = ob) w2 (w2.setCell ⟨ob, 0, none⟩ (.slice A2 (xs.length + 1) c2)) := (Chg.refl (fun x => x = ob) w2).put (p := ⟨ob, 0, none⟩) (.inl rfl) _
  refine ⟨hk2, ⟨⟨A2, c2, ?_, ?_, hA2⟩, h4⟩, ?_⟩
  · rw [List.length_append]; exact hk2.put 0 (.slice A2 (xs.length + 1) c2)
  · rw [kv_snoc, List.length_append]; exact ho.chg hcc fun x _ hx e => (hA2 x hx).2 e
  · exact (((Chg.of_below hb (fun x => B ≤ x)).trans hc fun x _ hx => (h3 x hx).1).trans hcc fun x _ e => by rw [e]; exact h4).below (fun x hx => hx) hB

set_option maxRecDepth 100000 in
theorem all1_any (B ob : Nat) (p : Key) (w : World) (xs : List Key) (hB : B ≤ w.heap.size) (hlen : xs.length < 1000000) (hI : OutI B ob w xs) :
    Calls Try.prog 76 #[.agg #[.int .u32 (adr p), .int .i64 p.length], .pointer (some ⟨ob, 0, none⟩)] w fun e w' => e = .returned (.tuple #[]) ∧ OutI B ob w' (xs ++ [p]) ∧ Below B w w' := by
  obtain ⟨⟨A, c, h1, h2, h3⟩, h4⟩ := hI
  obtain ⟨i0, hi, hz0, hz1, hz2⟩ := info_parts info_pfx
  have q0 := h1.cell 0
  have lo := h1.lt
  have HB0 : Hid (Below w.heap.size w ((w.alloc (.cells #[.int .u32 (adr p : Int), .int .i64 (p.length : Int)] 30)).alloc (.cells #[.int .u32 (adr p : Int), .int .i64 (p.length : Int)] 30))) := Go.Joins.below_alloc2 w _ _
  have HO := Lib.hid (h2.bel HB0.out)
  have HN : Hid (Rg ((w.alloc (.cells #[.int .u32 (adr p : Int), .int .i64 (p.length : Int)] 30)).alloc (.cells #[.int .u32 (adr p : Int), .int .i64 (p.length : Int)] 30)) (fun k => k = w.heap.size + 1) 2 (some ⟨w.heap.size + 1, 0, none⟩) 1 [.int .u32 (adr p : Int), .int .i64 (p.length : Int)]) := by
    have := Rg.new (w.alloc (.cells #[.int .u32 (adr p : Int), .int .i64 (p.length : Int)] 30)) 30 2 1 #[.int .u32 (adr p : Int), .int .i64 (p.length : Int)] rfl
    rw [show (w.alloc (.cells #[.int .u32 (adr p : Int), .int .i64 (p.length : Int)] 30)).heap.size = w.heap.size + 1 from by simp] at this
    exact this
  have HX := Lib.hid (fun A2 c2 w2 (ho : Own w2 30 2 A2 (xs.length + 1) c2 _) hc hf => OutI.next (p := p) h1 h3 h4 hB HB0.out ho hc hf)
  simp at q0
  have Hi := Lib.hid hi
  have Hz0 := Lib.hid hz0
  have Hz1 := Lib.hid hz1
  have Hz2 := Lib.hid hz2
  clear h1 h2 h3 h4 hB hi hz0 hz1 hz2
  go_enter Try.func76, Try.ntmps76
  go_wp2_with (at_builtin; refine wpList_app _ rfl (.tmp 3) (.tmp 5) _ rfl 30 i0 _ 2 16 Try.underlying36 Hi.out Hz0.out Hz1.out Hz2.out rfl (by omega) A xs.length c (kv xs) rfl HO.out _ (some ⟨w.heap.size + 1, 0, none⟩) 1 1 (by intro h; cases h) [.int .u32 (adr p : Int), .int .i64 (p.length : Int)] rfl HN.out (by intro u hu; simp at hu; rcases hu with rfl | rfl <;> rfl) (by unfold maxLen; omega) (by omega) ?_; intro A2 c2 w2 ho2 hc2 hf2; have HX2 := Lib.hid (HX.out A2 c2 w2 ho2 hc2 hf2); have k0 := HX2.out.1.cell 0; have kf := HX2.out.1.free 0; simp at k0; clear ho2 hc2 hf2)
  refine bodyPost_end (results_none rfl _ _ _) rfl ⟨rfl, HX2.out.2.1, HX2.out.2.2⟩

/-- a new slice of keys handed back -/
def RetKeys (l : List Key) (w : World) (e : Ending) (w' : World) : Prop := ∃ A c, e = .returned (.slice A l.length c) ∧ NewSl 2 l.length (kv l) w A c w'
theorem fold_all : ∀ (l : List (Key × Int)) (xs : List Key), l.foldl (fun xs r => xs ++ [r.1]) xs = xs ++ l.map (·.1)
  | [], xs => by simp
  | r :: l, xs => by rw [List.foldl_cons, fold_all l]; simp
theorem OutI.ret {B ob : Nat} {w w' : World} {l : List Key} (h : OutI B ob w' l) (hB : B = w.heap.size) (hb : Below w.heap.size w w') : ∃ A c, w'.cell? ⟨ob, 0, none⟩ = some (.slice A l.length c) ∧ RetKeys l w (.returned (.slice A l.length c)) w' := by
  obtain ⟨⟨A, c, h1, h2, h3⟩, h4⟩ := h
  refine ⟨A, c, by have := h1.cell 0; simpa using this, A, c, rfl, h2.nil, h2.cap, h2.max, h2.rg.rd, hb, fun ad e => ?_⟩
  have := (h3 ad.block (by rw [e, sf_some])).1
  omega
set_option maxRecDepth 100000 in
theorem All_any {F : Foot} {tr : Nat} {t : T} (L : List Key) (w : World) (h : Tri w F tr t) (hc : t.cnt < 999990) (hL : L = t.rows.map (·.1)) : Calls Try.prog 23 #[.pointer (some ⟨tr, 0, none⟩)] w (RetKeys L w) := by
  have HLq := Lib.hid hL
  clear hL
  have HB0 : Hid (Below w.heap.size w (w.alloc (.cells #[.slice none 0 0] 36))) := (Below.refl _ _).alloc (Nat.le_refl _) _
  have HI := Lib.hid (OutI.start w w.heap.size (Nat.le_refl _))
  have hmf : ∀ (fn : Fn) (first cap : Array Value) (w : World), (Instr.makeFunc fn first cap).run Try.prog w = .ok (.func fn first cap) w := fun _ _ _ _ => rfl
  have HT := Lib.hid (top_any _ (h.bel HB0.out))
  have HL := Lib.hid h.lt
  clear h
  go_enter Try.func23, Try.ntmps23
  go_wp2_with fail
  refine HT.out.mono ?_; rintro e w' ⟨⟨A, G, rfl, _, hT, _, hG⟩, rfl⟩
  have HE := Lib.hid (each_all w.heap.size w.heap.size (OutI w.heap.size w.heap.size) (fun xs p => xs ++ [p]) (fun xs p => by simp) (fun p w1 xs hp hB hl hI => all1_any _ _ p w1 xs hB hl hI) t G A _ [] hT (fun x hx => HL.out x (hG x hx)) (by simp) (by simp; omega) HI.out)
  clear hT hG
  go_wp2_with fail
  refine HE.out.mono ?_; rintro e w2 ⟨rfl, hI2, hb2⟩
  rw [fold_all, List.nil_append, ← HLq.out] at hI2
  obtain ⟨A2, c2, q0, hR⟩ := hI2.ret rfl (HB0.out.trans hb2)
  have HR := Lib.hid hR
  clear hI2 hb2 hR
  go_wp2_with fail
  go_ret
  exact HR.out
theorem All_nil (w : World) : Calls Try.prog 23 #[.pointer none] w (RetKeys [] w) := by
  have HB0 : Hid (Below w.heap.size w (w.alloc (.cells #[.slice none 0 0] 36))) := (Below.refl _ _).alloc (Nat.le_refl _) _
  have HI := Lib.hid (OutI.start w w.heap.size (Nat.le_refl _))
  have hmf : ∀ (fn : Fn) (first cap : Array Value) (w : World), (Instr.makeFunc fn first cap).run Try.prog w = .ok (.func fn first cap) w := fun _ _ _ _ => rfl
  go_enter Try.func23, Try.ntmps23
  go_wp2_with fail
  refine (top_nil _).mono ?_; rintro e w' ⟨rfl, rfl⟩
  have HE := Lib.hid (each_all w.heap.size w.heap.size (OutI w.heap.size w.heap.size) (fun xs p => xs ++ [p]) (fun xs p => by simp) (fun p w1 xs hp hB hl hI => all1_any _ _ p w1 xs hB hl hI) .nil (fun _ => False) none _ [] rfl (fun x hx => hx.elim) (by simp) (by simp [T.cnt, T.rows]) HI.out)
  go_wp2_with fail
  refine HE.out.mono ?_; rintro e w2 ⟨rfl, hI2, hb2⟩
  obtain ⟨A2, c2, q0, hR⟩ := hI2.ret rfl (HB0.out.trans hb2)
  have HR := Lib.hid hR
  clear hI2 hb2 hR
  go_wp2_with fail
  go_ret
  exact HR.out


def diffB (a : Nat) (n : Int) (k : Key) : Bool := !(decide (adr k = a) && decide ((k.length : Int) = n))
def addB (a : Nat) (n : Int) (xs : List Key) (k : Key) : List Key := if diffB a n k = true then xs ++ [k] else xs
set_option maxRecDepth 100000 in
set_option maxHeartbeats 1000000 in
theorem below1_any (B ob pb : Nat) (a : Nat) (n : Int) (p : Key) (w : World) (xs : List Key) (hB : B ≤ w.heap.size) (hpb : pb < B) (hlen : xs.length < 1000000) (hI : OutI B ob w xs) (hbx : Bk w pb 30 #[.int .u32 (a : Int), .int .i64 n]) :
    Calls Try.prog 83 #[.agg #[.int .u32 (adr p), .int .i64 p.length], .pointer (some ⟨pb, 0, none⟩), .pointer (some ⟨ob, 0, none⟩)] w fun e w' => e = .returned (.tuple #[]) ∧ OutI B ob w' (addB a n xs p) ∧ Below B w w' := by
  have b0 := hbx.cell 0
  have b1 := hbx.cell 1
  have bl := hbx.lt
  simp at b0 b1
  by_cases hd : diffB a n p = true
  · have HS : Hid (addB a n xs p = xs ++ [p]) := by rw [Hid, addB, if_pos hd]
    have hkk : ((adr p : Int) == (a : Int)) = false ∨ (((adr p : Int) == (a : Int)) = true ∧ ((p.length : Int) == n) = false) := by
      by_cases ea : adr p = a
      · refine .inr ⟨by rw [ea]; simp, ?_⟩
        rw [beq_eq_false_iff_ne]
        intro e; simp [diffB, ea, e] at hd
      · exact .inl (by rw [beq_eq_false_iff_ne]; omega)
    obtain ⟨⟨A, c, h1, h2, h3⟩, h4⟩ := hI
    obtain ⟨i0, hi, hz0, hz1, hz2⟩ := info_parts info_pfx
    have q0 := h1.cell 0
    have lo := h1.lt
    have HB0 : Hid (Below w.heap.size w ((w.alloc (.cells #[.int .u32 (adr p : Int), .int .i64 (p.length : Int)] 30)).alloc (.cells #[.int .u32 (adr p : Int), .int .i64 (p.length : Int)] 30))) := Go.Joins.below_alloc2 w _ _
    have HO := Lib.hid (h2.bel HB0.out)
    have HN : Hid (Rg ((w.alloc (.cells #[.int .u32 (adr p : Int), .int .i64 (p.length : Int)] 30)).alloc (.cells #[.int .u32 (adr p : Int), .int .i64 (p.length : Int)] 30)) (fun k => k = w.heap.size + 1) 2 (some ⟨w.heap.size + 1, 0, none⟩) 1 [.int .u32 (adr p : Int), .int .i64 (p.length : Int)]) := by
      have := Rg.new (w.alloc (.cells #[.int .u32 (adr p : Int), .int .i64 (p.length : Int)] 30)) 30 2 1 #[.int .u32 (adr p : Int), .int .i64 (p.length : Int)] rfl
      rw [show (w.alloc (.cells #[.int .u32 (adr p : Int), .int .i64 (p.length : Int)] 30)).heap.size = w.heap.size + 1 from by simp] at this
      exact this
    have HX := Lib.hid (fun A2 c2 w2 (ho : Own w2 30 2 A2 (xs.length + 1) c2 _) hc hf => OutI.next (p := p) h1 h3 h4 hB HB0.out ho hc hf)
    simp at q0
    have Hi := Lib.hid hi
    have Hz0 := Lib.hid hz0
    have Hz1 := Lib.hid hz1
    have Hz2 := Lib.hid hz2
    clear h1 h2 h3 h4 hB hi hz0 hz1 hz2 hd hbx
    rcases hkk with e3 | ⟨e3, e4⟩
    all_goals
      go_enter Try.func83, Try.ntmps83
      go_wp2_with (at_builtin; refine wpList_app _ rfl (.tmp 7) (.tmp 9) _ rfl 30 i0 _ 2 16 Try.underlying36 Hi.out Hz0.out Hz1.out Hz2.out rfl (by omega) A xs.length c (kv xs) rfl HO.out _ (some ⟨w.heap.size + 1, 0, none⟩) 1 1 (by intro h; cases h) [.int .u32 (adr p : Int), .int .i64 (p.length : Int)] rfl HN.out (by intro u hu; simp at hu; rcases hu with rfl | rfl <;> rfl) (by unfold maxLen; omega) (by omega) ?_; intro A2 c2 w2 ho2 hc2 hf2; have HX2 := Lib.hid (HX.out A2 c2 w2 ho2 hc2 hf2); have k0 := HX2.out.1.cell 0; have kf := HX2.out.1.free 0; simp at k0; clear ho2 hc2 hf2)
      refine bodyPost_end (results_none rfl _ _ _) rfl ⟨rfl, by rw [HS.out]; exact HX2.out.2.1, HX2.out.2.2⟩
  · have HS : Hid (addB a n xs p = xs) := by rw [Hid, addB, if_neg hd]
    obtain ⟨rfl, rfl⟩ : adr p = a ∧ (p.length : Int) = n := by simpa [diffB] using hd
    have hbw : Below w.heap.size w (w.alloc (.cells #[.int .u32 (adr p : Int), .int .i64 (p.length : Int)] 30)) := (Below.refl _ _).alloc (Nat.le_refl _) _
    have HE : Hid (OutI B ob (w.alloc (.cells #[.int .u32 (adr p : Int), .int .i64 (p.length : Int)] 30)) xs ∧ Below B w (w.alloc (.cells #[.int .u32 (adr p : Int), .int .i64 (p.length : Int)] 30))) := by
      obtain ⟨⟨A, c, h1, h2, h3⟩, h4⟩ := hI
      exact ⟨⟨⟨A, c, h1.below hbw h1.lt, h2.bel hbw, h3⟩, h4⟩, hbw.mono hB⟩
    clear hI hbx hd hbw
    go_enter Try.func83, Try.ntmps83
    go_wp2_with fail
    refine bodyPost_end (results_none rfl _ _ _) rfl ⟨rfl, by rw [HS.out]; exact HE.out.1, HE.out.2⟩
theorem fold_diff (a : Nat) (n : Int) : ∀ (l : List (Key × Int)) (xs : List Key), l.foldl (fun xs r => addB a n xs r.1) xs = xs ++ (l.filter fun r => diffB a n r.1).map (·.1)
  | [], xs => by simp
  | r :: l, xs => by
    rw [List.foldl_cons, fold_diff a n l, List.filter_cons]
    unfold addB
    split <;> simp
end Go.Proofs.Ytbhhkjkjihenoaa.tri
