/- A clock in memory; what clock's New, Set, Left, Stop, Now return and leave. Conditions as each lemma states. -/
import Derived.Test.YtbhhkjkjihenoaaRows
import Derived.Test.YtbhhkjkjihenoaaMap
import Derived.WalkLawsBesides
import Derived.WalkSpells
import Derived.StillTailTactics
namespace Go.Proofs.Ytbhhkjkjihenoaa.clk
open Go.RowKit Go.Proofs.Ytbhhkjkjihenoaa.kit Go.Proofs.Ytbhhkjkjihenoaa.mem Go.Proofs.Ytbhhkjkjihenoaa.foot Go.Proofs.Ytbhhkjkjihenoaa.maps
set_option linter.unusedVariables false
set_option linter.unusedSimpArgs false

/-- integers as elements -/
def iE : Elem Int where
  mkv a := .int .i64 a
  dat a := .lit (.int .i64 a)
  rd v := match v with | .int .i64 x => some (.lit (.int .i64 x), []) | _ => none
  rd_mk _ := rfl
  inv {v y} h := by
    split at h
    · cases h; exact ⟨_, rfl, rfl⟩
    · cases h
  inj {a b} h := by simpa using h

/-- keys, and when each runs out -/
abbrev KV := List (Int × Int)
/-- block t is a clock: the time, the keys -/
structure Ck (w : World) (F : Foot) (t : Nat) (now : Int) (es : KV) : Prop where
  ex : ∃ b, Bk w t 152 #[.int .i64 now, .map (some b)] ∧ Mp iE Try.prog 3 .i64 w b es.length es ∧ F b ∧ t ≠ b
  mem : F t
  lt : ∀ k, F k → k < w.heap.size
section
variable {w w' : World} {F E : Foot} {t : Nat} {now : Int} {es : KV}
theorem Ck.chg (h : Ck w F t now es) (hc : Chg E w w') (hd : ∀ k, F k → ¬ E k) : Ck w' F t now es := by
  obtain ⟨⟨b, h1, h2, h3, h4⟩, h5, h6⟩ := h
  exact ⟨⟨b, h1.chg hc (hd t h5), h2.chg hc (hd b h3), h3, h4⟩, h5, fun k hk => Nat.lt_of_lt_of_le (h6 k hk) hc.size⟩
theorem Ck.bel (h : Ck w F t now es) (hb : Below w.heap.size w w') : Ck w' F t now es := h.chg (E := fun _ => False) (Chg.of_below hb _) (fun _ _ e => e)
theorem Ck.nd (h : Ck w F t now es) : es.Pairwise (fun p r => p.1 ≠ r.1) := by
  obtain ⟨⟨b, _, h2, _⟩, _⟩ := h
  exact h2.nd
theorem Ck.wf (h : Ck w F t now es) : ∀ p ∈ es, (Lit.int .i64 p.1).wf = true := by
  obtain ⟨⟨b, _, h2, _⟩, _⟩ := h
  obtain ⟨D, _, h3⟩ := h2
  exact h3.wf
theorem Ck.perm {es' : KV} (h : Ck w F t now es) (hp : es.Perm es') : Ck w F t now es' := by
  obtain ⟨⟨b, h1, h2, h3, h4⟩, h5, h6⟩ := h
  exact ⟨⟨b, h1, by rw [← hp.length_eq]; exact h2.perm hp, h3, h4⟩, h5, h6⟩
end

theorem New_any (w : World) : Calls Try.prog 45 #[] w fun e w' => ∃ t F, e = .returned (.pointer (some ⟨t, 0, none⟩)) ∧ Ck w' F t 0 [] ∧ (∀ k, F k → w.heap.size ≤ k) ∧ Below w.heap.size w w' := by
  have hmm := @run_makeMap Try.prog
  go_enter Try.func45, Try.ntmps45
  go_wp2_with fail
  go_ret
  refine ⟨w.heap.size + 1, fun k => k = w.heap.size ∨ k = w.heap.size + 1, rfl, ⟨⟨w.heap.size, ?_, ?_, .inl rfl, by omega⟩, .inr rfl, fun k hk => ?_⟩, fun k hk => by rcases hk with e | e <;> omega, ((Below.refl _ _).alloc (Nat.le_refl _) _).alloc (by simp) _⟩
  · have := Bk.new (w.alloc (.map #[] 0)) 152 #[.int .i64 0, .map (some w.heap.size)]
    simpa using this
  · exact (Mp.made w).bel ((Below.refl _ _).alloc (Nat.le_refl _) _)
  · rcases hk with e | e <;> rw [e] <;> simp <;> omega

theorem zero_i (w : World) : (zeroValue 3).run Try.prog w = .ok (iE.mkv 0) w := by kernel_rfl
/-- when a key runs out -/
def atOf (es : KV) (k : Int) : Int := match es.find? (fun r => r.1 == k) with | some r => r.2 | none => 0
def hasK (es : KV) (k : Int) : Bool := es.any fun r => r.1 == k
theorem Ck.look {w : World} {F : Foot} {t : Nat} {now : Int} {es : KV} (h : Ck w F t now es) {k : Int} (hk : (Lit.int .i64 k).wf = true) : ∃ b, Bk w t 152 #[.int .i64 now, .map (some b)] ∧ Mp iE Try.prog 3 .i64 w b es.length es ∧ F b ∧ t ≠ b ∧
    (Instr.lookup 150 (.map (some b)) (.int .i64 k) true).run Try.prog w = .ok (.tuple #[.int .i64 (atOf es k), .bool (hasK es k)]) w ∧ (∀ ty, (Builtin.len_ #[150] ty #[.map (some b)]).run Try.prog w = .ok (.int .i64 (es.length : Int)) w) := by
  obtain ⟨⟨b, h1, h2, h3, h4⟩, h5, h6⟩ := h
  refine ⟨b, h1, h2, h3, h4, ?_, fun ty => h2.len Try.underlying150 ty⟩
  unfold hasK
  rcases hf : es.find? (fun r => r.1 == k) with _ | r
  · have hn : ∀ p ∈ es, p.1 ≠ k := by
      intro p hp
      have := List.find?_eq_none.1 hf p hp
      simpa using this
    obtain ⟨g1, g2⟩ := h2.look_miss Try.underlying3 Try.underlying150 (z := 0) (zero_i w) hk hn
    have ha : es.any (fun r => r.1 == k) = false := by
      rw [List.any_eq_false]; intro r hr; simpa using hn r hr
    have e1 : atOf es k = 0 := by unfold atOf; rw [hf]
    rw [ha, e1]
    exact g2
  · have hr := List.mem_of_find?_eq_some hf
    have hk' : r.1 = k := by have := List.find?_some hf; simpa using this
    subst hk'
    obtain ⟨g1, g2⟩ := h2.look_hit Try.underlying3 Try.underlying150 (z := 0) (zero_i w) (x := r.1) (a := r.2) hr
    have ha : es.any (fun x => x.1 == r.1) = true := by rw [List.any_eq_true]; exact ⟨r, hr, by simp⟩
    have e1 : atOf es r.1 = r.2 := by unfold atOf; rw [hf]
    rw [ha, e1]
    exact g2

theorem put_len (es : KV) (k v : Int) : (put es k v).length ≤ es.length + 1 := by
  unfold put
  rw [List.length_cons]
  exact Nat.succ_le_succ (List.length_filter_le _ _)

theorem Set_none (k n : Int) (w : World) :
    Calls Try.prog 46 #[.pointer none, .int .i64 k, .int .i64 n] w fun e w' => e = .returned (.int .i64 1) ∧ w = w' := by
  go_enter Try.func46, Try.ntmps46
  go_wp2
  go_ret
  exact ⟨rfl, rfl⟩
set_option maxRecDepth 100000 in
theorem Set_bad (p : Option Addr) (k n : Int) (hn : n < 1 ∨ 65535 < n) (w : World) :
    Calls Try.prog 46 #[.pointer p, .int .i64 k, .int .i64 n] w fun e w' => e = .returned (.int .i64 1) ∧ w = w' := by
  rcases p with _ | p
  · go_enter Try.func46, Try.ntmps46
    go_wp2
    go_ret
    exact ⟨rfl, rfl⟩
  · rcases hn with h | h
    · have e1 : decide (n < 1) = true := by simp; omega
      go_enter Try.func46, Try.ntmps46
      go_wp2
      go_ret
      exact ⟨rfl, rfl⟩
    · have e1 : decide (n < 1) = false := by simp; omega
      have e2 : decide (65535 < n) = true := by simp; omega
      go_enter Try.func46, Try.ntmps46
      go_wp2
      go_ret
      exact ⟨rfl, rfl⟩

set_option maxRecDepth 100000 in
set_option maxHeartbeats 1000000 in
theorem Set_ok {F : Foot} {t : Nat} {now : Int} {es : KV} (k n : Int) (w : World) (hk : (Lit.int .i64 k).wf = true) (h0 : 1 ≤ n) (h1 : n ≤ 65535) (hw : 0 ≤ now ∧ now ≤ 1000000) (hl : es.length < 10000) (h : Ck w F t now es) :
    Calls Try.prog 46 #[.pointer (some ⟨t, 0, none⟩), .int .i64 k, .int .i64 n] w fun e w' => e = .returned (.int .i64 0) ∧ Ck w' F t now (put es k (now + n)) ∧ Chg F w w' := by
  obtain ⟨b, hb, hmp, hFb, htb, l1, l2⟩ := h.look hk
  have HMp := Lib.hid (hmp.bel ((Below.refl _ _).drew))
  have HFin : Hid (∀ w', Mp iE Try.prog 3 .i64 w' b (es.length + 1) (put es k (now + n)) → Chg (fun j => j = b) w.drew w' → Ck w' F t now (put es k (now + n)) ∧ Chg F w w') := fun w' g1 g2' => by
    have g2 : Chg (fun j => j = b) w w' := (Chg.refl _ _).drew.trans g2' fun _ _ e => e
    exact ⟨⟨⟨b, hb.chg g2 htb, g1.tight, hFb, htb⟩, h.mem, fun j hj => Nat.lt_of_lt_of_le (h.lt j hj) g2.size⟩, g2.mono fun i _ e => by rw [e]; exact hFb⟩
  have HK := Lib.hid hk
  have b0 := hb.cell 0
  have b1 := hb.cell 1
  simp at b0 b1
  have e1 : decide (n < 1) = false := by simp; omega
  have e2 : decide (65535 < n) = false := by simp; omega
  have e3 : decide ((10000 : Int) ≤ (es.length : Int)) = false := by simp; omega
  obtain ⟨w0, w1⟩ := hw
  have HWr : Hid (IntKind.i64.wrap (now + n) = now + n) := by rw [Hid]; exact IntWalk.i64_in _ (by omega)
  clear hk hb hmp h
  generalize hasK es k = ok at *
  rcases ok with _ | _
  all_goals
    go_enter Try.func46, Try.ntmps46
    go_wp2_with fail
    go_still_tail 11, (by kernel_rfl)
    change wpList _ _ _ _ _ w.drew
    generalize w.drew = w2 at *
    go_wp2_with (at_mapUpdate; (refine wpList_put (E := iE) rfl (.tmp 41) (.tmp 42) (.tmp 48) _ rfl 3 Try.underlying3 Try.underlying150 b es.length es rfl HMp.out (by unfold maxLen; omega) k (now + n) HK.out (by rfl) (by show Value.int .i64 (IntKind.i64.wrap (now + n)) = _; rw [HWr.out]; rfl) ?_); intro w1 g1 g2; have HE := Lib.hid (HFin.out w1 g1 g2); clear g1 g2)
    go_ret
    exact ⟨rfl, HE.out⟩

theorem Left_none (k : Int) (w : World) : Calls Try.prog 48 #[.pointer none, .int .i64 k] w fun e w' => e = .returned (.tuple #[.int .i64 0, .bool false]) ∧ w = w' := by
  go_enter Try.func48, Try.ntmps48
  go_wp2
  go_ret2
  exact ⟨rfl, rfl⟩
set_option maxRecDepth 100000 in
theorem Left_any {F : Foot} {t : Nat} {now : Int} {es : KV} (k : Int) (w : World) (hk : (Lit.int .i64 k).wf = true) (hd : -1000000 ≤ atOf es k - now ∧ atOf es k - now ≤ 1000000) (h : Ck w F t now es) :
    Calls Try.prog 48 #[.pointer (some ⟨t, 0, none⟩), .int .i64 k] w fun e w' => e = .returned (.tuple #[.int .i64 (if hasK es k = true then atOf es k - now else 0), .bool (hasK es k)]) ∧ w = w' := by
  obtain ⟨b, hb, hmp, hFb, htb, l1, l2⟩ := h.look hk
  have b0 := hb.cell 0
  have b1 := hb.cell 1
  simp at b0 b1
  obtain ⟨w0, w1⟩ := hd
  clear hk hb hmp h
  generalize hasK es k = ok at *
  rcases ok with _ | _
  all_goals
    go_enter Try.func48, Try.ntmps48
    go_wp2_with fail
    go_ret2
    exact ⟨by simp, rfl⟩

theorem Now_none (w : World) : Calls Try.prog 59 #[.pointer none] w fun e w' => e = .returned (.int .i64 0) ∧ w = w' := by
  go_enter Try.func59, Try.ntmps59
  go_wp2
  go_ret
  exact ⟨rfl, rfl⟩
theorem Now_any {F : Foot} {t : Nat} {now : Int} {es : KV} (w : World) (h : Ck w F t now es) :
    Calls Try.prog 59 #[.pointer (some ⟨t, 0, none⟩)] w fun e w' => e = .returned (.int .i64 now) ∧ w = w' := by
  obtain ⟨⟨b, hb, _⟩, _⟩ := h
  have b0 := hb.cell 0
  simp at b0
  go_enter Try.func59, Try.ntmps59
  go_wp2_with fail
  go_ret
  exact ⟨rfl, rfl⟩

theorem Stop_none (k : Int) (w : World) : Calls Try.prog 50 #[.pointer none, .int .i64 k] w fun e w' => e = .returned (.bool false) ∧ w = w' := by
  go_enter Try.func50, Try.ntmps50
  go_wp2
  go_ret
  exact ⟨rfl, rfl⟩
set_option maxRecDepth 100000 in
theorem Stop_any {F : Foot} {t : Nat} {now : Int} {es : KV} (k : Int) (w : World) (hk : (Lit.int .i64 k).wf = true) (h : Ck w F t now es) :
    Calls Try.prog 50 #[.pointer (some ⟨t, 0, none⟩), .int .i64 k] w fun e w' => e = .returned (.bool (hasK es k)) ∧ Ck w' F t now (cut es k) ∧ Chg F w w' := by
  obtain ⟨b, hb, hmp, hFb, htb, l1, l2⟩ := h.look hk
  have HMp := Lib.hid hmp
  have HFin : Hid (∀ w', Mp iE Try.prog 3 .i64 w' b es.length (cut es k) → Chg (fun j => j = b) w w' → Ck w' F t now (cut es k) ∧ Chg F w w') := fun w' g1 g2 =>
    ⟨⟨⟨b, hb.chg g2 htb, g1.tight, hFb, htb⟩, h.mem, fun j hj => Nat.lt_of_lt_of_le (h.lt j hj) g2.size⟩, g2.mono fun i _ e => by rw [e]; exact hFb⟩
  have HK := Lib.hid hk
  have b0 := hb.cell 0
  have b1 := hb.cell 1
  simp at b0 b1
  clear hk hb hmp h
  generalize hasK es k = ok at *
  go_enter Try.func50, Try.ntmps50
  go_wp2_with (at_delete; (refine wpList_drop (E := iE) rfl (.tmp 21) (.tmp 22) _ rfl 3 Try.underlying3 Try.underlying150 b es.length es rfl HMp.out k HK.out (by rfl) ?_); intro w1 g1 g2; have HE := Lib.hid (HFin.out w1 g1 g2); clear g1 g2)
  go_ret
  exact ⟨rfl, HE.out⟩
end Go.Proofs.Ytbhhkjkjihenoaa.clk
