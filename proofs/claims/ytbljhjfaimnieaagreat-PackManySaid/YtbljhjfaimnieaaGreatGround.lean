/- Small lemmas used by all texts of this seat: arguments opened, quiet calls, endings. No condition beyond those that each lemma states. Words for memory: a slice that reads as a list of cells, a block known whole, bytes; how they are kept over what a call does. No condition beyond those that each lemma states. Footprints: what a call may write, which blocks a reading lies in; rows of the call's own at any offset; append onto them. No condition beyond those that each lemma states. Readers: what the cells of a value say, for numbers, bits, strings, slices of anything, and one behind the other; arguments opened by them. No condition beyond those that each lemma states. Rows gathered by appends in new memory; rows read. No condition beyond those that each lemma states. Lists of anything gathered by appends in a row of the call's own, what their elements point at lying apart from that row. No condition beyond those that each lemma states. Arguments that are structs by value: opened by readers. No condition. A slice literal whose elements are structs, as one step that reckons no cell. Conditions as each lemma states. A struct inside a block read and written as one step. Conditions as each lemma states. Arguments opened: slices of integers as rows that are read, byte slices, arrays of three integers. No condition beyond those that each lemma states. Rows of numbers of 32 bits: in memory, as arguments, copied. Conditions as each lemma states. What stays where cells stay: rows read, rows of the call's own. No condition beyond those that each lemma states. -/
import Derived.WalkKit
import Derived.ProofKit
import Derived.OpenShut
import Derived.Below
import Derived.BigQuiet
import Derived.Deep.QuietTactic
import Derived.WalkLawsBesides
import Derived.WalkSpells
import Derived.Outline
import Derived.Lib.Hide
import Derived.Lib.SmallJoins
import Derived.Laws.OwnMore
import Derived.Laws.AppendOwnNone
import Derived.Deep.AppendLies
import Derived.Deep.Draws
import Derived.Deep.Onto
import Derived.OwnWalk
import Derived.Laws.Rows
import Derived.Maps.AppendAt
import Derived.ArgAppend
import Derived.Deep.Slices
import Derived.Great.BuildSlice
import Derived.Deep.MidRow
import Derived.ChangeSlices
import Derived.Test.YtbljhjfaimnieaaGreatRows
import Derived.RangeFuncOwn
namespace Go.Proofs.YtbljhjfaimnieaaGreat.kit
open Go.RowKit Go.Joins Go.ChangeShapes Go.WideShapes Go.ChangeAt

theorem ret_int {k : IntKind} {a b : Int} (h : a = b) : Ending.returned (.int k a) = .returned (.int k b) := by rw [h]
theorem ret_bool {a b : Bool} (h : a = b) : Ending.returned (.bool a) = .returned (.bool b) := by rw [h]

theorem quiet_eq {P : Program} {f : FuncId} {args : Array Value} {w : World} {n : Nat} {v : Value}
    (h : Calls P f args (w.drewN n) fun e w' => e = .returned v ∧ w.drewN n = w') : Calls P f args (w.drewN n) fun e w'' => e = .returned v ∧ ∃ m, w'' = w.drewN m :=
  h.mono fun _ _ ⟨he, hm⟩ => ⟨he, n, hm.symm⟩

theorem wf_u32 {a : Int} (h : (Lit.int .u32 a).wf = true) : 0 ≤ a ∧ a ≤ 4294967295 := by simpa [Lit.wf, IntKind.min, IntKind.max, IntKind.signed, IntKind.bits] using h
theorem wf_u16 {a : Int} (h : (Lit.int .u16 a).wf = true) : 0 ≤ a ∧ a ≤ 65535 := by simpa [Lit.wf, IntKind.min, IntKind.max, IntKind.signed, IntKind.bits] using h
theorem wf_u8 {a : Int} (h : (Lit.int .u8 a).wf = true) : 0 ≤ a ∧ a ≤ 255 := by simpa [Lit.wf, IntKind.min, IntKind.max, IntKind.signed, IntKind.bits] using h
section
variable {H : Type} {enc : TypeId × Value → H} {P : Program} {w : World} {base : Nat} {spare : Nat → Bool} {held : Bool}

end
end Go.Proofs.YtbljhjfaimnieaaGreat.kit

namespace Go.Proofs.YtbljhjfaimnieaaGreat.mem
open Go.RowKit

/-- bytes as cells -/
def bv (l : List UInt8) : List Value := l.map fun c => .int .u8 (c.toNat : Int)
theorem bv_len (l : List UInt8) : (bv l).length = l.length := by simp [bv]
theorem bv_app (l r : List UInt8) : bv (l ++ r) = bv l ++ bv r := by simp [bv]
theorem bv_at (l : List UInt8) (k : Nat) (h : k < l.length) : (bv l)[k]? = some (.int .u8 (l[k].toNat : Int)) := by simp [bv, h]
theorem bv_one (l : List UInt8) : ∀ u ∈ bv l, u.oneCell' = true := by
  intro u hu
  simp only [bv, List.mem_map] at hu
  obtain ⟨c, _, rfl⟩ := hu
  rfl

/-- the slice value with address A and n elements of so many cells each holds the cells xs, below block B -/
def Rd (w : World) (B size : Nat) (A : Option Addr) (n : Nat) (xs : List Value) : Prop :=
  xs.length = n * size ∧ (0 < n → ∃ b off, A = some ⟨b, off, none⟩ ∧ b < B ∧ ∀ j u, xs[j]? = some u → w.cell? ⟨b, off + j, none⟩ = some u)

section
variable {w w' : World} {B B' size n : Nat} {A : Option Addr} {xs : List Value}

theorem Rd.nil (w : World) (B size : Nat) (A : Option Addr) : Rd w B size A 0 [] := ⟨by simp, fun h => absurd h (by omega)⟩

/-- whatever leaves the cells below B as they were keeps it -/
theorem Rd.keep (h : Rd w B size A n xs) (hk : ∀ b o, b < B → w'.cell? ⟨b, o, none⟩ = w.cell? ⟨b, o, none⟩) : Rd w' B size A n xs := by
  refine ⟨h.1, fun hn => ?_⟩
  obtain ⟨b, off, e, hb, hc⟩ := h.2 hn
  exact ⟨b, off, e, hb, fun j u hu => (hk b _ hb).trans (hc j u hu)⟩
theorem Rd.more (h : Rd w B size A n xs) (hB : B ≤ B') : Rd w B' size A n xs := by
  refine ⟨h.1, fun hn => ?_⟩
  obtain ⟨b, off, e, hb, hc⟩ := h.2 hn
  exact ⟨b, off, e, by omega, hc⟩
theorem Rd.below (h : Rd w B size A n xs) {C : Nat} (hb : Below C w w') (hC : B ≤ C) : Rd w' B size A n xs := h.keep fun b o hp => hb.cell (p := ⟨b, o, none⟩) (by show b < C; omega)
theorem Rd.drew (h : Rd w B size A n xs) : Rd w.drew B size A n xs := h
theorem Rd.drewN (h : Rd w B size A n xs) (k : Nat) : Rd (w.drewN k) B size A n xs := h
theorem Rd.alloc (h : Rd w B size A n xs) (hB : B ≤ w.heap.size) (o : Obj) : Rd (w.alloc o) B size A n xs :=
  h.below (C := B) ((Below.refl B w).alloc hB o) (Nat.le_refl _)
theorem Rd.setCell (h : Rd w B size A n xs) {p : Addr} (hB : B ≤ p.block) (u : Value) : Rd (w.setCell p u) B size A n xs :=
  h.below (C := B) ((Below.refl B w).setCell hB u) (Nat.le_refl _)
theorem Rd.grown (h : Rd w B size A n xs) {row : Option Nat} (hg : w.grownBy w' row) (hB : B ≤ w.heap.size) (hr : ∀ g, row = some g → B ≤ g) : Rd w' B size A n xs :=
  h.below (C := B) ((Below.refl B w).grown hg hB hr) (Nat.le_refl _)
theorem Rd.at_ {k : Nat} (h : Rd w B 1 A n xs) (hk : k < n) : ∃ b off u, A = some ⟨b, off, none⟩ ∧ b < B ∧ xs[k]? = some u ∧ w.cell? ⟨b, off + k, none⟩ = some u := by
  obtain ⟨b, off, e, hb, hc⟩ := h.2 (by omega)
  have hl : k < xs.length := by have := h.1; omega
  exact ⟨b, off, xs[k], e, hb, List.getElem?_eq_getElem hl, hc k _ (List.getElem?_eq_getElem hl)⟩
theorem Rd.take (h : Rd w B size A n xs) {k : Nat} (hk : k ≤ n) : Rd w B size A k (xs.take (k * size)) := by
  refine ⟨by rw [List.length_take, h.1]; exact Nat.min_eq_left (Nat.mul_le_mul_right _ hk), fun hn => ?_⟩
  obtain ⟨b, off, e, hb, hc⟩ := h.2 (by omega)
  refine ⟨b, off, e, hb, fun j u hu => hc j u ?_⟩
  rw [List.getElem?_take] at hu
  split at hu
  · exact hu
  · cases hu
theorem Rd.skip {a : Addr} (h : Rd w B 1 (some a) n xs) {k : Nat} (hk : k ≤ n) : Rd w B 1 (some (a.add k)) (n - k) (xs.drop k) := by
  refine ⟨by rw [List.length_drop, h.1]; omega, fun hn => ?_⟩
  obtain ⟨b, off, e, hb, hc⟩ := h.2 (by omega)
  injection e with e
  subst e
  refine ⟨b, off + k, ?_, hb, fun j u hu => ?_⟩
  · unfold Addr.add; split
    · rename_i h0; subst h0; rfl
    · rfl
  · rw [List.getElem?_drop] at hu
    rw [Nat.add_assoc]; exact hc _ u hu
theorem Rd.of_own {base : Nat} {e : TypeId} {c : Nat} (h : w.ownsRow base e size (.slice A n c) n xs) : Rd w w.heap.size size A n xs := by
  refine ⟨h.1, fun hn => ?_⟩
  obtain ⟨g, cap, hv, _, hlt⟩ := h.form hn
  have hA : A = some ⟨g, 0, none⟩ := by injection hv
  subst hA
  refine ⟨g, 0, rfl, hlt, fun j u hu => ?_⟩
  have := h.cells (g := g) rfl j u hu
  rw [Nat.zero_add]
  unfold Addr.add at this
  split at this
  · rename_i hj; subst hj; exact this
  · simpa using this
end

/-- block g is just these cells, of this element type, none frozen -/
def Bk (w : World) (g : Nat) (t : TypeId) (cs : Array Value) : Prop := w.heap[g]? = some (.cells cs t (0, 0))
section
variable {w w' : World} {g : Nat} {t : TypeId} {cs : Array Value}
theorem Bk.lt (h : Bk w g t cs) : g < w.heap.size := by
  rcases Nat.lt_or_ge g w.heap.size with hlt | hge
  · exact hlt
  · unfold Bk at h; rw [Array.getElem?_eq_none hge] at h; cases h
theorem Bk.cell (h : Bk w g t cs) (i : Nat) : w.cell? ⟨g, i, none⟩ = cs[i]? := cell_of_row w g i cs t (0, 0) h
theorem Bk.free (h : Bk w g t cs) (i : Nat) : w.frozen? ⟨g, i, none⟩ = false := by
  unfold Bk at h
  simp [World.frozen?, h]
theorem Bk.new (w : World) (t : TypeId) (cs : Array Value) : Bk (w.alloc (.cells cs t)) w.heap.size t cs := heap_alloc_new w _
theorem Bk.drew (h : Bk w g t cs) : Bk w.drew g t cs := h
theorem Bk.drewN (h : Bk w g t cs) (n : Nat) : Bk (w.drewN n) g t cs := h
theorem Bk.alloc (h : Bk w g t cs) (o : Obj) : Bk (w.alloc o) g t cs := (Below.heap_alloc w o g h.lt).trans h
theorem Bk.put (h : Bk w g t cs) (i : Nat) (u : Value) : Bk (w.setCell ⟨g, i, none⟩ u) g t (cs.setIfInBounds i u) := by
  unfold Bk at h ⊢
  simp [World.setCell, Array.getElem?_modify, h]
theorem Bk.far (h : Bk w g t cs) {p : Addr} (hp : g ≠ p.block) (u : Value) : Bk (w.setCell p u) g t cs := (Below.heap_setCell w p u g hp).trans h
theorem Bk.below {B : Nat} (h : Bk w g t cs) (hb : Below B w w') (hg : g < B) : Bk w' g t cs := (hb.block g hg).trans h
theorem Bk.grown {row : Option Nat} (h : Bk w g t cs) (hb : w.grownBy w' row) (hg : some g ≠ row) : Bk w' g t cs := (hb.block g h.lt hg).trans h
theorem Bk.ne_own {base : Nat} {e : TypeId} {size n : Nat} {v : Value} {xs : List Value} (hg : Bk w g t cs) (h : w.ownsRow base e size v n xs) (hne : e ≠ t) : some g ≠ v.ownBlock := by
  rcases h.2 with ⟨rfl, _⟩ | ⟨g', cap, cur, rfl, _, hh, _⟩
  · simp [Value.ownBlock]
  · intro he
    have e1 : g = g' := by simpa [Value.ownBlock] using he
    subst e1
    unfold Bk at hg
    rw [hg] at hh
    injection hh with hh
    injection hh with _ ht
    exact hne ht.symm
end

theorem grown_drew {a w : World} {row : Option Nat} (h : a.grownBy w row) : a.grownBy w.drew row := ⟨h.os, h.tape, h.output, h.size, h.block⟩
theorem grown_setCell {a w : World} {g : Nat} (h : a.grownBy w (some g)) {p : Addr} (hp : p.block = g ∨ a.heap.size ≤ p.block) (u : Value) : a.grownBy (w.setCell p u) (some g) :=
  ⟨h.os, h.tape, h.output, by simpa [World.setCell] using h.size, fun i hi hne => (Below.heap_setCell w p u i (by
    rintro rfl
    rcases hp with hp | hp
    · exact hne (by rw [hp])
    · omega)).trans (h.block i hi hne)⟩
theorem below_grown {B : Nat} {a b : World} {row : Option Nat} (h : a.grownBy b row) (hB : B ≤ a.heap.size) (hr : ∀ g, row = some g → B ≤ g) : Below B a b := (Below.refl B a).grown h hB hr

/-- a byte slice -/
def Bs (w : World) (B : Nat) (A : Option Addr) (l : List UInt8) : Prop := Rd w B 1 A l.length (bv l)
theorem Bs.at_ {w : World} {B : Nat} {A : Option Addr} {l : List UInt8} (h : Bs w B A l) {k : Nat} (hk : k < l.length) : ∃ b off, A = some ⟨b, off, none⟩ ∧ b < B ∧ w.cell? ⟨b, off + k, none⟩ = some (.int .u8 (l[k].toNat : Int)) := by
  obtain ⟨b, off, u, e, hb, hu, hc⟩ := Rd.at_ h hk
  rw [bv_at l k hk] at hu
  exact ⟨b, off, e, hb, by rw [hc, ← hu]⟩

section
variable {P : Program} {w : World}
/-- append onto a row of the call's own, the source nil, empty or not -/
theorem wpList_append_rd {ops : Array Oper} {rest : List Oper} {o : Oper} {a : Act} {Q : Exit → Act → World → Prop} (hgd : o.guard = none) (s x : Operand) (t : TypeId)
    (ho : o.op = .call { callee := .builtin .append, args := #[s, x], argTypes := #[t, t] })
    (base : Nat) (e : TypeId) (i : TypeInfo) (z : Value) (size bytes : Nat) (ht : P.underlying t = some (.slice e)) (hi : P.info? e = some i) (hz : i.zero = some z)
    (hsize : i.size = size) (hby : i.bytes = bytes) (hzs : z.cells.size = size) (hsz : 0 < size)
    (v : Value) (n : Nat) (xs : List Value) (hs : a.eval s = v) (hown : w.ownsRow base e size v n xs)
    (B : Nat) (A : Option Addr) (m c : Nat) (hA : A = none → c = 0) (news : List Value) (hx : a.eval x = .slice A m c) (hr : Rd w B size A m news) (h1 : ∀ u ∈ news, u.oneCell' = true)
    (h63 : n + m ≤ maxLen) (hbytes : (n + m) * bytes ≤ 140737488355328) (hbase : base ≤ w.heap.size)
    (h : ∀ v' w', w'.ownsRow base e size v' (n + m) (xs ++ news) → w.grownBy w' v.ownBlock → (v'.ownBlock = v.ownBlock ∨ v'.ownBlock = some w.heap.size) → wpList P ops Q rest (a.put o.dst v') w') : wpList P ops Q (o :: rest) a w := by
  rcases A with _ | ad
  · have hm : m = 0 := by
      rcases Nat.eq_zero_or_pos m with h0 | h0
      · exact h0
      · obtain ⟨b, off, h, _⟩ := hr.2 h0; cases h
    subst hm
    have hc := hA rfl
    subst hc
    have hn : news = [] := List.eq_nil_of_length_eq_zero (by simpa using hr.1)
    subst hn
    exact wpList_append_own_none hgd s x t ho base e i size ht hi v n xs hs hown hx (h v w (by simpa using hown) (World.grownBy.refl w _) (.inl rfl))
  · have hcells : ∀ j u, news[j]? = some u → w.cell? (ad.add j) = some u := by
      intro j u hu
      rcases Nat.eq_zero_or_pos m with h0 | h0
      · subst h0
        have hn : news = [] := List.eq_nil_of_length_eq_zero (by simpa using hr.1)
        subst hn
        simp at hu
      · obtain ⟨b, off, h, _, hc⟩ := hr.2 h0
        injection h with h
        subst h
        have := hc j u hu
        unfold Addr.add
        split
        · rename_i hj; subst hj; simpa using this
        · simpa using this
    exact wpList_append_own_at _ hgd s x t ho base e i z size bytes ht hi hz hsize hby hzs hsz v n xs hs hown ad m c news hx hr.1 hcells h1 h63 hbytes hbase fun v' w' h2 h3 _ h5 => h v' w' h2 h3 h5
theorem own_form {base : Nat} {e : TypeId} {size n : Nat} {v : Value} {xs : List Value} (h : w.ownsRow base e size v n xs) : ∃ A c, v = .slice A n c ∧ (A = none → c = 0) ∧ n ≤ c ∧ c ≤ maxLen := by
  rcases h.2 with ⟨rfl, rfl⟩ | ⟨g, cap, cur, rfl, _, _, h3, h4, _⟩
  · exact ⟨none, 0, rfl, fun _ => rfl, Nat.le_refl _, by unfold maxLen; omega⟩
  · exact ⟨some ⟨g, 0, none⟩, cap, rfl, (fun h => by cases h), h3, h4⟩

/-- the same, the result written out as a slice -/
theorem wpList_append_sl {ops : Array Oper} {rest : List Oper} {o : Oper} {a : Act} {Q : Exit → Act → World → Prop} (hgd : o.guard = none) (s x : Operand) (t : TypeId)
    (ho : o.op = .call { callee := .builtin .append, args := #[s, x], argTypes := #[t, t] })
    (base : Nat) (e : TypeId) (i : TypeInfo) (z : Value) (size bytes : Nat) (ht : P.underlying t = some (.slice e)) (hi : P.info? e = some i) (hz : i.zero = some z)
    (hsize : i.size = size) (hby : i.bytes = bytes) (hzs : z.cells.size = size) (hsz : 0 < size)
    (v : Value) (n : Nat) (xs : List Value) (hs : a.eval s = v) (hown : w.ownsRow base e size v n xs)
    (B : Nat) (A : Option Addr) (m c : Nat) (hA : A = none → c = 0) (news : List Value) (hx : a.eval x = .slice A m c) (hr : Rd w B size A m news) (h1 : ∀ u ∈ news, u.oneCell' = true)
    (h63 : n + m ≤ maxLen) (hbytes : (n + m) * bytes ≤ 140737488355328) (hbase : base ≤ w.heap.size)
    (h : ∀ A' c' w', w'.ownsRow base e size (.slice A' (n + m) c') (n + m) (xs ++ news) → w.grownBy w' v.ownBlock → ((Value.slice A' (n + m) c').ownBlock = v.ownBlock ∨ (Value.slice A' (n + m) c').ownBlock = some w.heap.size) → wpList P ops Q rest (a.put o.dst (.slice A' (n + m) c')) w') : wpList P ops Q (o :: rest) a w := by
  refine wpList_append_rd hgd s x t ho base e i z size bytes ht hi hz hsize hby hzs hsz v n xs hs hown B A m c hA news hx hr h1 h63 hbytes hbase fun v' w' h2 h3 h4 => ?_
  obtain ⟨A', c', hv, _⟩ := own_form h2
  subst hv
  exact h A' c' w' h2 h3 h4
end

/-- the block of the slice that lies in the first cell of block b -/
def rowOf (w : World) (b : Nat) : Option Nat := match w.cell? ⟨b, 0, none⟩ with | some v => v.ownBlock | none => none
/-- block k is neither b nor the row that b leads to -/
def Sep (w : World) (b k : Nat) : Prop := k ≠ b ∧ some k ≠ rowOf w b
/-- only block b, the row that it leads to, and new memory were written; what was apart from them still is -/
structure Only (w w' : World) (b : Nat) : Prop where
  os : w'.os = w.os
  tape : w'.tape = w.tape
  output : w'.output = w.output
  size : w.heap.size ≤ w'.heap.size
  block : ∀ k, k < w.heap.size → Sep w b k → w'.heap[k]? = w.heap[k]? ∧ Sep w' b k

theorem Only.refl (w : World) (b : Nat) : Only w w b := ⟨rfl, rfl, rfl, Nat.le_refl _, fun _ _ h => ⟨rfl, h⟩⟩
theorem Only.trans {a c d : World} {b : Nat} (h : Only a c b) (k : Only c d b) : Only a d b :=
  ⟨k.os.trans h.os, k.tape.trans h.tape, k.output.trans h.output, Nat.le_trans h.size k.size, fun i hi hs => by
    obtain ⟨h1, h2⟩ := h.block i hi hs
    obtain ⟨h3, h4⟩ := k.block i (Nat.lt_of_lt_of_le hi h.size) h2
    exact ⟨h3.trans h1, h4⟩⟩
/-- what leaves all that was there alone -/
theorem only_below {w w' : World} {b : Nat} (h : Below w.heap.size w w') (hb : b < w.heap.size) : Only w w' b := by
  refine ⟨h.os, h.tape, h.output, h.size, fun k hk hs => ⟨h.block k hk, hs.1, ?_⟩⟩
  have : rowOf w' b = rowOf w b := by unfold rowOf; rw [h.cell (p := ⟨b, 0, none⟩) hb]
  rw [this]; exact hs.2
theorem Bk.row {w : World} {b : Nat} {t : TypeId} {v : Value} {cs : List Value} (h : Bk w b t (v :: cs).toArray) : rowOf w b = v.ownBlock := by
  unfold rowOf; rw [h.cell 0]; simp
theorem Rd.only {w w' : World} {b : Nat} {B size n : Nat} {A : Option Addr} {xs : List Value} (h : Rd w B size A n xs) (ho : Only w w' b) (hB : B ≤ w.heap.size) (hs : ∀ ad, A = some ad → Sep w b ad.block) : Rd w' B size A n xs := by
  refine ⟨h.1, fun hn => ?_⟩
  obtain ⟨g, off, e, hb, hc⟩ := h.2 hn
  refine ⟨g, off, e, hb, fun j u hu => ?_⟩
  rw [World.cell?_of_block (w := w) (ho.block g (by omega) (hs _ e)).1]
  exact hc j u hu
theorem Only.below {w w' : World} {b B : Nat} (h : Only w w' b) (hB : B ≤ b) (hsz : B ≤ w.heap.size) (hr : ∀ g, rowOf w b = some g → B ≤ g) : Below B w w' :=
  ⟨h.os, h.tape, h.output, h.size, fun k hk => (h.block k (by omega) ⟨by omega, fun e => by have := hr k e.symm; omega⟩).1⟩

end Go.Proofs.YtbljhjfaimnieaaGreat.mem

namespace Go.Proofs.YtbljhjfaimnieaaGreat.foot
open Go.RowKit Go.Proofs.YtbljhjfaimnieaaGreat.kit Go.Proofs.YtbljhjfaimnieaaGreat.mem
set_option linter.unusedVariables false

abbrev Foot := Nat → Prop

/-- only blocks of F and new memory were written -/
structure Chg (F : Foot) (w w' : World) : Prop where
  os : w'.os = w.os
  tape : w'.tape = w.tape
  output : w'.output = w.output
  size : w.heap.size ≤ w'.heap.size
  block : ∀ k, k < w.heap.size → ¬ F k → w'.heap[k]? = w.heap[k]?
/-- what F' has beyond F is new -/
def Fresh (w : World) (F F' : Foot) : Prop := ∀ k, F' k → F k ∨ w.heap.size ≤ k

section
variable {F G H : Foot} {a b c w w' : World}
theorem Chg.refl (F : Foot) (w : World) : Chg F w w := ⟨rfl, rfl, rfl, Nat.le_refl _, fun _ _ _ => rfl⟩
theorem Chg.of_below (h : Below w.heap.size w w') (F : Foot) : Chg F w w' := ⟨h.os, h.tape, h.output, h.size, fun k hk _ => h.block k hk⟩
theorem Chg.trans (h : Chg F a b) (k : Chg G b c) (hG : ∀ i, i < a.heap.size → G i → F i) : Chg F a c :=
  ⟨k.os.trans h.os, k.tape.trans h.tape, k.output.trans h.output, Nat.le_trans h.size k.size, fun i hi hne => (k.block i (Nat.lt_of_lt_of_le hi h.size) (fun e => hne (hG i hi e))).trans (h.block i hi hne)⟩
theorem Chg.step (h : Chg F a b) (hf : Fresh a F G) (k : Chg G b c) : Chg F a c := h.trans k fun i hi hg => by
  rcases hf i hg with e | e
  · exact e
  · omega
theorem Chg.mono (h : Chg F w w') (hF : ∀ i, i < w.heap.size → F i → G i) : Chg G w w' := (Chg.refl G w).trans h hF
theorem Chg.bel (h : Chg F a b) (k : Below b.heap.size b c) : Chg F a c := h.trans (Chg.of_below k F) fun _ _ e => e
theorem Chg.below {B : Nat} (h : Chg F w w') (hF : ∀ k, F k → B ≤ k) (hB : B ≤ w.heap.size) : Below B w w' :=
  ⟨h.os, h.tape, h.output, h.size, fun k hk => h.block k (by omega) (fun e => by have := hF k e; omega)⟩
theorem Chg.grown {row : Option Nat} (h : w.grownBy w' row) (hr : ∀ g, row = some g → F g) : Chg F w w' :=
  ⟨h.os, h.tape, h.output, h.size, fun k hk hne => h.block k hk (fun e => hne (hr k e.symm))⟩
theorem Chg.drewN (h : Chg F a b) (n : Nat) : Chg F a (b.drewN n) := ⟨h.os, h.tape, h.output, h.size, h.block⟩
theorem Chg.drew (h : Chg F a b) : Chg F a b.drew := ⟨h.os, h.tape, h.output, h.size, h.block⟩
theorem Chg.alloc (h : Chg F a b) (o : Obj) : Chg F a (b.alloc o) := h.bel ((Below.refl _ _).alloc (Nat.le_refl _) o)
theorem Chg.put (h : Chg F a b) {p : Addr} (hp : F p.block ∨ a.heap.size ≤ p.block) (u : Value) : Chg F a (b.setCell p u) :=
  ⟨h.os, h.tape, h.output, by simpa [World.setCell] using h.size, fun i hi hne => (Below.heap_setCell b p u i (by
    rintro rfl
    rcases hp with hp | hp
    · exact hne hp
    · omega)).trans (h.block i hi hne)⟩
theorem Fresh.refl (w : World) (F : Foot) : Fresh w F F := fun _ h => .inl h
theorem Fresh.trans (h : Fresh a F G) (k : Fresh b G H) (hs : a.heap.size ≤ b.heap.size) : Fresh a F H := fun i hi => by
  rcases k i hi with e | e
  · exact h i e
  · exact .inr (Nat.le_trans hs e)
theorem Fresh.low {B : Nat} (h : Fresh w F G) (hF : ∀ k, F k → B ≤ k) (hB : B ≤ w.heap.size) : ∀ k, G k → B ≤ k := fun k hk => by
  rcases h k hk with e | e
  · exact hF k e
  · omega
/-- what was apart, and lay in old memory, still is apart -/
theorem Fresh.apart (h : Fresh w F G) {k : Nat} (hk : k < w.heap.size) (hn : ¬ F k) : ¬ G k := fun e => by
  rcases h k e with e | e
  · exact hn e
  · omega
theorem _root_.Go.Proofs.YtbljhjfaimnieaaGreat.mem.Bk.chg {g : Nat} {t : TypeId} {cs : Array Value} (h : Bk w g t cs) (hc : Chg F w w') (hn : ¬ F g) : Bk w' g t cs := (hc.block g h.lt hn).trans h
end

/-- the slice value with address A and n elements of so many cells each holds the cells xs; its block is one of G -/
def Rg (w : World) (G : Foot) (size : Nat) (A : Option Addr) (n : Nat) (xs : List Value) : Prop :=
  xs.length = n * size ∧ (0 < n → ∃ b off, A = some ⟨b, off, none⟩ ∧ G b ∧ b < w.heap.size ∧ ∀ j u, xs[j]? = some u → w.cell? ⟨b, off + j, none⟩ = some u)
section
variable {F G H : Foot} {w w' : World} {size n : Nat} {A : Option Addr} {xs : List Value}
theorem Rg.nil (w : World) (G : Foot) (size : Nat) (A : Option Addr) : Rg w G size A 0 [] := ⟨by simp, fun h => absurd h (by omega)⟩
theorem Rg.chg (h : Rg w G size A n xs) (hc : Chg F w w') (hd : ∀ k, k < w.heap.size → G k → ¬ F k) : Rg w' G size A n xs := by
  refine ⟨h.1, fun hn => ?_⟩
  obtain ⟨b, off, e, hb, hl, hcell⟩ := h.2 hn
  exact ⟨b, off, e, hb, Nat.lt_of_lt_of_le hl hc.size, fun j u hu => by rw [World.cell?_of_block (w := w) (hc.block b hl (hd b hl hb))]; exact hcell j u hu⟩
theorem Rg.mono (h : Rg w G size A n xs) (hG : ∀ k, k < w.heap.size → G k → H k) : Rg w H size A n xs := by
  refine ⟨h.1, fun hn => ?_⟩
  obtain ⟨b, off, e, hb, hl, hcell⟩ := h.2 hn
  exact ⟨b, off, e, hG b hl hb, hl, hcell⟩
theorem Rg.bel (h : Rg w G size A n xs) (hb : Below w.heap.size w w') : Rg w' G size A n xs := h.chg (F := fun _ => False) (Chg.of_below hb _) (fun _ _ _ e => e)
theorem Rg.rd (h : Rg w G size A n xs) : Rd w w.heap.size size A n xs := by
  refine ⟨h.1, fun hn => ?_⟩
  obtain ⟨b, off, e, _, hl, hcell⟩ := h.2 hn
  exact ⟨b, off, e, hl, hcell⟩
theorem Rg.of_rd {B : Nat} (h : Rd w B size A n xs) (hB : B ≤ w.heap.size) (hG : ∀ ad, A = some ad → G ad.block) : Rg w G size A n xs := by
  refine ⟨h.1, fun hn => ?_⟩
  obtain ⟨b, off, e, hl, hcell⟩ := h.2 hn
  exact ⟨b, off, e, hG _ e, by omega, hcell⟩
theorem Rg.lt (h : Rg w G size A n xs) (hn : 0 < n) : ∃ ad, A = some ad ∧ G ad.block ∧ ad.block < w.heap.size := by
  obtain ⟨b, off, e, hb, hl, _⟩ := h.2 hn
  exact ⟨_, e, hb, hl⟩
theorem Rg.take (h : Rg w G size A n xs) {k : Nat} (hk : k ≤ n) : Rg w G size A k (xs.take (k * size)) := by
  refine ⟨by rw [List.length_take, h.1]; exact Nat.min_eq_left (Nat.mul_le_mul_right _ hk), fun hn => ?_⟩
  obtain ⟨b, off, e, hb, hl, hc⟩ := h.2 (by omega)
  refine ⟨b, off, e, hb, hl, fun j u hu => hc j u ?_⟩
  rw [List.getElem?_take] at hu
  split at hu
  · exact hu
  · cases hu
theorem Rg.skip {a : Addr} (h : Rg w G size (some a) n xs) {k : Nat} (hk : k ≤ n) : Rg w G size (some (a.add (k * size))) (n - k) (xs.drop (k * size)) := by
  refine ⟨by rw [List.length_drop, h.1, Nat.sub_mul], fun hn => ?_⟩
  obtain ⟨b, off, e, hb, hl, hc⟩ := h.2 (by omega)
  injection e with e
  subst e
  refine ⟨b, off + k * size, ?_, hb, hl, fun j u hu => ?_⟩
  · unfold Addr.add; split
    · rename_i h0; rw [h0]; rfl
    · rfl
  · rw [List.getElem?_drop] at hu
    rw [Nat.add_assoc]; exact hc _ u hu
end

/-- the block of a slice's address -/
def sf (A : Option Addr) : Foot := fun k => ∃ ad, A = some ad ∧ ad.block = k
theorem sf_some (a : Addr) (k : Nat) : sf (some a) k ↔ a.block = k := by simp [sf]
theorem sf_none (k : Nat) : ¬ sf none k := by simp [sf]

/-- a row of the call's own, at any offset of its block: n elements, c in all -/
def Own (w : World) (e : TypeId) (size : Nat) (A : Option Addr) (n c : Nat) (xs : List Value) : Prop :=
  xs.length = n * size ∧ ((A = none ∧ n = 0 ∧ c = 0) ∨ ∃ g off cur, A = some ⟨g, off, none⟩ ∧ Bk w g e cur ∧ n ≤ c ∧ c ≤ maxLen ∧ off + c * size ≤ cur.size ∧ ∀ j u, xs[j]? = some u → cur[off + j]? = some u)
section
variable {F G H : Foot} {w w' : World} {e : TypeId} {size n c : Nat} {A : Option Addr} {xs : List Value}
theorem Own.none_ (w : World) (e : TypeId) (size : Nat) : Own w e size none 0 0 [] := ⟨by simp, .inl ⟨rfl, rfl, rfl⟩⟩
theorem Own.nil (h : Own w e size A n c xs) : A = none → c = 0 := by
  rintro rfl
  rcases h.2 with ⟨_, _, h⟩ | ⟨g, off, cur, h, _⟩
  · exact h
  · cases h
theorem Own.cap (h : Own w e size A n c xs) : n ≤ c := by
  rcases h.2 with ⟨_, h1, h2⟩ | ⟨g, off, cur, _, _, h, _⟩ <;> omega
theorem Own.max (h : Own w e size A n c xs) : c ≤ maxLen := by
  rcases h.2 with ⟨_, h1, h2⟩ | ⟨g, off, cur, _, _, _, h, _⟩
  · rw [h2]; exact Nat.zero_le _
  · exact h
theorem Own.lt (h : Own w e size A n c xs) : ∀ k, sf A k → k < w.heap.size := by
  rintro k ⟨ad, rfl, rfl⟩
  rcases h.2 with ⟨h, _⟩ | ⟨g, off, cur, h, hb, _⟩
  · cases h
  · cases h; exact hb.lt
theorem Own.chg (h : Own w e size A n c xs) (hc : Chg F w w') (hd : ∀ k, k < w.heap.size → sf A k → ¬ F k) : Own w' e size A n c xs := by
  refine ⟨h.1, ?_⟩
  rcases h.2 with h0 | ⟨g, off, cur, h0, hb, h1⟩
  · exact .inl h0
  · exact .inr ⟨g, off, cur, h0, hb.chg hc (hd g hb.lt (by rw [h0, sf_some])), h1⟩
theorem Own.bel (h : Own w e size A n c xs) (hb : Below w.heap.size w w') : Own w' e size A n c xs := h.chg (F := fun _ => False) (Chg.of_below hb _) (fun _ _ _ e => e)
theorem Own.rg (h : Own w e size A n c xs) : Rg w (sf A) size A n xs := by
  refine ⟨h.1, fun hn => ?_⟩
  rcases h.2 with ⟨_, h1, _⟩ | ⟨g, off, cur, h0, hb, _, _, _, h1⟩
  · omega
  · exact ⟨g, off, h0, by rw [h0, sf_some], hb.lt, fun j u hu => by rw [hb.cell]; exact h1 j u hu⟩
theorem Own.of_row {base : Nat} (h : w.ownsRow base e size (.slice A n c) n xs) : Own w e size A n c xs ∧ ∀ k, sf A k → base ≤ k := by
  rcases h.2 with ⟨h0, h1⟩ | ⟨g, cap, cur, h0, h1, h2, h3, h4, h5, h6⟩
  · cases h0
    exact ⟨⟨h.1, .inl ⟨rfl, h1, rfl⟩⟩, fun k hk => absurd hk (sf_none k)⟩
  · cases h0
    refine ⟨⟨h.1, .inr ⟨g, 0, cur, rfl, h2, h3, h4, by omega, fun j u hu => ?_⟩⟩, fun k hk => by rw [sf_some] at hk; exact hk ▸ h1⟩
    rw [← h6, List.getElem?_take] at hu
    split at hu
    · rw [Nat.zero_add, ← Array.getElem?_toList]; exact hu
    · cases hu
theorem Own.made (w : World) (e : TypeId) (size n c : Nat) (cs : Array Value) (xs : List Value) (hn : n ≤ c) (hc : c ≤ maxLen) (hs : cs.size = c * size) (hl : xs.length = n * size) (hx : cs.toList.take (n * size) = xs) :
    Own (w.alloc (.cells cs e)) e size (some ⟨w.heap.size, 0, none⟩) n c xs := by
  refine ⟨hl, .inr ⟨w.heap.size, 0, cs, rfl, Bk.new w e cs, hn, hc, by omega, fun j u hu => ?_⟩⟩
  rw [← hx, List.getElem?_take] at hu
  split at hu
  · rw [Nat.zero_add, ← Array.getElem?_toList]; exact hu
  · cases hu
/-- what has just been made reads -/
theorem Rg.new (w : World) (e : TypeId) (size n : Nat) (cs : Array Value) (hs : cs.size = n * size) (fr : Nat × Nat := (0, 0)) : Rg (w.alloc (.cells cs e fr)) (fun k => k = w.heap.size) size (some ⟨w.heap.size, 0, none⟩) n cs.toList := by
  refine ⟨by simpa using hs, fun _ => ⟨w.heap.size, 0, rfl, rfl, by simp, fun j u hu => ?_⟩⟩
  rw [Nat.zero_add, World.cell?_alloc_mark w cs e fr j]
  simpa using hu
/-- a prefix of a row -/
theorem Own.take (h : Own w e size A n c xs) {k : Nat} (hk : k ≤ n) : Own w e size A k c (xs.take (k * size)) := by
  refine ⟨by rw [List.length_take, h.1]; exact Nat.min_eq_left (Nat.mul_le_mul_right _ hk), ?_⟩
  rcases h.2 with ⟨h0, h1, h2⟩ | ⟨g, off, cur, h0, hb, h1, h2, h3, h4⟩
  · exact .inl ⟨h0, by omega, h2⟩
  · refine .inr ⟨g, off, cur, h0, hb, by omega, h2, h3, fun j u hu => h4 j u ?_⟩
    rw [List.getElem?_take] at hu
    split at hu
    · exact hu
    · cases hu
/-- what is left behind the first k -/
theorem Own.skip {a : Addr} (h : Own w e size (some a) n c xs) {k : Nat} (hk : k ≤ n) : Own w e size (some (a.add (k * size))) (n - k) (c - k) (xs.drop (k * size)) := by
  refine ⟨by rw [List.length_drop, h.1, Nat.sub_mul], ?_⟩
  rcases h.2 with ⟨h0, _⟩ | ⟨g, off, cur, h0, hb, h1, h2, h3, h4⟩
  · cases h0
  · cases h0
    refine .inr ⟨g, off + k * size, cur, ?_, hb, by omega, by omega, ?_, fun j u hu => ?_⟩
    · unfold Addr.add; split
      · rename_i h0; rw [h0]; rfl
      · rfl
    · have : (c - k) * size + k * size = c * size := by rw [← Nat.add_mul]; congr 1; omega
      omega
    · rw [List.getElem?_drop] at hu
      rw [Nat.add_assoc]; exact h4 _ u hu
/-- one cell of a row written anew -/
theorem Own.put {g off : Nat} (h : Own w e size (some ⟨g, off, none⟩) n c xs) (j : Nat) (hj : j < n * size) (u : Value) : Own (w.setCell ⟨g, off + j, none⟩ u) e size (some ⟨g, off, none⟩) n c (xs.set j u) := by
  refine ⟨by rw [List.length_set]; exact h.1, ?_⟩
  rcases h.2 with ⟨h0, _⟩ | ⟨g', off', cur, h0, hb, h1, h2, h3, h4⟩
  · cases h0
  · cases h0
    refine .inr ⟨g, off, _, rfl, hb.put (off + j) u, h1, h2, by rw [Array.size_setIfInBounds]; exact h3, fun i v hv => ?_⟩
    have hle : n * size ≤ c * size := Nat.mul_le_mul_right _ h1
    by_cases e : i = j
    · subst e
      rw [List.getElem?_set_self (by rw [h.1]; exact hj)] at hv
      rw [Array.getElem?_setIfInBounds_self_of_lt (by omega)]
      exact hv
    · rw [List.getElem?_set_ne (fun e2 => e e2.symm)] at hv
      rw [Array.getElem?_setIfInBounds_ne (by omega)]
      exact h4 i v hv
theorem Own.free {g off : Nat} (h : Own w e size (some ⟨g, off, none⟩) n c xs) (j : Nat) : w.frozen? ⟨g, j, none⟩ = false := by
  rcases h.2 with ⟨h0, _⟩ | ⟨g', off', cur, h0, hb, _⟩
  · cases h0
  · cases h0; exact hb.free j
end

section
variable {P : Program} (w : World)
/-- append onto a row of the call's own at any offset, the source nil, empty or not -/
theorem run_app (t ty e : TypeId) (i : TypeInfo) (z : Value) (size bytes : Nat) (ht : P.underlying t = some (.slice e)) (hi : P.info? e = some i) (hz : i.zero = some z)
    (hsize : i.size = size) (hby : i.bytes = bytes) (hzs : z.cells.size = size) (hsz : 0 < size)
    (A : Option Addr) (n c : Nat) (xs : List Value) (hown : Own w e size A n c xs)
    (G : Foot) (A2 : Option Addr) (m c2 : Nat) (hA2 : A2 = none → c2 = 0) (news : List Value) (hr : Rg w G size A2 m news) (h1 : ∀ u ∈ news, u.oneCell' = true)
    (h63 : n + m ≤ maxLen) (hbytes : (n + m) * bytes ≤ 140737488355328) :
    ∃ A' c' w', (Builtin.append_ #[t, t] ty #[.slice A n c, .slice A2 m c2]).run P w = .ok (.slice A' (n + m) c') w' ∧ Own w' e size A' (n + m) c' (xs ++ news) ∧ Chg (sf A) w w' ∧ Fresh w (sf A) (sf A') := by
  have hm0 : A2 = none → m = 0 ∧ news = [] := by
    intro h2
    have hm : m = 0 := by
      rcases Nat.eq_zero_or_pos m with h0 | h0
      · exact h0
      · obtain ⟨b, off, h, _⟩ := hr.2 h0; rw [h2] at h; cases h
    subst hm
    exact ⟨rfl, List.eq_nil_of_length_eq_zero (by simpa using hr.1)⟩
  subst hsize
  subst hby
  rcases A2 with _ | ad
  · obtain ⟨rfl, rfl⟩ := hm0 rfl
    have := hA2 rfl
    subst this
    refine ⟨A, c, w, ?_, by simpa using hown, Chg.refl _ _, Fresh.refl _ _⟩
    have hcap := hown.cap
    rcases hown.2 with ⟨rfl, rfl, rfl⟩ | ⟨g, off, cur, rfl, _⟩
    · simp [Builtin.append_, run_underlying ht, sizeOf, typeInfo, hi, Builtin.lenOf, Builtin.firstCells]
    · simp [Builtin.append_, run_underlying ht, sizeOf, typeInfo, hi, Builtin.lenOf, Builtin.firstCells, hcap, storeCells]
  · have hcells : ∀ j u, news[j]? = some u → w.cell? (ad.add j) = some u := by
      intro j u hu
      rcases Nat.eq_zero_or_pos m with h0 | h0
      · subst h0
        have hn : news = [] := List.eq_nil_of_length_eq_zero (by simpa using hr.1)
        subst hn
        simp at hu
      · obtain ⟨b, off, h, _, _, hc⟩ := hr.2 h0
        injection h with h
        subst h
        rw [Addr.add_lit]
        exact hc j u hu
    rcases hown.2 with ⟨rfl, rfl, rfl⟩ | ⟨g, off, cur, rfl, hb, hnc, hcm, hfits, hcur⟩
    · have hx : xs = [] := List.eq_nil_of_length_eq_zero (by simpa using hown.1)
      subst hx
      obtain ⟨v', w', hrun, h2, h3, h4⟩ := run_append_own (P := P) w w.heap.size t ty e i z i.size i.bytes ht hi hz rfl rfl hzs hsz (.slice none 0 0) 0 [] (World.ownsRow_nil _ _ _ _) ad m c2 news hr.1 hcells h1 h63 hbytes (Nat.le_refl _)
      obtain ⟨A', c', hv, _⟩ := own_form h2
      subst hv
      have ho := Own.of_row h2
      exact ⟨A', c', w', hrun, ho.1, Chg.grown h3 (by simp [Value.ownBlock]), fun k hk => .inr (ho.2 k hk)⟩
    · have holds : ∀ j u, xs[j]? = some u → w.cell? ((⟨g, off, none⟩ : Addr).add j) = some u := by
        intro j u hu
        rw [Addr.add_lit, hb.cell]
        exact hcur j u hu
      by_cases hroom : n + m ≤ c
      · have hle : (n + m) * i.size ≤ c * i.size := Nat.mul_le_mul_right _ hroom
        rw [Nat.add_mul] at hle
        have hf := run_firstCells_some (P := P) w i.size m ad m c2 news hr.1 hcells
        have hfit : off + n * i.size + news.length ≤ cur.size := by rw [hr.1]; omega
        have hst := run_storeCells_at P g (off + n * i.size) e news 0 cur w hb (by simpa using hfit) h1
        simp only [Nat.add_zero] at hst
        refine ⟨some ⟨g, off, none⟩, c, w.setRow g (cur.toList.take (off + n * i.size) ++ news ++ cur.toList.drop (off + n * i.size + news.length)).toArray, ?_, ⟨by rw [List.length_append, hown.1, hr.1, Nat.add_mul], .inr ⟨g, off, _, rfl, setRow_heap w g cur _ e _ hb, hroom, hcm, ?_, ?_⟩⟩, ⟨rfl, rfl, rfl, by simp, fun k _ hk => setRow_other w g k _ (fun e => hk (by rw [sf_some, e]))⟩, Fresh.refl _ _⟩
        · simp [Builtin.append_, run_underlying ht, sizeOf, typeInfo, hi, Builtin.lenOf, hroom, hf, Addr.add_lit, hst]
        · have := Nat.add_mul n m i.size
          simp only [List.size_toArray, List.length_append, List.length_take, List.length_drop, Array.length_toList]
          omega
        · intro j u hu
          have hn := hown.1
          rw [List.getElem?_toArray, List.append_assoc]
          by_cases hj : j < n * i.size
          · rw [List.getElem?_append_left (by omega)] at hu
            rw [List.getElem?_append_left (by simp; omega), List.getElem?_take_of_lt (by omega), Array.getElem?_toList]
            exact hcur j u hu
          · rw [List.getElem?_append_right (by omega), hn] at hu
            have hj2 : j - n * i.size < news.length := by
              rcases Nat.lt_or_ge (j - n * i.size) news.length with h | h
              · exact h
              · rw [List.getElem?_eq_none h] at hu; cases hu
            have hlt : (cur.toList.take (off + n * i.size)).length = off + n * i.size := by simp; omega
            rw [List.getElem?_append_right (by omega), hlt, List.getElem?_append_left (by omega), ← hu]
            congr 1
            omega
      · obtain ⟨v', w', hrun, h2, h3⟩ := run_append_arg_grows (P := P) w t ty e i z i.size i.bytes ht hi hz rfl rfl hzs hsz ⟨g, off, none⟩ n c xs hown.1 holds ad m c2 news hr.1 hcells (by omega) h63 hbytes
        obtain ⟨A', c', hv, _⟩ := own_form h2
        subst hv
        have ho := Own.of_row h2
        exact ⟨A', c', w', hrun, ho.1, Chg.grown h3 (by intro g h; cases h), fun k hk => .inr (ho.2 k hk)⟩

theorem wp_app {o : Oper} {a : Act} {K : Act → World → Prop} {Q : Exit → Act → World → Prop} (s x : Operand) (t : TypeId)
    (ho : o.op = .call { callee := .builtin .append, args := #[s, x], argTypes := #[t, t] })
    (e : TypeId) (i : TypeInfo) (z : Value) (size bytes : Nat) (ht : P.underlying t = some (.slice e)) (hi : P.info? e = some i) (hz : i.zero = some z)
    (hsize : i.size = size) (hby : i.bytes = bytes) (hzs : z.cells.size = size) (hsz : 0 < size)
    (A : Option Addr) (n c : Nat) (xs : List Value) (hs : a.eval s = .slice A n c) (hown : Own w e size A n c xs)
    (G : Foot) (A2 : Option Addr) (m c2 : Nat) (hA2 : A2 = none → c2 = 0) (news : List Value) (hx : a.eval x = .slice A2 m c2) (hr : Rg w G size A2 m news) (h1 : ∀ u ∈ news, u.oneCell' = true)
    (h63 : n + m ≤ maxLen) (hbytes : (n + m) * bytes ≤ 140737488355328)
    (h : ∀ A' c' w', Own w' e size A' (n + m) c' (xs ++ news) → Chg (sf A) w w' → Fresh w (sf A) (sf A') → K (a.put o.dst (.slice A' (n + m) c')) w') : o.wp P a w K Q := by
  obtain ⟨A', c', w', hrun, h2, h3, h4⟩ := run_app (P := P) w t o.type e i z size bytes ht hi hz hsize hby hzs hsz A n c xs hown G A2 m c2 hA2 news hr h1 h63 hbytes
  unfold Oper.wp execOp
  simp only [ho, resolve, invoke, builtin, Sem.run_bind, Sem.run_pure, Result.andThen_ok, List.map_toArray, List.map_cons, List.map_nil, hs, hx, hrun]
  exact h A' c' w' h2 h3 h4

theorem wpList_app {ops : Array Oper} {rest : List Oper} {o : Oper} {a : Act} {Q : Exit → Act → World → Prop} (hgd : o.guard = none) (s x : Operand) (t : TypeId)
    (ho : o.op = .call { callee := .builtin .append, args := #[s, x], argTypes := #[t, t] })
    (e : TypeId) (i : TypeInfo) (z : Value) (size bytes : Nat) (ht : P.underlying t = some (.slice e)) (hi : P.info? e = some i) (hz : i.zero = some z)
    (hsize : i.size = size) (hby : i.bytes = bytes) (hzs : z.cells.size = size) (hsz : 0 < size)
    (A : Option Addr) (n c : Nat) (xs : List Value) (hs : a.eval s = .slice A n c) (hown : Own w e size A n c xs)
    (G : Foot) (A2 : Option Addr) (m c2 : Nat) (hA2 : A2 = none → c2 = 0) (news : List Value) (hx : a.eval x = .slice A2 m c2) (hr : Rg w G size A2 m news) (h1 : ∀ u ∈ news, u.oneCell' = true)
    (h63 : n + m ≤ maxLen) (hbytes : (n + m) * bytes ≤ 140737488355328)
    (h : ∀ A' c' w', Own w' e size A' (n + m) c' (xs ++ news) → Chg (sf A) w w' → Fresh w (sf A) (sf A') → wpList P ops Q rest (a.put o.dst (.slice A' (n + m) c')) w') : wpList P ops Q (o :: rest) a w :=
  wpList_plain hgd fun _ hK => wp_app w s x t ho e i z size bytes ht hi hz hsize hby hzs hsz A n c xs hs hown G A2 m c2 hA2 news hx hr h1 h63 hbytes fun A' c' w' h2 h3 h4 => hK _ _ (h A' c' w' h2 h3 h4)

theorem step_app {ops : Array Oper} {o : Oper} {a : Act} {K : Act → World → Prop} {Q : Exit → Act → World → Prop} {E : Prop} (hgd : o.guard = none) (s x : Operand) (t : TypeId)
    (ho : o.op = .call { callee := .builtin .append, args := #[s, x], argTypes := #[t, t] })
    (e : TypeId) (i : TypeInfo) (z : Value) (size bytes : Nat) (ht : P.underlying t = some (.slice e)) (hi : P.info? e = some i) (hz : i.zero = some z)
    (hsize : i.size = size) (hby : i.bytes = bytes) (hzs : z.cells.size = size) (hsz : 0 < size)
    (A : Option Addr) (n c : Nat) (xs : List Value) (hs : a.eval s = .slice A n c) (hown : Own w e size A n c xs)
    (G : Foot) (A2 : Option Addr) (m c2 : Nat) (hA2 : A2 = none → c2 = 0) (news : List Value) (hx : a.eval x = .slice A2 m c2) (hr : Rg w G size A2 m news) (h1 : ∀ u ∈ news, u.oneCell' = true)
    (h63 : n + m ≤ maxLen) (hbytes : (n + m) * bytes ≤ 140737488355328)
    (h : ∀ A' c' w', Own w' e size A' (n + m) c' (xs ++ news) → Chg (sf A) w w' → Fresh w (sf A) (sf A') → K (a.put o.dst (.slice A' (n + m) c')) w') :
    if Region.wanted o (yielded ops a.tmps) = true then Oper.wp P o a w K Q else E := by
  have hw : Region.wanted o (yielded ops a.tmps) = true := by simp [Region.wanted, hgd]
  rw [if_pos hw]
  exact wp_app w s x t ho e i z size bytes ht hi hz hsize hby hzs hsz A n c xs hs hown G A2 m c2 hA2 news hx hr h1 h63 hbytes h
end
end Go.Proofs.YtbljhjfaimnieaaGreat.foot

namespace Go.Proofs.YtbljhjfaimnieaaGreat.foot
open Go.RowKit Go.Joins Go.ChangeShapes Go.WideShapes Go.ChangeAt Go.Proofs.YtbljhjfaimnieaaGreat.kit Go.Proofs.YtbljhjfaimnieaaGreat.mem
set_option linter.unusedVariables false

/-- in this world, with memory in these blocks, these cells say this -/
abbrev Rel (α : Type) := World → Foot → List Value → α → Prop
/-- n cells, one value each, that stay what they are while their blocks do -/
structure Keeps {α : Type} (n : Nat) (R : Rel α) : Prop where
  len : ∀ {w G cs a}, R w G cs a → cs.length = n
  one : ∀ {w G cs a}, R w G cs a → ∀ u ∈ cs, u.oneCell' = true
  chg : ∀ {F w w' G cs a}, R w G cs a → Chg F w w' → (∀ k, k < w.heap.size → G k → ¬ F k) → R w' G cs a
  mono : ∀ {w G H cs a}, R w G cs a → (∀ k, k < w.heap.size → G k → H k) → R w H cs a

def rInt (k : IntKind) : Rel Int := fun _ _ cs a => cs = [.int k a] ∧ (Lit.int k a).wf = true
def rPair {α β : Type} (R : Rel α) (S : Rel β) : Rel (α × β) := fun w G cs p => ∃ c1 c2, cs = c1 ++ c2 ∧ R w G c1 p.1 ∧ S w G c2 p.2
/-- elements of n cells each -/
def rAll {α : Type} (R : Rel α) (w : World) (G : Foot) : List Value → List α → Prop
  | vs, [] => vs = []
  | vs, x :: l => ∃ h t, vs = h ++ t ∧ R w G h x ∧ rAll R w G t l
/-- a slice's elements in memory -/
def Els {α : Type} (n : Nat) (R : Rel α) (w : World) (G : Foot) (A : Option Addr) (l : List α) : Prop := ∃ vs, Rg w G n A l.length vs ∧ rAll R w G vs l
def rSl {α : Type} (n : Nat) (R : Rel α) : Rel (List α) := fun w G cs l => ∃ A c, cs = [.slice A l.length c] ∧ (A = none → c = 0) ∧ l.length ≤ c ∧ c ≤ maxLen ∧ Els n R w G A l

theorem keeps_int (k : IntKind) : Keeps 1 (rInt k) :=
  ⟨fun h => by rw [h.1]; rfl, fun h u hu => by rw [h.1] at hu; simp at hu; rw [hu]; rfl, fun h _ _ => h, fun h _ => h⟩
theorem keeps_pair {α β : Type} {R : Rel α} {S : Rel β} {n m : Nat} (hR : Keeps n R) (hS : Keeps m S) : Keeps (n + m) (rPair R S) := by
  refine ⟨fun h => ?_, fun h u hu => ?_, fun h hc hd => ?_, fun h hG => ?_⟩
  all_goals obtain ⟨c1, c2, rfl, h1, h2⟩ := h
  · rw [List.length_append, hR.len h1, hS.len h2]
  · rcases List.mem_append.1 hu with e | e
    · exact hR.one h1 u e
    · exact hS.one h2 u e
  · exact ⟨c1, c2, rfl, hR.chg h1 hc hd, hS.chg h2 hc hd⟩
  · exact ⟨c1, c2, rfl, hR.mono h1 hG, hS.mono h2 hG⟩

section
variable {α : Type} {R : Rel α} {n : Nat} {w w' : World} {F G H : Foot}
theorem rAll.chg (hR : Keeps n R) (hc : Chg F w w') (hd : ∀ k, k < w.heap.size → G k → ¬ F k) : ∀ {l : List α} {vs : List Value}, rAll R w G vs l → rAll R w' G vs l
  | [], _, h => h
  | _ :: l, _, ⟨a, t, e, h1, h2⟩ => ⟨a, t, e, hR.chg h1 hc hd, rAll.chg hR hc hd h2⟩
theorem rAll.mono (hR : Keeps n R) (hG : ∀ k, k < w.heap.size → G k → H k) : ∀ {l : List α} {vs : List Value}, rAll R w G vs l → rAll R w H vs l
  | [], _, h => h
  | _ :: l, _, ⟨a, t, e, h1, h2⟩ => ⟨a, t, e, hR.mono h1 hG, rAll.mono hR hG h2⟩
theorem rAll.len (hR : Keeps n R) : ∀ {l : List α} {vs : List Value}, rAll R w G vs l → vs.length = l.length * n
  | [], _, h => by rw [show _ = [] from h]; simp
  | _ :: l, _, ⟨a, t, e, h1, h2⟩ => by rw [e, List.length_append, hR.len h1, rAll.len hR h2, List.length_cons, Nat.succ_mul]; omega
theorem rAll.one (hR : Keeps n R) : ∀ {l : List α} {vs : List Value}, rAll R w G vs l → ∀ u ∈ vs, u.oneCell' = true
  | [], _, h, u, hu => by rw [show _ = [] from h] at hu; cases hu
  | _ :: l, _, ⟨a, t, e, h1, h2⟩, u, hu => by
    rw [e] at hu
    rcases List.mem_append.1 hu with e | e
    · exact hR.one h1 u e
    · exact rAll.one hR h2 u e
theorem rAll.app : ∀ {l l' : List α} {vs vs' : List Value}, rAll R w G vs l → rAll R w G vs' l' → rAll R w G (vs ++ vs') (l ++ l')
  | [], _, _, _, h, h' => by rw [show _ = [] from h]; exact h'
  | _ :: l, _, _, _, ⟨a, t, e, h1, h2⟩, h' => ⟨a, t ++ _, by rw [e, List.append_assoc], h1, rAll.app h2 h'⟩
theorem rAll.single {cs : List Value} {x : α} (h : R w G cs x) : rAll R w G cs [x] := ⟨cs, [], by simp, h, rfl⟩
theorem rAll.drop (hR : Keeps n R) : ∀ {l : List α} {vs : List Value} (k : Nat), rAll R w G vs l → rAll R w G (vs.drop (k * n)) (l.drop k)
  | _, _, 0, h => by simpa using h
  | [], _, k + 1, h => by rw [show _ = [] from h]; simp [rAll]
  | x :: l, _, k + 1, ⟨a, t, e, h1, h2⟩ => by
    have := rAll.drop hR k h2
    rw [e, show (k + 1) * n = a.length + k * n from by rw [hR.len h1, Nat.succ_mul]; omega, ← List.drop_drop, List.drop_left, List.drop_succ_cons]
    exact this
theorem rAll.take (hR : Keeps n R) : ∀ {l : List α} {vs : List Value} (k : Nat), rAll R w G vs l → rAll R w G (vs.take (k * n)) (l.take k)
  | _, _, 0, h => by simp [rAll]
  | [], _, k + 1, h => by rw [show _ = [] from h]; simp [rAll]
  | x :: l, _, k + 1, ⟨a, t, e, h1, h2⟩ => by
    have := rAll.take hR k h2
    refine ⟨a, t.take (k * n), ?_, h1, this⟩
    rw [e, show (k + 1) * n = a.length + k * n from by rw [hR.len h1, Nat.succ_mul]; omega, List.take_length_add_append]
/-- the k-th element's cells -/
theorem rAll.at_ (hR : Keeps n R) : ∀ {l : List α} {vs : List Value}, rAll R w G vs l → ∀ {k : Nat} (hk : k < l.length), ∃ cs, R w G cs l[k] ∧ ∀ j, j < n → vs[k * n + j]? = cs[j]?
  | x :: l, _, ⟨a, t, e, h1, h2⟩, 0, hk => ⟨a, h1, fun j hj => by rw [e]; simp; rw [List.getElem?_append_left (by rw [hR.len h1]; exact hj)]⟩
  | x :: l, _, ⟨a, t, e, h1, h2⟩, k + 1, hk => by
    obtain ⟨cs, hc, hx⟩ := rAll.at_ hR h2 (k := k) (by simpa using hk)
    refine ⟨cs, by simpa using hc, fun j hj => ?_⟩
    rw [e, List.getElem?_append_right (by rw [hR.len h1, Nat.succ_mul]; omega), hR.len h1, ← hx j hj]
    congr 1
    rw [Nat.succ_mul]; omega
theorem Els.chg {A : Option Addr} {l : List α} (hR : Keeps n R) (h : Els n R w G A l) (hc : Chg F w w') (hd : ∀ k, k < w.heap.size → G k → ¬ F k) : Els n R w' G A l := by
  obtain ⟨vs, h1, h2⟩ := h
  exact ⟨vs, h1.chg hc hd, h2.chg hR hc hd⟩
theorem Els.mono {A : Option Addr} {l : List α} (hR : Keeps n R) (h : Els n R w G A l) (hG : ∀ k, k < w.heap.size → G k → H k) : Els n R w H A l := by
  obtain ⟨vs, h1, h2⟩ := h
  exact ⟨vs, h1.mono hG, h2.mono hR hG⟩
theorem Els.bel {A : Option Addr} {l : List α} (hR : Keeps n R) (h : Els n R w G A l) (hb : Below w.heap.size w w') : Els n R w' G A l := h.chg hR (F := fun _ => False) (Chg.of_below hb _) (fun _ _ _ e => e)
theorem Els.nil_ (w : World) (G : Foot) (A : Option Addr) : Els n R w G A ([] : List α) := ⟨[], Rg.nil _ _ _ _, rfl⟩
/-- where the k-th element lies, and its cells -/
theorem Els.at_ {A : Option Addr} {l : List α} (hR : Keeps n R) (h : Els n R w G A l) {k : Nat} (hk : k < l.length) :
    ∃ b off cs, A = some ⟨b, off, none⟩ ∧ G b ∧ b < w.heap.size ∧ R w G cs l[k] ∧ ∀ j u, cs[j]? = some u → w.cell? ⟨b, off + k * n + j, none⟩ = some u := by
  obtain ⟨vs, h1, h2⟩ := h
  obtain ⟨b, off, e, hb, hl, hc⟩ := h1.2 (by omega)
  obtain ⟨cs, hr, hx⟩ := h2.at_ hR hk
  refine ⟨b, off, cs, e, hb, hl, hr, fun j u hu => ?_⟩
  have hj : j < n := by
    rw [← hR.len hr]
    rcases Nat.lt_or_ge j cs.length with h | h
    · exact h
    · rw [List.getElem?_eq_none h] at hu; cases hu
  rw [Nat.add_assoc]
  exact hc _ u (by rw [hx j hj]; exact hu)
theorem Els.take {A : Option Addr} {l : List α} (hR : Keeps n R) (h : Els n R w G A l) {k : Nat} (hk : k ≤ l.length) : Els n R w G A (l.take k) := by
  obtain ⟨vs, h1, h2⟩ := h
  exact ⟨vs.take (k * n), by rw [List.length_take, Nat.min_eq_left hk]; exact h1.take hk, h2.take hR k⟩
theorem Els.skip {a : Addr} {l : List α} (hR : Keeps n R) (h : Els n R w G (some a) l) {k : Nat} (hk : k ≤ l.length) : Els n R w G (some (a.add (k * n))) (l.drop k) := by
  obtain ⟨vs, h1, h2⟩ := h
  exact ⟨vs.drop (k * n), by rw [List.length_drop]; exact h1.skip hk, h2.drop hR k⟩
theorem Els.lt {A : Option Addr} {l : List α} (h : Els n R w G A l) (hn : 0 < l.length) : ∃ ad, A = some ad ∧ G ad.block ∧ ad.block < w.heap.size := by
  obtain ⟨vs, h1, _⟩ := h
  exact h1.lt hn
theorem keeps_sl (hR : Keeps n R) : Keeps 1 (rSl n R) := by
  refine ⟨fun h => ?_, fun h u hu => ?_, fun h hc hd => ?_, fun h hG => ?_⟩
  all_goals obtain ⟨A, c, rfl, h1, h2, h3, h4⟩ := h
  · rfl
  · simp at hu; rw [hu]; rfl
  · exact ⟨A, c, rfl, h1, h2, h3, h4.chg hR hc hd⟩
  · exact ⟨A, c, rfl, h1, h2, h3, h4.mono hR hG⟩
end

section
variable {H : Type} {enc : TypeId × Value → H} {P : Program} {w : World} {base : Nat} {held : Bool}
end
end Go.Proofs.YtbljhjfaimnieaaGreat.foot

namespace Go.Proofs.YtbljhjfaimnieaaGreat.foot
open Go.RowKit Go.Proofs.YtbljhjfaimnieaaGreat.kit Go.Proofs.YtbljhjfaimnieaaGreat.mem
set_option linter.unusedVariables false

/-- gathered since world w: n elements, these cells -/
structure Acc (w : World) (e : TypeId) (size : Nat) (w' : World) (A : Option Addr) (n c : Nat) (xs : List Value) : Prop where
  own : Own w' e size A n c xs
  bel : Below w.heap.size w w'
  low : ∀ x, sf A x → w.heap.size ≤ x
section
variable {w w1 w2 : World} {e : TypeId} {size n m c c' : Nat} {A A' : Option Addr} {xs news : List Value} {F : Foot}
theorem Own.empty {w : World} {g : Nat} {e : TypeId} {size : Nat} (h : Bk w g e #[]) : Own w e size (some ⟨g, 0, none⟩) 0 0 [] :=
  ⟨by simp, .inr ⟨g, 0, #[], rfl, h, Nat.le_refl _, Nat.zero_le _, by simp, fun j u hu => by simp at hu⟩⟩
theorem Acc.start {g : Nat} (hb : Below w.heap.size w w1) (h : Bk w1 g e #[]) (hg : w.heap.size ≤ g) : Acc w e size w1 (some ⟨g, 0, none⟩) 0 0 [] :=
  ⟨Own.empty h, hb, fun x hx => by rw [sf_some] at hx; have : g = x := hx; omega⟩
theorem Acc.go (h : Acc w e size w1 A n c xs) (hb : Below w1.heap.size w1 w2) : Acc w e size w2 A n c xs := ⟨h.own.bel hb, h.bel.trans (hb.mono h.bel.size), h.low⟩
theorem Acc.app {w0 : World} (h : Acc w e size w0 A n c xs) (ho : Own w2 e size A' m c' news) (hc : Chg (sf A) w0 w2) (hf : Fresh w0 (sf A) (sf A')) : Acc w e size w2 A' m c' news :=
  ⟨ho, h.bel.trans (hc.below h.low h.bel.size), fun x hx => by
    rcases hf x hx with k | k
    · exact h.low x k
    · have := h.bel.size; omega⟩
/-- a row that was there is there behind an append -/
theorem Acc.kept {w0 : World} {G : Foot} {B : Option Addr} {k : Nat} {ys : List Value} (h : Acc w e size w0 A n c xs) (hc : Chg (sf A) w0 w2) (hr : Rg w G size B k ys) : Rg w2 G size B k ys := by
  have h0 : Rg w0 G size B k ys := by
    refine ⟨hr.1, fun hk => ?_⟩
    obtain ⟨b, off, e1, hb, hl, hcell⟩ := hr.2 hk
    exact ⟨b, off, e1, hb, Nat.lt_of_lt_of_le hl h.bel.size, fun j u hu => (h.bel.cell (p := ⟨b, off + j, none⟩) hl).trans (hcell j u hu)⟩
  refine ⟨h0.1, fun hk => ?_⟩
  obtain ⟨b, off, e1, hb, hl, hcell⟩ := hr.2 hk
  obtain ⟨b', off', e2, hb', hl', hcell'⟩ := h0.2 hk
  rw [e1] at e2
  cases e2
  exact ⟨b, off, e1, hb, Nat.lt_of_lt_of_le hl' hc.size, fun j u hu => by rw [World.cell?_of_block (w := w0) (hc.block b hl' (fun hs => by have := h.low b hs; omega))]; exact hcell' j u hu⟩
theorem Acc.rg {G : Foot} {B : Option Addr} {k : Nat} {ys : List Value} (h : Acc w e size w1 A n c xs) (hr : Rg w G size B k ys) : Rg w1 G size B k ys := by
  refine ⟨hr.1, fun hk => ?_⟩
  obtain ⟨b, off, e1, hb, hl, hcell⟩ := hr.2 hk
  exact ⟨b, off, e1, hb, Nat.lt_of_lt_of_le hl h.bel.size, fun j u hu => (h.bel.cell (p := ⟨b, off + j, none⟩) hl).trans (hcell j u hu)⟩
end
theorem Own.form {w : World} {e : TypeId} {size n c : Nat} {A : Option Addr} {xs : List Value} (h : Own w e size A n c xs) (hn : 0 < n) : ∃ g off, A = some ⟨g, off, none⟩ := by
  rcases h.2 with ⟨_, h1, _⟩ | ⟨g, off, cur, h1, _⟩
  · omega
  · exact ⟨g, off, h1⟩
theorem Own.at_ {w : World} {e : TypeId} {size n c g off : Nat} {xs : List Value} (h : Own w e size (some ⟨g, off, none⟩) n c xs) (j : Nat) {u : Value} (hu : xs[j]? = some u) : w.cell? ⟨g, off + j, none⟩ = some u ∧ (∀ i, w.frozen? ⟨g, i, none⟩ = false) ∧ g < w.heap.size := by
  refine ⟨?_, fun i => h.free i, h.lt g (by rw [sf_some])⟩
  rcases h.2 with ⟨h1, _⟩ | ⟨g', off', cur, h1, hb, _, _, _, hc⟩
  · cases h1
  · cases h1
    rw [hb.cell]; exact hc j u hu
/-- rows read, that lie from block B on -/
structure Row3 (B : Nat) (w : World) (size : Nat) (A : Option Addr) (n c : Nat) (xs : List Value) : Prop where
  nil : A = none → c = 0
  cap : n ≤ c
  max : c ≤ maxLen
  rg : Rg w (sf A) size A n xs
  low : ∀ x, sf A x → B ≤ x
  lt : ∀ x, sf A x → x < w.heap.size
section
variable {B n c size : Nat} {w w1 w' : World} {e : TypeId} {A : Option Addr} {xs : List Value} {F : Foot}
theorem Acc.row (h : Acc w e size w' A n c xs) (hB : B ≤ w.heap.size) : Row3 B w' size A n c xs := ⟨h.own.nil, h.own.cap, h.own.max, h.own.rg, fun x hx => Nat.le_trans hB (h.low x hx), h.own.lt⟩
theorem Row3.chg (h : Row3 B w size A n c xs) (hc : Chg F w w') (hd : ∀ x, sf A x → ¬ F x) : Row3 B w' size A n c xs := ⟨h.nil, h.cap, h.max, h.rg.chg hc fun x _ hx => hd x hx, h.low, fun x hx => Nat.lt_of_lt_of_le (h.lt x hx) hc.size⟩
theorem Row3.bel (h : Row3 B w size A n c xs) (hb : Below w.heap.size w w') : Row3 B w' size A n c xs := h.chg (F := fun _ => False) (Chg.of_below hb _) fun _ _ e => e
theorem Row3.empty {g : Nat} (h : Bk w g e #[]) (hg : B ≤ g) (size : Nat) : Row3 B w size (some ⟨g, 0, none⟩) 0 0 [] :=
  ⟨(fun h => by cases h), Nat.le_refl _, Nat.zero_le _, Rg.nil _ _ _ _, fun x hx => by rw [sf_some] at hx; have : g = x := hx; omega, fun x hx => by rw [sf_some] at hx; have : g = x := hx; have := h.lt; omega⟩
/-- the cells of the k-th element -/
theorem Row3.cell (h : Row3 B w size A n c xs) {k j : Nat} (hk : k < n) (hj : j < size) {u : Value} (hu : xs[k * size + j]? = some u) : ∃ b off, A = some ⟨b, off, none⟩ ∧ b < w.heap.size ∧ B ≤ b ∧ w.cell? ⟨b, off + k * size + j, none⟩ = some u := by
  obtain ⟨b, off, e, hb, hl, hc⟩ := h.rg.2 (by omega)
  exact ⟨b, off, e, hl, h.low b hb, by rw [Nat.add_assoc]; exact hc _ u hu⟩
end
end Go.Proofs.YtbljhjfaimnieaaGreat.foot

namespace Go.Proofs.YtbljhjfaimnieaaGreat.foot
open Go.RowKit Go.Proofs.YtbljhjfaimnieaaGreat.kit Go.Proofs.YtbljhjfaimnieaaGreat.mem
set_option linter.unusedVariables false

/-- gathered since world w: m elements of n cells each, that say l; what they point at lies in B -/
structure Lst {α : Type} (n : Nat) (R : Rel α) (e : TypeId) (B : Foot) (w w' : World) (A : Option Addr) (m c : Nat) (vs : List Value) (l : List α) : Prop where
  acc : Acc w e n w' A m c vs
  all : rAll R w' (fun k => B k ∧ ¬ sf A k) vs l
  len : l.length = m
section
variable {α : Type} {n : Nat} {R : Rel α} {e : TypeId} {B : Foot} {w w' w0 w2 : World} {A A' : Option Addr} {m k c c' : Nat} {vs news : List Value} {l l2 : List α}
theorem Lst.go (hR : Keeps n R) (h : Lst n R e B w w' A m c vs l) (hb : Below w'.heap.size w' w2) : Lst n R e B w w2 A m c vs l :=
  ⟨h.acc.go hb, h.all.chg hR (F := fun _ => False) (Chg.of_below hb _) (fun _ _ _ e => e), h.len⟩
theorem Lst.nil (w : World) : Lst n R e B w w none 0 0 [] [] := ⟨⟨Own.none_ _ _ _, Below.refl _ _, fun x hx => absurd hx (sf_none x)⟩, rfl, rfl⟩
theorem Lst.start {g : Nat} (hb : Below w.heap.size w w') (h : Bk w' g e #[]) (hg : w.heap.size ≤ g) : Lst n R e B w w' (some ⟨g, 0, none⟩) 0 0 [] [] := ⟨Acc.start hb h hg, rfl, rfl⟩
/-- more behind it -/
theorem Lst.app (hR : Keeps n R) (h : Lst n R e B w w0 A m c vs l) (hn : rAll R w0 (fun k => B k ∧ ¬ sf A k) news l2) (hk : l2.length = k) (ho : Own w2 e n A' (m + k) c' (vs ++ news)) (hc : Chg (sf A) w0 w2) (hf : Fresh w0 (sf A) (sf A')) : Lst n R e B w w2 A' (m + k) c' (vs ++ news) (l ++ l2) := by
  have key : ∀ {xs : List Value} {q : List α}, rAll R w0 (fun k => B k ∧ ¬ sf A k) xs q → rAll R w2 (fun k => B k ∧ ¬ sf A' k) xs q := fun {xs q} hh => by
    have h1 : rAll R w0 (fun k => (B k ∧ ¬ sf A k) ∧ ¬ sf A' k) xs q := hh.mono hR fun k hk hG => ⟨hG, fun hs => by
      rcases hf k hs with e | e
      · exact hG.2 e
      · omega⟩
    exact (h1.chg hR hc fun k _ hG hs => hG.1.2 hs).mono hR fun k _ hG => ⟨hG.1.1, hG.2⟩
  exact ⟨h.acc.app ho hc hf, rAll.app (key h.all) (key hn), by rw [List.length_append, h.len, hk]⟩
/-- as a slice that is read -/
theorem Lst.els (hR : Keeps n R) (h : Lst n R e B w w' A m c vs l) : Els n R w' (fun k => w.heap.size ≤ k ∨ B k) A l :=
  ⟨vs, by rw [h.len]; exact h.acc.own.rg.mono fun k _ hk => .inl (h.acc.low k hk), h.all.mono hR fun k _ hk => .inr hk.1⟩
theorem Lst.wide (hR : Keeps n R) (h : Lst n R e B w w' A m c vs l) {C : Foot} (hC : ∀ k, k < w'.heap.size → B k → C k) : Lst n R e C w w' A m c vs l :=
  ⟨h.acc, h.all.mono hR fun k hk hG => ⟨hC k hk hG.1, hG.2⟩, h.len⟩
/-- seen from an elder world -/
theorem Lst.elder {v : World} (h : Lst n R e B w w' A m c vs l) (hb : Below v.heap.size v w) : Lst n R e B v w' A m c vs l :=
  ⟨⟨h.acc.own, hb.trans (h.acc.bel.mono hb.size), fun x hx => Nat.le_trans hb.size (h.acc.low x hx)⟩, h.all, h.len⟩
end
/-- a list handed back in new memory -/
def RetL {α : Type} (n : Nat) (R : Rel α) (e : TypeId) (l : List α) (w : World) (r : Ending) (w' : World) : Prop :=
  ∃ A c vs, r = .returned (.slice A l.length c) ∧ Lst n R e (fun k => w.heap.size ≤ k) w w' A l.length c vs l
end Go.Proofs.YtbljhjfaimnieaaGreat.foot

namespace Go.Proofs.YtbljhjfaimnieaaGreat.foot
open Go.RowKit Go.Joins Go.ChangeShapes Go.WideShapes Go.ChangeAt Go.Proofs.YtbljhjfaimnieaaGreat.kit Go.Proofs.YtbljhjfaimnieaaGreat.mem
set_option linter.unusedVariables false
section
variable {H : Type} {enc : TypeId × Value → H} {P : Program} {w : World} {base : Nat} {held : Bool}
end

end Go.Proofs.YtbljhjfaimnieaaGreat.foot

namespace Go.Proofs.YtbljhjfaimnieaaGreat.foot
open Go.RowKit Go.Proofs.YtbljhjfaimnieaaGreat.kit Go.Proofs.YtbljhjfaimnieaaGreat.mem
set_option linter.unusedVariables false
set_option linter.unusedSimpArgs false
section
variable {P : Program}
theorem fill_all {z : Value} {size : Nat} (hpos : 0 < size) (vs : List Value) (parts : List (Nat × Value)) (hp : parts = (vs.zipIdx 0).map fun x => (x.2, x.1)) (h1 : ∀ v ∈ vs, v.cells.size = size) (C : List Value) (hC : (vs.flatMap fun v => v.cells.toList) = C) :
    Instr.fill (fun i => some (i * size, size)) ((Array.range (vs.length * size)).map (z.cells[· % z.cells.size]!)) parts = some C.toArray := by
  subst hp hC
  exact Great.fill_whole hpos vs _ h1 (by simp)

theorem wp_lit {o : Oper} {a : Act} {w : World} {K : Act → World → Prop} {Q : Exit → Act → World → Prop} (t e : TypeId) (len : Nat) (parts : Array (Nat × Operand)) (ho : o.op = .buildSlice t len parts)
    (i : TypeInfo) (z : Value) (size : Nat) (ht : P.underlying t = some (.slice e)) (hi : P.info? e = some i) (hz : i.zero = some z) (hsize : i.size = size) (hsz : 0 < size)
    (vs : List Value) (hl : vs.length = len) (hlp : 0 < len) (hsm : len * size ≤ 16777216) (hp : (parts.toList.map fun x => (x.1, a.eval x.2)) = (vs.zipIdx 0).map fun x => (x.2, x.1)) (h1 : ∀ v ∈ vs, v.cells.size = size)
    (C : List Value) (hC : (vs.flatMap fun v => v.cells.toList) = C) (h : K (a.put o.dst (.slice (some ⟨w.heap.size, 0, none⟩) len len)) (w.alloc (.cells C.toArray e))) : o.wp P a w K Q := by
  subst hl hsize
  refine wp_buildSlice t e _ parts ho C.toArray i z ht hi hz (by omega) (fun e => ?_) (fill_all hsz vs _ (by rw [Array.toList_map]; exact hp) h1 C hC) h
  rcases Nat.mul_eq_zero.1 e with h | h <;> omega

theorem wpList_lit {ops : Array Oper} {rest : List Oper} {o : Oper} {a : Act} {w : World} {Q : Exit → Act → World → Prop} (hgd : o.guard = none) (t e : TypeId) (len : Nat) (parts : Array (Nat × Operand)) (ho : o.op = .buildSlice t len parts)
    (i : TypeInfo) (z : Value) (size : Nat) (ht : P.underlying t = some (.slice e)) (hi : P.info? e = some i) (hz : i.zero = some z) (hsize : i.size = size) (hsz : 0 < size)
    (vs : List Value) (hl : vs.length = len) (hlp : 0 < len) (hsm : len * size ≤ 16777216) (hp : (parts.toList.map fun x => (x.1, a.eval x.2)) = (vs.zipIdx 0).map fun x => (x.2, x.1)) (h1 : ∀ v ∈ vs, v.cells.size = size)
    (C : List Value) (hC : (vs.flatMap fun v => v.cells.toList) = C) (h : wpList P ops Q rest (a.put o.dst (.slice (some ⟨w.heap.size, 0, none⟩) len len)) (w.alloc (.cells C.toArray e))) : wpList P ops Q (o :: rest) a w :=
  wpList_plain hgd fun _ hK => wp_lit t e len parts ho i z size ht hi hz hsize hsz vs hl hlp hsm hp h1 C hC (hK _ _ h)

theorem step_lit {ops : Array Oper} {o : Oper} {a : Act} {w : World} {K : Act → World → Prop} {Q : Exit → Act → World → Prop} {E : Prop} (hgd : o.guard = none) (t e : TypeId) (len : Nat) (parts : Array (Nat × Operand)) (ho : o.op = .buildSlice t len parts)
    (i : TypeInfo) (z : Value) (size : Nat) (ht : P.underlying t = some (.slice e)) (hi : P.info? e = some i) (hz : i.zero = some z) (hsize : i.size = size) (hsz : 0 < size)
    (vs : List Value) (hl : vs.length = len) (hlp : 0 < len) (hsm : len * size ≤ 16777216) (hp : (parts.toList.map fun x => (x.1, a.eval x.2)) = (vs.zipIdx 0).map fun x => (x.2, x.1)) (h1 : ∀ v ∈ vs, v.cells.size = size)
    (C : List Value) (hC : (vs.flatMap fun v => v.cells.toList) = C) (h : K (a.put o.dst (.slice (some ⟨w.heap.size, 0, none⟩) len len)) (w.alloc (.cells C.toArray e))) :
    if Region.wanted o (yielded ops a.tmps) = true then Oper.wp P o a w K Q else E := by
  have hw : Region.wanted o (yielded ops a.tmps) = true := by simp [Region.wanted, hgd]
  rw [if_pos hw]
  exact wp_lit t e len parts ho i z size ht hi hz hsize hsz vs hl hlp hsm hp h1 C hC h

theorem wpList_loadBk {ops : Array Oper} {rest : List Oper} {o : Oper} {a : Act} {w : World} {Q : Exit → Act → World → Prop} (hgd : o.guard = none) (ty : TypeId) (x : Operand) (ho : o.op = .load ty x)
    (g : Nat) (hx : a.eval x = .pointer (some ⟨g, 0, none⟩)) (t : TypeId) (cs : Array Value) (d : TypeDesc) (hg : Bk w g t cs)
    (hu : P.underlying ty = some d) (hd : (match d with | .struct _ | .array _ _ => true | _ => false) = true) (hi : (P.info? ty).map (·.size) = some cs.size)
    (h : wpList P ops Q rest (a.put o.dst (.agg cs)) w) : wpList P ops Q (o :: rest) a w :=
  wpList_load_row hgd ty x ho g hx t cs (0, 0) d hg hu hd hi h

theorem bk_row {w : World} {g : Nat} {t : TypeId} {old : Array Value} (h : Bk w g t old) (cs : Array Value) : Bk (w.setRow g cs) g t cs := setRow_heap w g old cs t (0, 0) h
theorem chg_row (w : World) (g : Nat) (cs : Array Value) : Chg (fun k => k = g) w (w.setRow g cs) := ⟨rfl, rfl, rfl, by simp, fun k _ hk => setRow_other w g k cs hk⟩
/-- a whole block written -/
theorem wpList_storeBk {ops : Array Oper} {rest : List Oper} {o : Oper} {a : Act} {w : World} {Q : Exit → Act → World → Prop} (hgd : o.guard = none) (ty : TypeId) (x y : Operand) (ho : o.op = .store ty x y)
    (g : Nat) (hx : a.eval x = .pointer (some ⟨g, 0, none⟩)) (cs : Array Value) (hy : a.eval y = .agg cs) (t : TypeId) (old : Array Value) (hg : Bk w g t old)
    (hi : (P.info? ty).map (·.size) = some cs.size) (hold : old.size = cs.size) (h1 : cs.toList.all (·.oneCell') = true)
    (h : ∀ w', Bk w' g t cs → Chg (fun k => k = g) w w' → w'.heap.size = w.heap.size → wpList P ops Q rest (a.put o.dst undef) w') : wpList P ops Q (o :: rest) a w :=
  wpList_store_row hgd ty x y ho g cs hx hy t old hg hi hold (by rw [← Array.all_toList]; exact h1) (h _ (bk_row hg cs) (chg_row w g cs) (by simp))
end
end Go.Proofs.YtbljhjfaimnieaaGreat.foot

namespace Go.Proofs.YtbljhjfaimnieaaGreat.foot
open Go.RowKit Go.Proofs.YtbljhjfaimnieaaGreat.kit Go.Proofs.YtbljhjfaimnieaaGreat.mem
set_option linter.unusedVariables false
set_option linter.unusedSimpArgs false
section
variable {P : Program}
theorem Bk.range {w : World} {g : Nat} {t : TypeId} {pre mid post : List Value} (h : Bk w g t (pre ++ mid ++ post).toArray) : w.rangeAt g pre.length mid := fun j v hv => by
  rw [h.cell, List.getElem?_toArray, List.append_assoc, List.getElem?_append_right (by omega), Nat.add_sub_cancel_left]
  have hj : j < mid.length := (List.getElem?_eq_some_iff.1 hv).1
  rw [List.getElem?_append_left hj]
  exact hv
end
end Go.Proofs.YtbljhjfaimnieaaGreat.foot

namespace Go.Proofs.YtbljhjfaimnieaaGreat.mem
open Go.RowKit Go.Joins Go.ChangeShapes Go.WideShapes Go.ChangeAt Go.Proofs.YtbljhjfaimnieaaGreat.kit
set_option linter.unusedVariables false

section
variable {H : Type} {enc : TypeId × Value → H} {P : Program} {w : World} {base : Nat} {held : Bool}

end

section
variable {P : Program} {w : World}
end
end Go.Proofs.YtbljhjfaimnieaaGreat.mem

namespace Go.Proofs.YtbljhjfaimnieaaGreat.nums
open Go.RowKit Go.Joins Go.ChangeShapes Go.WideShapes Go.ChangeAt Go.Proofs.YtbljhjfaimnieaaGreat.kit Go.Proofs.YtbljhjfaimnieaaGreat.mem Go.Proofs.YtbljhjfaimnieaaGreat.foot
set_option linter.unusedVariables false
set_option linter.unusedSimpArgs false

def uv (l : List Nat) : List Value := l.map fun n : Nat => .int .u32 (n : Int)
theorem uv_len (l : List Nat) : (uv l).length = l.length := by simp [uv]
theorem uv_app (l r : List Nat) : uv (l ++ r) = uv l ++ uv r := by simp [uv]
theorem uv_take (l : List Nat) (k : Nat) : uv (l.take k) = (uv l).take k := by simp [uv, List.map_take]
theorem uv_drop (l : List Nat) (k : Nat) : uv (l.drop k) = (uv l).drop k := by simp [uv, List.map_drop]
theorem uv_one (l : List Nat) : ∀ u ∈ uv l, u.oneCell' = true := by
  intro u hu
  simp [uv] at hu
  obtain ⟨n, _, rfl⟩ := hu
  rfl
/-- the slice with this address holds these numbers -/
def Us (w : World) (G : Foot) (A : Option Addr) (l : List Nat) : Prop := Rg w G 1 A l.length (uv l)
theorem Us.at_ {w : World} {G : Foot} {A : Option Addr} {l : List Nat} (h : Us w G A l) {k : Nat} (hk : k < l.length) : ∃ b off, A = some ⟨b, off, none⟩ ∧ G b ∧ b < w.heap.size ∧ w.cell? ⟨b, off + k, none⟩ = some (.int .u32 (l[k] : Int)) := by
  obtain ⟨b, off, e, hb, hl, hc⟩ := h.2 (by omega)
  exact ⟨b, off, e, hb, hl, hc k _ (by simp [uv, hk])⟩

section
variable {H : Type} {enc : TypeId × Value → H} {P : Program} {w : World} {base : Nat} {held : Bool}
end
theorem info_u32 : (Tryz.prog.info? 23).map (fun i => (i.zero, i.size, i.bytes)) = some (some (.int .u32 0), 1, 4) := by kernel_rfl
/-- numbers handed back in new memory -/
def RetNums (l : List Nat) (w : World) (e : Ending) (w' : World) : Prop :=
  ∃ A c, e = .returned (.slice A l.length c) ∧ foot.Own w' 23 1 A l.length c (uv l) ∧ (∀ k, sf A k → w.heap.size ≤ k) ∧ Below w.heap.size w w'

end Go.Proofs.YtbljhjfaimnieaaGreat.nums

namespace Go.Proofs.YtbljhjfaimnieaaGreat.foot
open Go.RowKit Go.Proofs.YtbljhjfaimnieaaGreat.kit Go.Proofs.YtbljhjfaimnieaaGreat.mem
set_option linter.unusedVariables false
/-- cells stay what they are -/
structure Stay (w w' : World) : Prop where
  size : w.heap.size ≤ w'.heap.size
  block : ∀ (k : Nat) (cs : Array Value) (t : TypeId) (f : Nat × Nat), w.heap[k]? = some (Obj.cells cs t f) → w'.heap[k]? = some (Obj.cells cs t f)
section
variable {w w' : World} {G : Foot}
theorem Stay.cell (h : Stay w w') {p : Addr} {u : Value} (hc : w.cell? p = some u) : w'.cell? p = some u := by
  have hb : ∃ cs t f, w.heap[p.block]? = some (Obj.cells cs t f) := by
    unfold World.cell? at hc
    split at hc
    · rename_i c e f hb; exact ⟨c, e, f, hb⟩
    · cases hc
  obtain ⟨cs, t, f, hb⟩ := hb
  rw [World.cell?_of_block (w := w) ((h.block _ _ _ _ hb).trans hb.symm)]
  exact hc
theorem Rg.stay {size n : Nat} {A : Option Addr} {xs : List Value} (h : Rg w G size A n xs) (hs : Stay w w') : Rg w' G size A n xs := by
  refine ⟨h.1, fun hn => ?_⟩
  obtain ⟨b, off, e, hb, hl, hcell⟩ := h.2 hn
  exact ⟨b, off, e, hb, Nat.lt_of_lt_of_le hl hs.size, fun j u hu => hs.cell (hcell j u hu)⟩
theorem Own.stay {e : TypeId} {size n c : Nat} {A : Option Addr} {xs : List Value} (h : Own w e size A n c xs) (hs : Stay w w') : Own w' e size A n c xs := by
  refine ⟨h.1, ?_⟩
  rcases h.2 with h0 | ⟨g, off, cur, h0, hb, h1⟩
  · exact .inl h0
  · exact .inr ⟨g, off, cur, h0, hs.block _ _ _ _ hb, h1⟩
end
theorem stay_row {w w' : World} {row : Option Nat} (hg : w.grownBy w' row) (hr : ∀ r, row = some r → ∃ o : Obj, w.heap[r]? = some o ∧ o.isCells = false) : Stay w w' :=
  ⟨hg.size, fun k cs t f hk => (hg.block k (Array.getElem?_eq_some_iff.1 hk).1 (fun e => by
    obtain ⟨o, ho, h0⟩ := hr k e.symm
    rw [hk] at ho
    cases ho
    cases h0)).trans hk⟩
end Go.Proofs.YtbljhjfaimnieaaGreat.foot
