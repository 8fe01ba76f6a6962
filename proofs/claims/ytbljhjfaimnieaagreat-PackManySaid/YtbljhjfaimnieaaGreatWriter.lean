/- What bytes.Clone returns: the same bytes in memory of their own. Condition: at most 2^40 bytes. What octet's Writer does: put, U8, U16, U32, Put, Sized, Long, Bytes. Condition: at most 2^40 bytes. -/
import Derived.Test.YtbljhjfaimnieaaGreatRows
import Derived.Test.YtbljhjfaimnieaaGreatGround
namespace Go.Proofs.YtbljhjfaimnieaaGreat.octet
open Go.RowKit Go.Proofs.YtbljhjfaimnieaaGreat.kit Go.Proofs.YtbljhjfaimnieaaGreat.mem
set_option linter.unusedVariables false

/-- bytes handed back in memory that is new, or nil -/
def RetBytes (l : List UInt8) (w : World) (e : Ending) (w' : World) : Prop :=
  ∃ A c, e = .returned (.slice A l.length c) ∧ (A = none → c = 0) ∧ l.length ≤ c ∧ c ≤ maxLen ∧ Bs w' w'.heap.size A l ∧ Below w.heap.size w w' ∧ (∀ ad, A = some ad → w.heap.size ≤ ad.block)

theorem info_u8 : (Tryz.prog.info? 5).map (fun i => (i.zero, i.size, i.bytes)) = some (some (.int .u8 0), 1, 1) := by kernel_rfl

theorem own_empty (w : World) (e : TypeId) (base : Nat) (hb : base ≤ w.heap.size) : (w.alloc (.cells #[] e)).ownsRow base e 1 (.slice (some ⟨w.heap.size, 0, none⟩) 0 0) 0 [] :=
  ⟨rfl, .inr ⟨w.heap.size, 0, #[], rfl, hb, heap_alloc_new w _, Nat.le_refl _, by unfold maxLen; omega, rfl, rfl⟩⟩

end Go.Proofs.YtbljhjfaimnieaaGreat.octet

namespace Go.Proofs.YtbljhjfaimnieaaGreat.octet
open Go.RowKit Go.Proofs.YtbljhjfaimnieaaGreat.kit Go.Proofs.YtbljhjfaimnieaaGreat.mem
set_option linter.unusedVariables false

/-- block b is a writer that has written these bytes; it and its row lie from block B on -/
def Wtr (w : World) (B b : Nat) (l : List UInt8) : Prop :=
  B ≤ b ∧ ∃ A c, Bk w b 127 #[.slice A l.length c] ∧ w.ownsRow B 5 1 (.slice A l.length c) l.length (bv l)

section
variable {w w' : World} {B b : Nat} {l : List UInt8}
theorem Wtr.lt (h : Wtr w B b l) : b < w.heap.size := by obtain ⟨_, A, c, hk, _⟩ := h; exact hk.lt
theorem Wtr.base (h : Wtr w B b l) : B ≤ w.heap.size := Nat.le_of_lt (Nat.lt_of_le_of_lt h.1 h.lt)
/-- what leaves all that was there alone keeps a writer -/
theorem Wtr.below (h : Wtr w B b l) (hb : Below w.heap.size w w') : Wtr w' B b l := by
  have hlt := h.lt
  obtain ⟨h1, A, c, hk, ho⟩ := h
  refine ⟨h1, A, c, hk.below hb hlt, ?_⟩
  exact ho.kept (row := none) ⟨hb.os, hb.tape, hb.output, hb.size, fun k hk _ => hb.block k hk⟩ (by
    by_cases e : (Value.slice A l.length c).ownBlock = none
    · exact .inl e
    · exact .inr e)
theorem Wtr.only (h : Wtr w B b l) (ho : Only w w' b) : Below B w w' := by
  obtain ⟨h1, A, c, hk, hown⟩ := h
  exact ho.below h1 (Nat.le_of_lt (Nat.lt_of_le_of_lt h1 hk.lt)) (fun g hg => by rw [Bk.row (cs := []) hk] at hg; exact (hown.lt g hg).1)
/-- what came after the writer was last written is apart from it -/
theorem Wtr.sep (h : Wtr w B b l) {k : Nat} (hk : w.heap.size ≤ k) (hb : Below w.heap.size w w') : Sep w' b k := by
  have hlt := h.lt
  obtain ⟨h1, A, c, hk2, hown⟩ := h
  refine ⟨by omega, ?_⟩
  have e : rowOf w' b = rowOf w b := by unfold rowOf; rw [hb.cell (p := ⟨b, 0, none⟩) hlt]
  rw [e, Bk.row (cs := []) hk2]
  intro hh
  have := (hown.lt k hh.symm).2
  omega
theorem Wtr.alloc (h : Wtr w B b l) (o : Obj) : Wtr (w.alloc o) B b l := h.below ((Below.refl _ _).alloc (Nat.le_refl _) _)
end

theorem sep_alloc {w : World} {b k : Nat} (hb : b < w.heap.size) (h : Sep w b k) (o : Obj) : Sep (w.alloc o) b k := by
  refine ⟨h.1, ?_⟩
  have : rowOf (w.alloc o) b = rowOf w b := by unfold rowOf; rw [((Below.refl w.heap.size w).alloc (Nat.le_refl _) o).cell (p := ⟨b, 0, none⟩) hb]
  rw [this]; exact h.2

theorem put_end {w1 : World} {B b c0 c1 : Nat} {A0 A1 : Option Addr} {l news : List UInt8} {w : World} (h1 : B ≤ b) (hB : B ≤ w.heap.size) (ho : w.ownsRow B 5 1 (.slice A0 l.length c0) l.length (bv l))
    (hk : Bk w1 b 127 #[.slice A0 l.length c0]) (hown : w1.ownsRow B 5 1 (.slice A1 (l.length + news.length) c1) (l.length + news.length) (bv l ++ bv news)) :
    Wtr (w1.setCell ⟨b, 0, none⟩ (.slice A1 (l.length + news.length) c1)) B b (l ++ news) := by
  have e : (l ++ news).length = l.length + news.length := List.length_append
  refine ⟨h1, A1, c1, ?_, ?_⟩
  · rw [e]; exact hk.put 0 _
  · rw [e, bv_app]
    have hne := hk.ne_own hown (by decide)
    exact hown.kept (grown_setCell (World.grownBy.refl w1 (some b)) (p := ⟨b, 0, none⟩) (.inl rfl) _) (.inr (fun h => hne h.symm))

theorem put_only {w w1 : World} {b n c0 c1 : Nat} {A0 A1 : Option Addr} {l : List UInt8} {t : TypeId} (hb : Bk w b t #[.slice A0 l.length c0]) (hb1 : Bk w1 b t #[.slice A0 l.length c0]) (hg : w.grownBy w1 (Value.slice A0 l.length c0).ownBlock)
    (hat : (Value.slice A1 n c1).ownBlock = (Value.slice A0 l.length c0).ownBlock ∨ (Value.slice A1 n c1).ownBlock = some w.heap.size) :
    Only w (w1.setCell ⟨b, 0, none⟩ (.slice A1 n c1)) b := by
  have hr0 : rowOf w b = (Value.slice A0 l.length c0).ownBlock := Bk.row (cs := []) hb
  have hr1 : rowOf (w1.setCell ⟨b, 0, none⟩ (.slice A1 n c1)) b = (Value.slice A1 n c1).ownBlock := Bk.row (cs := []) (hb1.put 0 (.slice A1 n c1))
  refine ⟨hg.os, hg.tape, hg.output, by simpa [World.setCell] using hg.size, fun k hk hs => ?_⟩
  obtain ⟨h1, h2⟩ := hs
  rw [hr0] at h2
  refine ⟨(Below.heap_setCell w1 _ _ k h1).trans (hg.block k hk h2), h1, ?_⟩
  rw [hr1]
  rcases hat with e | e
  · rw [e]; exact h2
  · rw [e]; intro h; injection h with h; omega

theorem put_any (B b : Nat) (l news : List UInt8) (A : Option Addr) (c B' : Nat) (w : World) (hw : Wtr w B b l) (hlen : l.length + news.length ≤ 1099511627776) (hA : A = none → c = 0) (hB : B' ≤ w.heap.size) (hs : Bs w B' A news) :
    Calls Tryz.prog 140 #[.pointer (some ⟨b, 0, none⟩), .slice A news.length c] w fun e w' => e = .returned (.pointer (some ⟨b, 0, none⟩)) ∧ Wtr w' B b (l ++ news) ∧ Only w w' b := by
  have hBs := hw.base
  have hblt := hw.lt
  obtain ⟨h1, A0, c0, hk, ho⟩ := hw
  obtain ⟨i0, hi, hz0, hz1, hz2⟩ := info_parts info_u8
  have k0 := hk.cell 0
  simp at k0
  have Hk := Lib.hid hk
  have Ho := Lib.hid ho
  have Hs := Lib.hid hs
  have HA := Lib.hid hA
  have HM : Hid (l.length + news.length ≤ maxLen) := by show _ ≤ maxLen; unfold maxLen; omega
  have HN : Hid ((l.length + news.length) * 1 ≤ 140737488355328) := by show _ ≤ _; omega
  have Hi := Lib.hid hi
  have Hz0 := Lib.hid hz0
  have Hz1 := Lib.hid hz1
  have Hz2 := Lib.hid hz2
  clear hk ho hs hA hlen hi hz0 hz1 hz2
  go_enter Tryz.func140, Tryz.ntmps140
  go_wp2_with (at_builtin; refine wpList_append_sl rfl (.tmp 11) (.tmp 12) _ rfl B 5 i0 _ 1 1 Tryz.underlying46 Hi.out Hz0.out Hz1.out Hz2.out rfl (by omega) (.slice A0 l.length c0) l.length (bv l) rfl Ho.out B' A news.length c HA.out (bv news) rfl Hs.out (bv_one news) HM.out HN.out hBs ?_; intro A1 c1 w1 hown1 hg1 hat1; have hk1 := Hk.out.grown hg1 (Hk.out.ne_own Ho.out (by decide)); have k1 := hk1.cell 0; have f1 := hk1.free 0; simp at k1; have Hk1 := Lib.hid hk1; have Hown1 := Lib.hid hown1; have Hg1 := Lib.hid hg1; have Hat1 := Lib.hid hat1; clear hk1 hown1 hg1 hat1)
  go_ret
  refine ⟨rfl, put_end h1 hBs Ho.out Hk1.out Hown1.out, put_only Hk.out Hk1.out Hg1.out Hat1.out⟩

/-- a byte of a number -/
def byteOf (n : Int) : UInt8 := UInt8.ofNat (n % 256).toNat
theorem byteOf_nat (n : Int) : ((byteOf n).toNat : Int) = n % 256 := by
  unfold byteOf
  rw [UInt8.toNat_ofNat']
  have h1 := Int.emod_nonneg n (show (256 : Int) ≠ 0 by omega)
  have h2 := Int.emod_lt_of_pos n (show (0 : Int) < 256 by omega)
  rw [Nat.mod_eq_of_lt (by omega)]
  omega

theorem bs_new (w : World) (l : List UInt8) (cs : Array Value) (h : cs = (bv l).toArray) : Bs (w.alloc (.cells cs 5)) (w.heap.size + 1) (some ⟨w.heap.size, 0, none⟩) l := by
  subst h
  refine ⟨by rw [bv_len, Nat.mul_one], fun _ => ⟨w.heap.size, 0, rfl, by omega, fun j u hu => ?_⟩⟩
  rw [Nat.zero_add, (Bk.new w 5 _).cell j]
  simpa using hu

theorem bv1 (a : Int) : #[Value.int .u8 (a % 256)] = (bv [byteOf a]).toArray := by simp [bv, byteOf_nat]
theorem bv2 (a b : Int) : #[Value.int .u8 (a % 256), Value.int .u8 (b % 256)] = (bv [byteOf a, byteOf b]).toArray := by simp [bv, byteOf_nat]
theorem bv4 (a b c d : Int) : #[Value.int .u8 (a % 256), Value.int .u8 (b % 256), Value.int .u8 (c % 256), Value.int .u8 (d % 256)] = (bv [byteOf a, byteOf b, byteOf c, byteOf d]).toArray := by simp [bv, byteOf_nat]

theorem U8_any (B b : Nat) (l : List UInt8) (n : Int) (w : World) (hw : Wtr w B b l) (hlen : l.length ≤ 549755813888) :
    Calls Tryz.prog 120 #[.pointer (some ⟨b, 0, none⟩), .int .i64 n] w fun e w' => e = .returned (.pointer (some ⟨b, 0, none⟩)) ∧ Wtr w' B b (l ++ [byteOf n]) ∧ Only w w' b := by
  have HB := hw.base
  have hlt := hw.lt
  have HP := Lib.hid (put_any B b l [byteOf n] (some ⟨w.heap.size, 0, none⟩) 1 (w.heap.size + 1) (w.alloc (.cells #[.int .u8 (n % 256)] 5)) (hw.alloc _) (by simp; omega) (fun h => by cases h) (by simp) (bs_new w _ _ (bv1 n)))
  clear hw hlen
  go_enter Tryz.func120, Tryz.ntmps120
  go_wp2_with fail
  refine HP.out.mono ?_; rintro e w1 ⟨rfl, hw1, hb1⟩
  have Hw1 := Lib.hid hw1
  have Hb1 := Lib.hid hb1
  clear hw1 hb1
  go_wp2_with fail
  go_ret
  exact ⟨rfl, Hw1.out, (only_below ((Below.refl _ _).alloc (Nat.le_refl _) _) hlt).trans Hb1.out⟩

theorem U16_any (B b : Nat) (l : List UInt8) (n : Int) (w : World) (hw : Wtr w B b l) (hlen : l.length ≤ 549755813888) :
    Calls Tryz.prog 141 #[.pointer (some ⟨b, 0, none⟩), .int .i64 n] w fun e w' => e = .returned (.pointer (some ⟨b, 0, none⟩)) ∧ Wtr w' B b (l ++ [byteOf (n / 256), byteOf n]) ∧ Only w w' b := by
  have HB := hw.base
  have hlt := hw.lt
  have HP := Lib.hid (put_any B b l [byteOf (n / 256), byteOf n] (some ⟨w.heap.size, 0, none⟩) 2 (w.heap.size + 1) (w.alloc (.cells #[.int .u8 (n / 256 % 256), .int .u8 (n % 256)] 5)) (hw.alloc _) (by simp; omega) (fun h => by cases h) (by simp) (bs_new w _ _ (bv2 _ _)))
  clear hw hlen
  go_enter Tryz.func141, Tryz.ntmps141
  go_wp2_with fail
  refine HP.out.mono ?_; rintro e w1 ⟨rfl, hw1, hb1⟩
  have Hw1 := Lib.hid hw1
  have Hb1 := Lib.hid hb1
  clear hw1 hb1
  go_wp2_with fail
  go_ret
  exact ⟨rfl, Hw1.out, (only_below ((Below.refl _ _).alloc (Nat.le_refl _) _) hlt).trans Hb1.out⟩

theorem U32_any (B b : Nat) (l : List UInt8) (n : Int) (w : World) (hw : Wtr w B b l) (hlen : l.length ≤ 549755813888) (h0 : 0 ≤ n) (h1 : n ≤ 4294967295) :
    Calls Tryz.prog 139 #[.pointer (some ⟨b, 0, none⟩), .int .u32 n] w fun e w' => e = .returned (.pointer (some ⟨b, 0, none⟩)) ∧ Wtr w' B b (l ++ [byteOf (n / 16777216), byteOf (n / 65536), byteOf (n / 256), byteOf n]) ∧ Only w w' b := by
  have HB := hw.base
  have hlt := hw.lt
  have HP := Lib.hid (put_any B b l [byteOf (n / 16777216), byteOf (n / 65536), byteOf (n / 256), byteOf n] (some ⟨w.heap.size, 0, none⟩) 4 (w.heap.size + 1) (w.alloc (.cells #[.int .u8 (n / 16777216 % 256), .int .u8 (n / 65536 % 256), .int .u8 (n / 256 % 256), .int .u8 (n % 256)] 5)) (hw.alloc _) (by simp; omega) (fun h => by cases h) (by simp) (bs_new w _ _ (bv4 _ _ _ _)))
  rw [show n / 16777216 % 256 = n / 16777216 from by omega] at HP
  clear hw hlen
  go_enter Tryz.func139, Tryz.ntmps139
  go_wp2_with fail
  refine HP.out.mono ?_; rintro e w1 ⟨rfl, hw1, hb1⟩
  have Hw1 := Lib.hid hw1
  have Hb1 := Lib.hid hb1
  clear hw1 hb1
  go_wp2_with fail
  go_ret
  exact ⟨rfl, Hw1.out, (only_below ((Below.refl _ _).alloc (Nat.le_refl _) _) hlt).trans Hb1.out⟩

theorem Sized_yes (B b : Nat) (l news : List UInt8) (A : Option Addr) (c B' : Nat) (w : World) (hw : Wtr w B b l) (hlen : l.length ≤ 549755813888) (hn : news.length ≤ 255) (hA : A = none → c = 0) (hB : B' ≤ w.heap.size) (hs : Bs w B' A news) (hsep : ∀ ad, A = some ad → Sep w b ad.block) :
    Calls Tryz.prog 123 #[.pointer (some ⟨b, 0, none⟩), .slice A news.length c] w fun e w' => e = .returned (.bool true) ∧ Wtr w' B b (l ++ byteOf news.length :: news) ∧ Only w w' b := by
  have HB := hw.base
  have hlt := hw.lt
  have HP := Lib.hid (put_any B b l [byteOf news.length] (some ⟨w.heap.size, 0, none⟩) 1 (w.heap.size + 1) (w.alloc (.cells #[.int .u8 ((news.length : Int) % 256)] 5)) (hw.alloc _) (by simp; omega) (fun h => by cases h) (by simp) (bs_new w _ _ (bv1 _)))
  rw [show (news.length : Int) % 256 = (news.length : Int) from by omega] at HP
  have Hs := Lib.hid hs
  have HSep := Lib.hid hsep
  have HA := Lib.hid hA
  have HL : Hid ((l ++ [byteOf news.length]).length + news.length ≤ 1099511627776) := by show _ ≤ _; simp; omega
  have d1 : decide ((255 : Int) < (news.length : Int)) = false := by simp; omega
  clear hw hs hA hlen hsep
  go_enter Tryz.func123, Tryz.ntmps123
  go_wp2_with fail
  refine HP.out.mono ?_; rintro e w1 ⟨rfl, hw1, hb1⟩
  have HQ := Lib.hid (put_any B b (l ++ [byteOf news.length]) news A c B' w1 hw1 HL.out HA.out (Nat.le_trans hB (Nat.le_trans (by simp) hb1.size)) ((Hs.out.alloc hB _).only hb1 (Nat.le_trans hB (by simp)) (fun ad h => sep_alloc hlt (HSep.out ad h) _)))
  have Hb1 := Lib.hid hb1
  clear hw1 hb1
  go_wp2_with fail
  refine HQ.out.mono ?_; rintro e w2 ⟨rfl, hw2, hb2⟩
  have Hw2 := Lib.hid hw2
  have Hb2 := Lib.hid hb2
  clear hw2 hb2
  go_wp2_with fail
  go_ret
  exact ⟨rfl, by have := Hw2.out; simpa using this, ((only_below ((Below.refl _ _).alloc (Nat.le_refl _) _) hlt).trans Hb1.out).trans Hb2.out⟩

theorem Long_yes (B b : Nat) (l news : List UInt8) (A : Option Addr) (c B' : Nat) (w : World) (hw : Wtr w B b l) (hlen : l.length ≤ 274877906944) (hn : news.length ≤ 65535) (hA : A = none → c = 0) (hB : B' ≤ w.heap.size) (hs : Bs w B' A news) (hsep : ∀ ad, A = some ad → Sep w b ad.block) :
    Calls Tryz.prog 122 #[.pointer (some ⟨b, 0, none⟩), .slice A news.length c] w fun e w' => e = .returned (.bool true) ∧ Wtr w' B b (l ++ byteOf ((news.length : Int) / 256) :: byteOf news.length :: news) ∧ Only w w' b := by
  have HB := hw.base
  have hlt := hw.lt
  have HP := Lib.hid (U16_any B b l news.length w hw (by omega))
  have Hs := Lib.hid hs
  have HSep := Lib.hid hsep
  have HA := Lib.hid hA
  have HL : Hid ((l ++ [byteOf ((news.length : Int) / 256), byteOf news.length]).length + news.length ≤ 1099511627776) := by show _ ≤ _; simp; omega
  have d1 : decide ((65535 : Int) < (news.length : Int)) = false := by simp; omega
  clear hw hs hA hlen hsep
  go_enter Tryz.func122, Tryz.ntmps122
  go_wp2_with fail
  refine HP.out.mono ?_; rintro e w1 ⟨rfl, hw1, hb1⟩
  have HQ := Lib.hid (put_any B b (l ++ [byteOf ((news.length : Int) / 256), byteOf news.length]) news A c B' w1 hw1 HL.out HA.out (Nat.le_trans hB hb1.size) (Hs.out.only hb1 hB HSep.out))
  have Hb1 := Lib.hid hb1
  clear hw1 hb1
  go_wp2_with fail
  refine HQ.out.mono ?_; rintro e w2 ⟨rfl, hw2, hb2⟩
  have Hw2 := Lib.hid hw2
  have Hb2 := Lib.hid hb2
  clear hw2 hb2
  go_wp2_with fail
  go_ret
  exact ⟨rfl, by have := Hw2.out; simpa using this, Hb1.out.trans Hb2.out⟩

end Go.Proofs.YtbljhjfaimnieaaGreat.octet
