/- Attributes and ways as cells: what they say, how they are read. Conditions as each lemma states. -/
import Derived.Test.YtafepficapdepaaSeg
import Derived.Test.YtafepficapdepaaAsnMerged
import Derived.Test.YtafepficapdepaaNormMath
import Derived.Test.YtafepficapdepaaStruct
namespace Go.Proofs.Ytafepficapdepaa.attr
open Go.RowKit Go.Joins Go.ChangeShapes Go.WideShapes Go.ChangeAt Go.Proofs.Ytafepficapdepaa.kit Go.Proofs.Ytafepficapdepaa.mem Go.Proofs.Ytafepficapdepaa.foot Go.Proofs.Ytafepficapdepaa.nums Go.Proofs.Ytafepficapdepaa.asn Go.Proofs.Ytafepficapdepaa.pth
set_option linter.unusedVariables false
set_option linter.unusedSimpArgs false
/-- what is told of a way -/
structure Atr where
  has : Int
  orig : Int
  path : List Sg
  hop : Int
  med : Int
  pref : Int
  aas : Int
  aid : Int
  comms : List Nat
/-- its cells -/
def atc (a : Atr) (Ap : Option Addr) (cp : Nat) (Ac : Option Addr) (cc : Nat) : List Value :=
  [.int .i64 a.has, .int .i64 a.orig, .slice Ap a.path.length cp, .int .u32 a.hop, .int .u32 a.med, .int .u32 a.pref, .int .u32 a.aas, .int .u32 a.aid, .slice Ac a.comms.length cc]
structure Awf (a : Atr) : Prop where
  has : (Lit.int .i64 a.has).wf = true
  orig : (Lit.int .i64 a.orig).wf = true
  hop : (Lit.int .u32 a.hop).wf = true
  med : (Lit.int .u32 a.med).wf = true
  pref : (Lit.int .u32 a.pref).wf = true
  aas : (Lit.int .u32 a.aas).wf = true
  aid : (Lit.int .u32 a.aid).wf = true
/-- a slice of pieces as it is read -/
structure Sp (w : World) (G : Foot) (A : Option Addr) (c : Nat) (l : List Sg) : Prop where
  nil : A = none → c = 0
  cap : l.length ≤ c
  max : c ≤ maxLen
  els : Els 2 rSeg w G A l
theorem Sp.bel {w w' : World} {G : Foot} {A : Option Addr} {c : Nat} {l : List Sg} (h : Sp w G A c l) (hb : Below w.heap.size w w') : Sp w' G A c l := ⟨h.nil, h.cap, h.max, h.els.bel keeps_seg hb⟩
theorem Sp.chg {w w' : World} {F G : Foot} {A : Option Addr} {c : Nat} {l : List Sg} (h : Sp w G A c l) (hc : Chg F w w') (hd : ∀ k, k < w.heap.size → G k → ¬ F k) : Sp w' G A c l := ⟨h.nil, h.cap, h.max, h.els.chg keeps_seg hc hd⟩
theorem Sp.mono {w : World} {G H : Foot} {A : Option Addr} {c : Nat} {l : List Sg} (h : Sp w G A c l) (hG : ∀ k, k < w.heap.size → G k → H k) : Sp w H A c l := ⟨h.nil, h.cap, h.max, h.els.mono keeps_seg hG⟩
theorem Sp.empty (w : World) (G : Foot) : Sp w G none 0 [] := ⟨fun _ => rfl, Nat.le_refl _, Nat.zero_le _, Els.nil_ _ _ _⟩
theorem Sp.of_lst {B : Foot} {w w' : World} {A : Option Addr} {c : Nat} {vs : List Value} {l : List Sg} (h : Lst 2 rSeg 122 B w w' A l.length c vs l) : Sp w' (fun k => w.heap.size ≤ k ∨ B k) A c l := ⟨h.acc.own.nil, h.acc.own.cap, h.acc.own.max, h.els keeps_seg⟩
theorem Sn.chg {w w' : World} {F G : Foot} {A : Option Addr} {c : Nat} {l : List Nat} (h : Sn w G A c l) (hc : Chg F w w') (hd : ∀ k, k < w.heap.size → G k → ¬ F k) : Sn w' G A c l := ⟨h.nil, h.cap, h.max, Rg.chg h.us hc hd⟩
theorem Sn.mono {w : World} {G H : Foot} {A : Option Addr} {c : Nat} {l : List Nat} (h : Sn w G A c l) (hG : ∀ k, k < w.heap.size → G k → H k) : Sn w H A c l := ⟨h.nil, h.cap, h.max, Rg.mono h.us hG⟩
/-- the memory behind the cells -/
structure Am (w : World) (G : Foot) (a : Atr) (Ap : Option Addr) (cp : Nat) (Ac : Option Addr) (cc : Nat) : Prop where
  wf : Awf a
  sp : Sp w G Ap cp a.path
  sn : Sn w G Ac cc a.comms
  w32 : W32 a.comms
section
variable {w w' : World} {F G H : Foot} {a : Atr} {Ap Ac : Option Addr} {cp cc : Nat}
theorem Am.bel (h : Am w G a Ap cp Ac cc) (hb : Below w.heap.size w w') : Am w' G a Ap cp Ac cc := ⟨h.wf, h.sp.bel hb, h.sn.bel hb, h.w32⟩
theorem Am.chg (h : Am w G a Ap cp Ac cc) (hc : Chg F w w') (hd : ∀ k, k < w.heap.size → G k → ¬ F k) : Am w' G a Ap cp Ac cc := ⟨h.wf, h.sp.chg hc hd, Sn.chg h.sn hc hd, h.w32⟩
theorem Am.mono (h : Am w G a Ap cp Ac cc) (hG : ∀ k, k < w.heap.size → G k → H k) : Am w H a Ap cp Ac cc := ⟨h.wf, h.sp.mono hG, Sn.mono h.sn hG, h.w32⟩
theorem atc_one : ∀ u ∈ atc a Ap cp Ac cc, u.oneCell' = true := by
  intro u hu
  simp only [atc, List.mem_cons, List.not_mem_nil, or_false] at hu
  rcases hu with rfl | rfl | rfl | rfl | rfl | rfl | rfl | rfl | rfl <;> rfl
end
def rAt : Rel Atr := fun w G cs a => ∃ Ap cp Ac cc, cs = atc a Ap cp Ac cc ∧ Am w G a Ap cp Ac cc
theorem keeps_at : Keeps 9 rAt := by
  refine ⟨fun h => ?_, fun h u hu => ?_, fun h hc hd => ?_, fun h hG => ?_⟩
  all_goals obtain ⟨Ap, cp, Ac, cc, rfl, hm⟩ := h
  · rfl
  · exact atc_one u hu
  · exact ⟨Ap, cp, Ac, cc, rfl, hm.chg hc hd⟩
  · exact ⟨Ap, cp, Ac, cc, rfl, hm.mono hG⟩
/-- attributes handed back, what they lead to in new memory -/
def RetA (a : Atr) (w : World) (e : Ending) (w' : World) : Prop := ∃ Ap cp Ac cc, e = .returned (.agg (atc a Ap cp Ac cc).toArray) ∧ Am w' (fun k => w.heap.size ≤ k) a Ap cp Ac cc ∧ Below w.heap.size w w'
def zeroA : Atr := ⟨0, 0, [], 0, 0, 0, 0, 0, []⟩
theorem Am.zero (w : World) (G : Foot) : Am w G zeroA none 0 none 0 := ⟨by constructor <;> decide, Sp.empty w G, Sn.empty w G, fun n hn => by cases hn⟩
/-- a way -/
structure Rt where
  adr : Nat
  len : Int
  att : Atr
  peer : Int
  num : Int
  id : Int
  inner : Bool
  local_ : Bool
def rtc (r : Rt) (Ap : Option Addr) (cp : Nat) (Ac : Option Addr) (cc : Nat) : List Value :=
  [.int .u32 (r.adr : Int), .int .i64 r.len] ++ atc r.att Ap cp Ac cc ++ [.int .u32 r.peer, .int .u32 r.num, .int .u32 r.id, .bool r.inner, .bool r.local_]
structure Rwf (r : Rt) : Prop where
  adr : r.adr < 4294967296
  len : (Lit.int .i64 r.len).wf = true
  peer : (Lit.int .u32 r.peer).wf = true
  num : (Lit.int .u32 r.num).wf = true
  id : (Lit.int .u32 r.id).wf = true
def rRt : Rel Rt := fun w G cs r => ∃ Ap cp Ac cc, cs = rtc r Ap cp Ac cc ∧ Rwf r ∧ Am w G r.att Ap cp Ac cc
theorem rtc_one {r : Rt} {Ap Ac : Option Addr} {cp cc : Nat} : ∀ u ∈ rtc r Ap cp Ac cc, u.oneCell' = true := by
  intro u hu
  simp only [rtc, List.mem_append, List.mem_cons, List.not_mem_nil, or_false] at hu
  rcases hu with (hu | hu) | hu
  · rcases hu with rfl | rfl <;> rfl
  · exact atc_one u hu
  · rcases hu with rfl | rfl | rfl | rfl | rfl <;> rfl
theorem keeps_rt : Keeps 16 rRt := by
  refine ⟨fun h => ?_, fun h u hu => ?_, fun h hc hd => ?_, fun h hG => ?_⟩
  all_goals obtain ⟨Ap, cp, Ac, cc, rfl, hw, hm⟩ := h
  · rfl
  · exact rtc_one u hu
  · exact ⟨Ap, cp, Ac, cc, rfl, hw, hm.chg hc hd⟩
  · exact ⟨Ap, cp, Ac, cc, rfl, hw, hm.mono hG⟩
/-- a way handed back -/
def RetR (r : Rt) (w : World) (e : Ending) (w' : World) : Prop := ∃ Ap cp Ac cc, e = .returned (.agg (rtc r Ap cp Ac cc).toArray) ∧ Am w' (fun k => w.heap.size ≤ k) r.att Ap cp Ac cc ∧ Below w.heap.size w w'
/-- a path somewhat cut -/
def fewP (l : List Sg) : List Sg := (l.take 12).map fun s => (s.1, s.2.take 300)
def fewA (a : Atr) : Atr := { a with path := fewP a.path, comms := a.comms.take 260 }
def fewR (r : Rt) : Rt := { r with att := fewA r.att }
theorem fewP_sz (l : List Sg) : nsz (fewP l) ≤ 3612 := by
  have key : ∀ m : List Sg, nsz (m.map fun s => (s.1, s.2.take 300)) ≤ m.length * 301 := by
    intro m
    induction m with
    | nil => simp [nsz]
    | cons s m ih => simp only [nsz, List.map_cons, List.sum_cons, List.length_cons] at ih ⊢; rw [List.length_take]; omega
  have := key (l.take 12)
  have h2 : (l.take 12).length ≤ 12 := by rw [List.length_take]; omega
  unfold fewP
  omega
end Go.Proofs.Ytafepficapdepaa.attr
