/- All that Update's walks stand on. Updates in memory; what update.wrong and confluenceref10.no return. No condition. -/
import Derived.Test.YtbljhjfaimnieaaGreatUpdMath
import Derived.Test.YtbljhjfaimnieaaGreatNlriRef
import Derived.Test.YtbljhjfaimnieaaGreatNlriEnc
import Derived.Test.YtbljhjfaimnieaaGreatRefDecode8
import Derived.Test.YtbljhjfaimnieaaGreatRefSame8
import Derived.Test.YtbljhjfaimnieaaGreatAttrCode
import Derived.Test.YtbljhjfaimnieaaGreatMv


namespace Go.Proofs.YtbljhjfaimnieaaGreat.upd
open Go.RowKit Go.Proofs.YtbljhjfaimnieaaGreat.kit Go.Proofs.YtbljhjfaimnieaaGreat.mem Go.Proofs.YtbljhjfaimnieaaGreat.foot Go.Proofs.YtbljhjfaimnieaaGreat.nums Go.Proofs.YtbljhjfaimnieaaGreat.asn Go.Proofs.YtbljhjfaimnieaaGreat.pth Go.Proofs.YtbljhjfaimnieaaGreat.octet Go.Proofs.YtbljhjfaimnieaaGreat.attr Go.Proofs.YtbljhjfaimnieaaGreat.mv
set_option linter.unusedVariables false
set_option linter.unusedSimpArgs false
/-- prefixes in memory -/
structure Pw (w : World) (G : Foot) (A : Option Addr) (c : Nat) (l : List (Nat × Int)) : Prop where
  nil : A = none → c = 0
  cap : l.length ≤ c
  max : c ≤ maxLen
  rg : Rg w G 2 A l.length (pv l)
section
variable {w w' : World} {F G H : Foot} {A : Option Addr} {c : Nat} {l : List (Nat × Int)}
theorem Pw.chg (h : Pw w G A c l) (hc : Chg F w w') (hd : ∀ k, k < w.heap.size → G k → ¬ F k) : Pw w' G A c l := ⟨h.nil, h.cap, h.max, h.rg.chg hc hd⟩
theorem Pw.mono (h : Pw w G A c l) (hG : ∀ k, k < w.heap.size → G k → H k) : Pw w H A c l := ⟨h.nil, h.cap, h.max, h.rg.mono hG⟩
theorem Pw.bel (h : Pw w G A c l) (hb : Below w.heap.size w w') : Pw w' G A c l := ⟨h.nil, h.cap, h.max, h.rg.bel hb⟩
theorem Pw.ps (h : Pw w G A c l) : Ps w w.heap.size A l := h.rg.rd
theorem Pw.nil_ (w : World) (G : Foot) : Pw w G none 0 [] := ⟨fun _ => rfl, Nat.le_refl _, Nat.zero_le _, Rg.nil _ _ _ _⟩
theorem Pw.new (h : NewSl 2 l.length (pv l) w A c w') : Pw w' (fun k => w.heap.size ≤ k) A c l := ⟨h.nil, h.cap, h.max, Rg.of_rd h.rd (Nat.le_refl _) h.new⟩
end
/-- an Update in memory -/
structure Um (w : World) (G : Foot) (u : Upd) (A1 : Option Addr) (c1 : Nat) (Ap : Option Addr) (cp : Nat) (Ac : Option Addr) (cc : Nat) (A2 : Option Addr) (c2 : Nat) : Prop where
  gone : Pw w G A1 c1 u.gone
  at_ : Am w G u.a Ap cp Ac cc
  here : Pw w G A2 c2 u.here
section
variable {w w' : World} {F G H : Foot} {A1 Ap Ac A2 : Option Addr} {c1 cp cc c2 : Nat} {u : Upd}
theorem Um.chg (h : Um w G u A1 c1 Ap cp Ac cc A2 c2) (hc : Chg F w w') (hd : ∀ k, k < w.heap.size → G k → ¬ F k) : Um w' G u A1 c1 Ap cp Ac cc A2 c2 := ⟨h.gone.chg hc hd, h.at_.chg hc hd, h.here.chg hc hd⟩
theorem Um.mono (h : Um w G u A1 c1 Ap cp Ac cc A2 c2) (hG : ∀ k, k < w.heap.size → G k → H k) : Um w H u A1 c1 Ap cp Ac cc A2 c2 := ⟨h.gone.mono hG, h.at_.mono hG, h.here.mono hG⟩
theorem Um.bel (h : Um w G u A1 c1 Ap cp Ac cc A2 c2) (hb : Below w.heap.size w w') : Um w' G u A1 c1 Ap cp Ac cc A2 c2 := ⟨h.gone.bel hb, h.at_.bel hb, h.here.bel hb⟩
theorem Um.zero (w : World) (G : Foot) : Um w G zeroU none 0 none 0 none 0 none 0 := ⟨Pw.nil_ _ _, Am.zero _ _, Pw.nil_ _ _⟩
end
/-- an Update's cells -/
def upc (A1 : Option Addr) (n1 c1 : Nat) (cs : List Value) (A2 : Option Addr) (n2 c2 : Nat) : List Value := [.slice A1 n1 c1] ++ cs ++ [.slice A2 n2 c2]
def zeroUC : List Value := upc none 0 0 zeroC none 0 0
end Go.Proofs.YtbljhjfaimnieaaGreat.upd
