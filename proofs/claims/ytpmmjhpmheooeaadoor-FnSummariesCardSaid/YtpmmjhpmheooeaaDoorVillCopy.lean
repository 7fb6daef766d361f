/- Villages: copies. -/
import Derived.Test.YtpmmjhpmheooeaaDoorInfoR
import Derived.Test.YtpmmjhpmheooeaaDoorVillage
namespace Go.Proofs.YtpmmjhpmheooeaaDoor
set_option linter.unusedSimpArgs false
set_option linter.unusedVariables false
open Go.RowKit
set_option maxRecDepth 20000
/-- A village that the call has made. -/
def VgOwn (v : Vg) (B : Nat) (A : Option Addr) (c : Nat) (R : Option Addr) (d : Nat) (w' : World) : Prop :=
  w'.ownsRow B 110 3 (.slice A v.book.evs.length c) v.book.evs.length (t3s v.book.evs) ∧ w'.ownsRow B 51 3 (.slice R v.rights.length d) v.rights.length (t3s v.rights)
theorem Row2.grown {w w' : World} {lo hi G : Nat} {e : TypeId} {sz n c : Nat} {A : Option Addr} {xs : List Value} (h : Row2 w lo hi e sz A n c xs) (hg : w.grownBy w' (some G)) (hG : G < lo ∨ hi ≤ G) : Row2 w' lo hi e sz A n c xs :=
  h.same fun g hgg => hg.block g (h.1.lt g hgg).2 fun he => by
    have h1 := h.2 g hgg
    have h2 := (h.1.lt g hgg).1
    have : g = G := Option.some.inj he
    omega
end Go.Proofs.YtpmmjhpmheooeaaDoor
