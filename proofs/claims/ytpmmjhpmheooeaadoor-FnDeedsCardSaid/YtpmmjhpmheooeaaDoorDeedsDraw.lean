/- Drawn rights as a law's argument. -/
import Derived.Test.YtpmmjhpmheooeaaDoorVillDraw
namespace Go.Proofs.YtpmmjhpmheooeaaDoor
set_option linter.unusedSimpArgs false
set_option linter.unusedVariables false
open Go.RowKit
set_option maxRecDepth 20000
set_option maxHeartbeats 800000 in
theorem DrawRights_any (A : Option Addr) (c : Nat) (l : List Int) (w : World) (h : RdY w w.heap.size A c l) (hs : l.length ≤ 1048576) :
    Calls Tryd.prog 13 #[.slice A l.length c] w fun e w' => ∃ (A' : Option Addr) (c' : Nat) (y : List T3), e = .returned (.slice A' y.length c') ∧ RtD y ∧ RdT w' w'.heap.size A' c' y ∧ Below w.heap.size w w' := by
  go_enter Tryd.func13, Tryd.ntmps13
  go_wp2_with fail
  refine (l01New_any A c l w h hs).mono ?_
  rintro e w1 ⟨p, rfl, hp, hc, hb⟩
  have HC := Lib.hid (And.intro hc hb)
  clear hc hb
  go_wp2_with fail
  refine (l12Rights_any p w1 HC.out.1).mono ?_
  rintro e w2 ⟨A', c', y, rfl, hq, ho, hd⟩
  have H2 := Lib.hid (And.intro hq (And.intro (Rd.of_own ho) (HC.out.2.grown hd.2 HC.out.2.size (fun k hk => by have := Option.some.inj hk; omega))))
  clear ho hd hq
  go_wp2_with fail
  go_ret
  exact ⟨A', c', y, rfl, H2.out.1, H2.out.2.1, H2.out.2.2⟩
end Go.Proofs.YtpmmjhpmheooeaaDoor
