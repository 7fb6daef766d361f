/- Cisterns and stores. -/
import Derived.Test.YtljidaniidfdoaaBase
import Derived.Test.YtljidaniidfdoaaQueue
import Derived.Deep.RegionHeld3
namespace Go.Proofs.Ytljidaniidfdoaa
open Go.RowKit
def cisOk (r l : Int) : Bool := inB r 1 1000000 && inB l 0 r
def storeOk (r l v : Int) : Bool := cisOk r l && inB v 0 r
def takeOut (r l n : Int) : Int × Int × Int := if cisOk r l && inB n 0 1000000 then (r, l - min n l, min n l) else (r, l, -1)
def usable (r l v : Int) : Int := if storeOk r l v then max 0 (l - v) else -1
def useWater (r l v n : Int) : Int × Int × Int × Int :=
  if storeOk r l v && inB n 0 1000000 then ((takeOut r l (min n (usable r l v))).1, (takeOut r l (min n (usable r l v))).2.1, v, (takeOut r l (min n (usable r l v))).2.2) else (r, l, v, -1)
theorem useWater_no {x y z n : Int} (h : storeOk x y z = false ∨ inB n 0 1000000 = false) : useWater x y z n = (x, y, z, -1) := by
  unfold useWater; rcases h with h | h <;> simp [h]
theorem useWater_yes {x y z n : Int} (h1 : storeOk x y z = true) (h2 : inB n 0 1000000 = true) : useWater x y z n = ((takeOut x y (min n (usable x y z))).1, (takeOut x y (min n (usable x y z))).2.1, z, (takeOut x y (min n (usable x y z))).2.2) := by
  unfold useWater; rw [h1, h2]; rfl
end Go.Proofs.Ytljidaniidfdoaa
