/- OpenVillage, SampleVillage. -/
import Derived.Test.YtljidaniidfdoaaGreatVillage
namespace Go.Proofs.YtljidaniidfdoaaGreat
open Go.RowKit
set_option maxRecDepth 20000
def VgRet (r : Vg × Bool) (w : World) (e : Ending) (w' : World) : Prop := ∃ A c R d, e = .returned (.tuple #[r.1.val A c R d, .bool r.2]) ∧ w'.ownsRow w.heap.size 87 3 (.slice A r.1.book.evs.length c) r.1.book.evs.length (t3s r.1.book.evs) ∧ w'.ownsRow w.heap.size 92 3 (.slice R r.1.rights.length d) r.1.rights.length (t3s r.1.rights) ∧ Below w.heap.size w w'
def vg0 : Vg := ⟨⟨0, 0, [], 0, 0, 0, 0⟩, []⟩
def newV (room start owner : Int) : Vg := ⟨⟨room, start, [], start, 0, 0, 0⟩, [⟨owner, 1, 1⟩]⟩
def openV (room start owner : Int) : Vg × Bool := if villageOk (newV room start owner) then (newV room start owner, true) else (vg0, false)
theorem row_one (w : World) (base : Nat) (x y z : Int) (hb : base ≤ w.heap.size) : (w.alloc (.cells #[.int .i64 x, .int .i64 y, .int .i64 z] 92)).ownsRow base 92 3 (.slice (some ⟨w.heap.size, 0, none⟩) 1 1) 1 (t3s [⟨x, y, z⟩]) :=
  ⟨rfl, .inr ⟨w.heap.size, 1, #[.int .i64 x, .int .i64 y, .int .i64 z], rfl, hb, heap_alloc_new w _, Nat.le_refl _, by unfold maxLen; omega, rfl, rfl⟩⟩
theorem row_one' (w : World) (base : Nat) (x y z : Int) (H : Nat) (hH : w.heap.size = H) (hb : base ≤ w.heap.size) : (w.alloc (.cells #[.int .i64 x, .int .i64 y, .int .i64 z] 92)).ownsRow base 92 3 (.slice (some ⟨H, 0, none⟩) 1 1) 1 (t3s [⟨x, y, z⟩]) := by
  subst hH
  exact row_one w base x y z hb
theorem open_sample : openV 200 100 1 = (newV 200 100 1, true) := by
  unfold openV
  rw [if_pos (by decide +kernel)]
def VgOne (r : Vg) (w : World) (e : Ending) (w' : World) : Prop := ∃ A c R d, e = .returned (r.val A c R d) ∧ w'.ownsRow w.heap.size 87 3 (.slice A r.book.evs.length c) r.book.evs.length (t3s r.book.evs) ∧ w'.ownsRow w.heap.size 92 3 (.slice R r.rights.length d) r.rights.length (t3s r.rights) ∧ Below w.heap.size w w'
end Go.Proofs.YtljidaniidfdoaaGreat
