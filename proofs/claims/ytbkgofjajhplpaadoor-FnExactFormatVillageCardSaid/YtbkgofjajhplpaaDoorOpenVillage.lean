/- Arguments that are villages. -/
import Derived.Test.YtbkgofjajhplpaaDoorOpenRights
import Derived.Test.YtbkgofjajhplpaaDoorVillage
namespace Go.Proofs.YtbkgofjajhplpaaDoor
set_option linter.unusedSimpArgs false
set_option linter.unusedVariables false
open Go.ChangeShapes Go.WideShapes Go.ChangeAt Go.RowKit Go.Deep
set_option maxRecDepth 20000
section
variable {H : Type} {enc : TypeId × Value → H} {W : World} {base : Nat} {r : Reach}
theorem arg_village {v : Value} {d : DataW H} {p : List MemPlace} (hv : Value.okWide Tryd.prog W r base 33 v) (h : DataW.Trod enc Tryd.prog W 0 (fun _ => true) true 33 v d p) :
    ∃ (A : Option Addr) (c : Nat) (R : Option Addr) (d : Nat) (v' : Vg), v = v'.val A c R d ∧ RdT W W.heap.size A c v'.book.evs ∧ RdT W W.heap.size R d v'.rights := by
  obtain ⟨cs, rfl, _⟩ := struct_cells Tryd.underlying33 hv
  obtain ⟨fuel, hf⟩ := h
  have hf' : DataW.trod enc Tryd.prog W 0 (fun _ => true) true fuel 33 cs = some (d, p) := by simpa [Value.cells] using hf
  obtain ⟨hl, n, hfs⟩ := fields Tryd.underlying33 hf'
  rw [show Tryd.prog.cellsOf 33 = 8 by kernel_rfl] at hl
  have c1 : Tryd.prog.cellsOf 30 = 7 := by kernel_rfl
  have c2 : Tryd.prog.cellsOf 31 = 1 := by kernel_rfl
  match cs, hl with
  | [k0, k1, k2, k3, k4, k5, k6, k7], _ =>
    obtain ⟨y0, e0⟩ := hfs 0 _ rfl
    obtain ⟨y1, e1⟩ := hfs 1 _ rfl
    change DataW.trod enc Tryd.prog W 0 (fun _ => true) true n 30 (List.take (Tryd.prog.cellsOf 30) (List.drop 0 [k0, k1, k2, k3, k4, k5, k6, k7])) = some y0 at e0
    change DataW.trod enc Tryd.prog W 0 (fun _ => true) true n 31 (List.take (Tryd.prog.cellsOf 31) (List.drop 7 [k0, k1, k2, k3, k4, k5, k6, k7])) = some y1 at e1
    rw [c1] at e0
    rw [c2] at e1
    obtain ⟨A, c, b, e, hr⟩ := book_cells e0
    obtain ⟨R, d', l, e', hr'⟩ := slice_t3 Tryd.underlying31 (by kernel_rfl) right_cells e1
    subst e'
    simp only [List.drop_zero, List.take_succ_cons, List.take_zero, List.cons.injEq, and_true] at e
    obtain ⟨rfl, rfl, rfl, rfl, rfl, rfl, rfl⟩ := e
    exact ⟨A, c, R, d', ⟨b, l⟩, rfl, hr, hr'⟩
end
end Go.Proofs.YtbkgofjajhplpaaDoor
