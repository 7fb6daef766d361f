/- Arguments that are slices of three-int structs: rights, acts, stores; villages. -/
import Derived.Test.YtbkgofjajhplpaaDoorOpenBook
namespace Go.Proofs.YtbkgofjajhplpaaDoor
set_option linter.unusedSimpArgs false
set_option linter.unusedVariables false
open Go.ChangeShapes Go.WideShapes Go.ChangeAt Go.RowKit Go.Deep
set_option maxRecDepth 20000
section
variable {H : Type} {enc : TypeId × Value → H} {W : World} {base : Nat} {r : Reach}
/-- A struct of an int and a struct of two ints. -/
theorem one_two_ints {fuel : Nat} {t s : TypeId} {f0 f1 g0 g1 : Field} {cs : List Value} {x : DataW H × List MemPlace} (ht : Tryd.prog.underlying t = some (.struct #[f0, f1])) (hc : Tryd.prog.cellsOf t = 3)
    (h0 : f0.type = 3 ∧ f0.offset = 0) (h1 : f1.type = s ∧ f1.offset = 1) (hs : Tryd.prog.underlying s = some (.struct #[g0, g1])) (hcs : Tryd.prog.cellsOf s = 2) (k0 : g0.type = 3 ∧ g0.offset = 0) (k1 : g1.type = 3 ∧ g1.offset = 1)
    (h : DataW.trod enc Tryd.prog W 0 (fun _ => true) true fuel t cs = some x) : ∃ a b c : Int, cs = [.int .i64 a, .int .i64 b, .int .i64 c] ∧ I64 a ∧ I64 b ∧ I64 c := by
  obtain ⟨hl, n, hf⟩ := fields ht h
  rw [hc] at hl
  match cs, hl with
  | [c0, c1, c2], _ =>
    obtain ⟨y0, e0⟩ := hf 0 f0 rfl
    obtain ⟨y1, e1⟩ := hf 1 f1 rfl
    rw [h0.1, h0.2, cellsInt] at e0
    rw [h1.1, h1.2, hcs] at e1
    obtain ⟨a, rfl, wa⟩ := int_of e0
    obtain ⟨b, c, e, wb, wc⟩ := two_ints hs hcs k0 k1 e1
    simp only [List.drop_succ_cons, List.drop_zero, List.take_succ_cons, List.take_zero, List.cons.injEq, and_true] at e
    obtain ⟨rfl, rfl⟩ := e
    exact ⟨a, b, c, rfl, wa, wb, wc⟩
theorem right_cells (n : Nat) (cs : List Value) (y : DataW H × List MemPlace) (h : DataW.trod enc Tryd.prog W 0 (fun _ => true) true n 116 cs = some y) : ∃ a b c : Int, cs = [.int .i64 a, .int .i64 b, .int .i64 c] ∧ I64 a ∧ I64 b ∧ I64 c :=
  one_two_ints Tryd.underlying116 (by kernel_rfl) ⟨rfl, rfl⟩ ⟨rfl, rfl⟩ Tryd.underlying114 (by kernel_rfl) ⟨rfl, rfl⟩ ⟨rfl, rfl⟩ h
theorem arg_right {v : Value} {d : DataW H} {p : List MemPlace} (hv : Value.okWide Tryd.prog W r base 116 v) (h : DataW.Trod enc Tryd.prog W 0 (fun _ => true) true 116 v d p) :
    ∃ x y z : Int, v = .agg #[.int .i64 x, .int .i64 y, .int .i64 z] ∧ I64 x ∧ I64 y ∧ I64 z := by
  obtain ⟨cs, rfl, _⟩ := struct_cells Tryd.underlying116 hv
  obtain ⟨fuel, hf⟩ := h
  obtain ⟨a, b, c, rfl, w⟩ := right_cells _ _ _ (by simpa [Value.cells] using hf)
  exact ⟨a, b, c, rfl, w⟩
theorem arg_rights {v : Value} {d : DataW H} {p : List MemPlace} (hv : Value.okWide Tryd.prog W r base 31 v) (h : DataW.Trod enc Tryd.prog W 0 (fun _ => true) true 31 v d p) :
    ∃ (A : Option Addr) (c : Nat) (l : List T3), v = .slice A l.length c ∧ RdT W W.heap.size A c l := by
  obtain ⟨a, len, cap, rfl⟩ := okWide_slice Tryd.underlying31 hv
  obtain ⟨fuel, hf⟩ := h
  exact slice_t3 Tryd.underlying31 (by kernel_rfl) right_cells (by simpa [Value.cells] using hf)
end
end Go.Proofs.YtbkgofjajhplpaaDoor
