/- Arguments that are slices of three-int structs: rights, acts, stores; villages. -/
import Derived.Test.YtnedbdpcimhfgabOpenBook
namespace Go.Proofs.Ytnedbdpcimhfgab
open Go.ChangeShapes Go.WideShapes Go.ChangeAt Go.RowKit Go.Deep
set_option maxRecDepth 20000
section
variable {H : Type} {enc : TypeId × Value → H} {W : World} {base : Nat} {r : Reach}
/-- A struct of an int and a struct of two ints. -/
theorem one_two_ints {fuel : Nat} {t s : TypeId} {f0 f1 g0 g1 : Field} {cs : List Value} {x : DataW H × List MemPlace} (ht : Try.prog.underlying t = some (.struct #[f0, f1])) (hc : Try.prog.cellsOf t = 3)
    (h0 : f0.type = 3 ∧ f0.offset = 0) (h1 : f1.type = s ∧ f1.offset = 1) (hs : Try.prog.underlying s = some (.struct #[g0, g1])) (hcs : Try.prog.cellsOf s = 2) (k0 : g0.type = 3 ∧ g0.offset = 0) (k1 : g1.type = 3 ∧ g1.offset = 1)
    (h : DataW.trod enc Try.prog W 0 (fun _ => true) true fuel t cs = some x) : ∃ a b c : Int, cs = [.int .i64 a, .int .i64 b, .int .i64 c] ∧ I64 a ∧ I64 b ∧ I64 c := by
  obtain ⟨hl, n, hf⟩ := fields ht h
  rw [hc] at hl
  match cs, hl with
  | [c0, c1, c2], _ =>
    obtain ⟨y0, e0⟩ := hf 0 f0 rfl
    obtain ⟨y1, e1⟩ := hf 1 f1 rfl
    rw [h0.1, h0.2, cellsInt] at e0
    rw [h1.1, h1.2, hcs] at e1
    obtain ⟨a, rfl, wa⟩ := int_of e0
    obtain ⟨b, c, e, wb, wc⟩ := two_ints hs hcs k0 k1 e1
    simp only [List.drop_succ_cons, List.drop_zero, List.take_succ_cons, List.take_zero, List.cons.injEq, and_true] at e
    obtain ⟨rfl, rfl⟩ := e
    exact ⟨a, b, c, rfl, wa, wb, wc⟩
/-- A struct of a struct of two ints and an int. -/
theorem two_one_ints {fuel : Nat} {t s : TypeId} {f0 f1 g0 g1 : Field} {cs : List Value} {x : DataW H × List MemPlace} (ht : Try.prog.underlying t = some (.struct #[f0, f1])) (hc : Try.prog.cellsOf t = 3)
    (h0 : f0.type = s ∧ f0.offset = 0) (h1 : f1.type = 3 ∧ f1.offset = 2) (hs : Try.prog.underlying s = some (.struct #[g0, g1])) (hcs : Try.prog.cellsOf s = 2) (k0 : g0.type = 3 ∧ g0.offset = 0) (k1 : g1.type = 3 ∧ g1.offset = 1)
    (h : DataW.trod enc Try.prog W 0 (fun _ => true) true fuel t cs = some x) : ∃ a b c : Int, cs = [.int .i64 a, .int .i64 b, .int .i64 c] ∧ I64 a ∧ I64 b ∧ I64 c := by
  obtain ⟨hl, n, hf⟩ := fields ht h
  rw [hc] at hl
  match cs, hl with
  | [c0, c1, c2], _ =>
    obtain ⟨y0, e0⟩ := hf 0 f0 rfl
    obtain ⟨y1, e1⟩ := hf 1 f1 rfl
    rw [h0.1, h0.2, hcs] at e0
    rw [h1.1, h1.2, cellsInt] at e1
    obtain ⟨a, b, e, wa, wb⟩ := two_ints hs hcs k0 k1 e0
    obtain ⟨c, e', wc⟩ := int_of e1
    simp only [List.drop_succ_cons, List.drop_zero, List.take_succ_cons, List.take_zero, List.cons.injEq, and_true] at e e'
    obtain ⟨rfl, rfl⟩ := e
    subst e'
    exact ⟨a, b, c, rfl, wa, wb, wc⟩
theorem store_cells3 (n : Nat) (cs : List Value) (y : DataW H × List MemPlace) (h : DataW.trod enc Try.prog W 0 (fun _ => true) true n 43 cs = some y) : ∃ a b c : Int, cs = [.int .i64 a, .int .i64 b, .int .i64 c] ∧ I64 a ∧ I64 b ∧ I64 c :=
  two_one_ints Try.underlying43 (by kernel_rfl) ⟨rfl, rfl⟩ ⟨rfl, rfl⟩ Try.underlying41 (by kernel_rfl) ⟨rfl, rfl⟩ ⟨rfl, rfl⟩ h
theorem arg_stores {v : Value} {d : DataW H} {p : List MemPlace} (hv : Value.okWide Try.prog W r base 22 v) (h : DataW.Trod enc Try.prog W 0 (fun _ => true) true 22 v d p) :
    ∃ (A : Option Addr) (c : Nat) (l : List T3), v = .slice A l.length c ∧ RdT W W.heap.size A c l := by
  obtain ⟨a, len, cap, rfl⟩ := okWide_slice Try.underlying22 hv
  obtain ⟨fuel, hf⟩ := h
  exact slice_t3 Try.underlying22 (by kernel_rfl) store_cells3 (by simpa [Value.cells] using hf)
end
end Go.Proofs.Ytnedbdpcimhfgab
