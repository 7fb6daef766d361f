/- The argument that is a slice of bytes, opened. -/
import Derived.Test.YtpmmjhpmheooeaaDoorKe
import Derived.Test.YtpmmjhpmheooeaaDoorDraw
namespace Go.Proofs.YtpmmjhpmheooeaaDoor
set_option linter.unusedSimpArgs false
set_option linter.unusedVariables false
open Go.ChangeShapes Go.WideShapes Go.ChangeAt Go.RowKit
set_option maxRecDepth 20000
section
variable {H : Type} {enc : TypeId × Value → H} {W : World} {base : Nat} {r : Reach}
theorem cells_bytes {x : Addr} {l c : Nat} {zs : List Int} (hl : l ≤ c) (hm : c ≤ maxLen) (hz : l ≤ zs.length) (hcell : ∀ i, i < zs.length → W.cell? (x.add i) = some (.int .u8 (zs.getD i 0))) (hw : ∀ n ∈ zs, 0 ≤ n ∧ n ≤ 255) : ∃ m : List Int, l = m.length ∧ RdY W W.heap.size (some x) c m := by
  refine ⟨zs.take l, by rw [List.length_take]; omega, ?_, fun n hn => hw n (List.mem_of_mem_take hn)⟩
  have hl' : (zs.take l).length = l := by rw [List.length_take]; omega
  refine ⟨by rw [bts_len]; omega, by omega, by unfold maxLen at hm; omega, fun hn => ?_⟩
  obtain ⟨b, o, spot⟩ := x
  have hc0 := hcell 0 (by omega)
  have hspot : spot = none := by simpa [Addr.add] using World.cell?_spot hc0
  subst hspot
  have hlt := World.block_lt_of_cell? W _ hc0
  refine ⟨b, o, rfl, by simpa [Addr.add] using hlt, fun j u hu => ?_⟩
  have hj : j < (bts (zs.take l)).length := (List.getElem?_eq_some_iff.1 hu).1
  rw [bts_len, hl'] at hj
  have := hcell j (by omega)
  rw [Addr.add_lit] at this
  rw [this]
  unfold bts at hu
  rw [List.getElem?_map, List.getElem?_take, if_pos hj, List.getElem?_eq_getElem (by omega)] at hu
  simp only [Option.map_some, Option.some.injEq] at hu
  rw [← hu]
  simp [List.getD, List.getElem?_eq_getElem (show j < zs.length by omega)]
theorem arg_bytes {v : Value} {d : DataW H} {p : List MemPlace} (hv : Value.okWide Tryd.prog W r base 28 v) (h : DataW.Trod enc Tryd.prog W 0 (fun _ => true) true 28 v d p) :
    ∃ (A : Option Addr) (c : Nat) (l : List Int), v = .slice A l.length c ∧ RdY W W.heap.size A c l := by
  obtain ⟨a, len, cap, rfl⟩ := okWide_slice Tryd.underlying28 hv
  obtain ⟨fuel, hf⟩ := h
  rcases open_ints Tryd.underlying28 Tryd.underlying5 (by kernel_rfl) hf with ⟨hcs, _⟩ | ⟨x, l, c, zs, hcs, _, hl, hm, hz, _, hcell, hwz⟩
  · simp [Value.cells] at hcs
    obtain ⟨rfl, rfl, rfl⟩ := hcs
    exact ⟨none, 0, [], rfl, Rd.nil_ _ _ _, fun x hx => by cases hx⟩
  · simp [Value.cells] at hcs
    obtain ⟨rfl, rfl, rfl⟩ := hcs
    obtain ⟨m, rfl, hr⟩ := cells_bytes (W := W) hl hm (by simp at hz; omega) hcell (fun n hn => by
      have h9 := hwz n hn
      unfold Lit.wf at h9
      simp only [Bool.and_eq_true, decide_eq_true_eq] at h9
      exact ⟨h9.1, h9.2⟩)
    exact ⟨some x, cap, m, rfl, hr⟩
end
end Go.Proofs.YtpmmjhpmheooeaaDoor
