/- An argument of a law, opened to what the walks ask. -/
import Derived.Test.YtimjnliajnknbaaBase
import Derived.Test.YtimjnliajnknbaaRows
import Derived.ProofKit
import Derived.OpenShut
import Derived.ShutString
import Derived.ChangeOld
namespace Go.Proofs.Ytimjnliajnknbaa
open Go.ChangeShapes Go.WideShapes Go.ChangeAt Go.RowKit
open Go.ChangeMaps (open_string shut_string)
theorem own_knob : ownKnob Try.prog.godebug = none := by kernel_rfl
theorem laid_out : laidOutB Try.prog = true := by kernel_rfl
def I64 (n : Int) : Prop := -9223372036854775808 ≤ n ∧ n ≤ 9223372036854775807
section
variable {H : Type} {enc : TypeId × Value → H} {W : World} {base : Nat} {spare : Nat → Bool} {held : Bool} {r : Reach}
theorem arg_int {v : Value} {d : DataW H} {p : List MemPlace} (hv : Value.okWide Try.prog W r base 3 v) (h : DataW.Trod enc Try.prog W 0 (fun _ => true) true 3 v d p) : ∃ a : Int, v = .int .i64 a ∧ I64 a := by
  obtain ⟨a, rfl, rfl, rfl, w⟩ := open_int Try.underlying3 hv h
  refine ⟨a, rfl, ?_⟩
  simp [Lit.wf, IntKind.min, IntKind.max, IntKind.bits, IntKind.signed] at w
  exact ⟨by omega, by omega⟩
theorem cells_ints {x : Addr} {l c : Nat} {zs : List Int} (hl : l ≤ c) (hm : c ≤ maxLen) (hz : l ≤ zs.length) (hcell : ∀ i, i < zs.length → W.cell? (x.add i) = some (.int .i64 (zs.getD i 0))) : ∃ m : List Int, l = m.length ∧ RdI W W.heap.size (some x) c m := by
  refine ⟨zs.take l, by rw [List.length_take]; omega, ?_⟩
  have hl' : (zs.take l).length = l := by rw [List.length_take]; omega
  refine ⟨by rw [ints_len]; omega, by omega, by unfold maxLen at hm; omega, fun hn => ?_⟩
  obtain ⟨b, o, spot⟩ := x
  have hc0 := hcell 0 (by omega)
  have hspot : spot = none := by simpa [Addr.add] using World.cell?_spot hc0
  subst hspot
  have hlt := World.block_lt_of_cell? W _ hc0
  refine ⟨b, o, rfl, by simpa [Addr.add] using hlt, fun j u hu => ?_⟩
  have hj : j < (ints (zs.take l)).length := (List.getElem?_eq_some_iff.1 hu).1
  rw [ints_len, hl'] at hj
  have := hcell j (by omega)
  rw [Addr.add_lit] at this
  rw [this]
  unfold ints at hu
  rw [List.getElem?_map, List.getElem?_take, if_pos hj, List.getElem?_eq_getElem (by omega)] at hu
  simp only [Option.map_some, Option.some.injEq] at hu
  rw [← hu]
  simp [List.getD, List.getElem?_eq_getElem (show j < zs.length by omega)]
theorem arg_ints {v : Value} {d : DataW H} {p : List MemPlace} (hv : Value.okWide Try.prog W r base 22 v) (h : DataW.Trod enc Try.prog W 0 (fun _ => true) true 22 v d p) :
    ∃ (A : Option Addr) (c : Nat) (l : List Int), v = .slice A l.length c ∧ RdI W W.heap.size A c l := by
  obtain ⟨a, len, cap, rfl⟩ := okWide_slice Try.underlying22 hv
  obtain ⟨fuel, hf⟩ := h
  rcases open_ints Try.underlying22 Try.underlying3 (by kernel_rfl) hf with ⟨hcs, _⟩ | ⟨x, l, c, zs, hcs, _, hl, hm, hz, _, hcell, hwz⟩
  · simp [Value.cells] at hcs
    obtain ⟨rfl, rfl, rfl⟩ := hcs
    exact ⟨none, 0, [], rfl, Rd.nil_ _ _ _⟩
  · simp [Value.cells] at hcs
    obtain ⟨rfl, rfl, rfl⟩ := hcs
    obtain ⟨m, rfl, hr⟩ := cells_ints (W := W) hl hm (by simp at hz; omega) hcell
    exact ⟨some x, cap, m, rfl, hr⟩
end
end Go.Proofs.Ytimjnliajnknbaa
