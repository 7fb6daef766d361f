/- An argument of a law, opened to what the walks ask. Arguments with slices of structs, opened to what the walks ask. Arguments that are slices of three-int structs: rights, acts, stores; villages. Arguments that are villages. -/
import Derived.Test.YtpmmjhpmheooeaaDoorKa
import Derived.Test.YtpmmjhpmheooeaaDoorRows
import Derived.ProofKit
import Derived.OpenShut
import Derived.ShutString
import Derived.ChangeOld
import Derived.Test.YtpmmjhpmheooeaaDoorKc
import Derived.Deep.Slices
import Derived.Deep.Fields
import Derived.Test.YtpmmjhpmheooeaaDoorVillage
namespace Go.Proofs.YtpmmjhpmheooeaaDoor
set_option linter.unusedSimpArgs false
set_option linter.unusedVariables false
open Go.ChangeShapes Go.WideShapes Go.ChangeAt Go.RowKit
open Go.ChangeMaps (open_string shut_string)
set_option maxRecDepth 20000
theorem own_knob : ownKnob Tryd.prog.godebug = none := by kernel_rfl
theorem laid_out : laidOutB Tryd.prog = true := by kernel_rfl
def I64 (n : Int) : Prop := -9223372036854775808 ≤ n ∧ n ≤ 9223372036854775807
section
variable {H : Type} {enc : TypeId × Value → H} {W : World} {base : Nat} {spare : Nat → Bool} {held : Bool} {r : Reach}
theorem arg_int {v : Value} {d : DataW H} {p : List MemPlace} (hv : Value.okWide Tryd.prog W r base 3 v) (h : DataW.Trod enc Tryd.prog W 0 (fun _ => true) true 3 v d p) : ∃ a : Int, v = .int .i64 a ∧ I64 a := by
  obtain ⟨a, rfl, rfl, rfl, w⟩ := open_int Tryd.underlying3 hv h
  refine ⟨a, rfl, ?_⟩
  simp [Lit.wf, IntKind.min, IntKind.max, IntKind.bits, IntKind.signed] at w
  exact ⟨by omega, by omega⟩
theorem cells_ints {x : Addr} {l c : Nat} {zs : List Int} (hl : l ≤ c) (hm : c ≤ maxLen) (hz : l ≤ zs.length) (hcell : ∀ i, i < zs.length → W.cell? (x.add i) = some (.int .i64 (zs.getD i 0))) : ∃ m : List Int, l = m.length ∧ RdI W W.heap.size (some x) c m := by
  refine ⟨zs.take l, by rw [List.length_take]; omega, ?_⟩
  have hl' : (zs.take l).length = l := by rw [List.length_take]; omega
  refine ⟨by rw [ints_len]; omega, by omega, by unfold maxLen at hm; omega, fun hn => ?_⟩
  obtain ⟨b, o, spot⟩ := x
  have hc0 := hcell 0 (by omega)
  have hspot : spot = none := by simpa [Addr.add] using World.cell?_spot hc0
  subst hspot
  have hlt := World.block_lt_of_cell? W _ hc0
  refine ⟨b, o, rfl, by simpa [Addr.add] using hlt, fun j u hu => ?_⟩
  have hj : j < (ints (zs.take l)).length := (List.getElem?_eq_some_iff.1 hu).1
  rw [ints_len, hl'] at hj
  have := hcell j (by omega)
  rw [Addr.add_lit] at this
  rw [this]
  unfold ints at hu
  rw [List.getElem?_map, List.getElem?_take, if_pos hj, List.getElem?_eq_getElem (by omega)] at hu
  simp only [Option.map_some, Option.some.injEq] at hu
  rw [← hu]
  simp [List.getD, List.getElem?_eq_getElem (show j < zs.length by omega)]
theorem arg_ints {v : Value} {d : DataW H} {p : List MemPlace} (hv : Value.okWide Tryd.prog W r base 46 v) (h : DataW.Trod enc Tryd.prog W 0 (fun _ => true) true 46 v d p) :
    ∃ (A : Option Addr) (c : Nat) (l : List Int), v = .slice A l.length c ∧ RdI W W.heap.size A c l := by
  obtain ⟨a, len, cap, rfl⟩ := okWide_slice Tryd.underlying46 hv
  obtain ⟨fuel, hf⟩ := h
  rcases open_ints Tryd.underlying46 Tryd.underlying3 (by kernel_rfl) hf with ⟨hcs, _⟩ | ⟨x, l, c, zs, hcs, _, hl, hm, hz, _, hcell, hwz⟩
  · simp [Value.cells] at hcs
    obtain ⟨rfl, rfl, rfl⟩ := hcs
    exact ⟨none, 0, [], rfl, Rd.nil_ _ _ _⟩
  · simp [Value.cells] at hcs
    obtain ⟨rfl, rfl, rfl⟩ := hcs
    obtain ⟨m, rfl, hr⟩ := cells_ints (W := W) hl hm (by simp at hz; omega) hcell
    exact ⟨some x, cap, m, rfl, hr⟩
/-- The fields of a struct, each read off its own cells. -/
theorem fields {t : TypeId} {fs : Array Field} {fuel : Nat} {cs : List Value} {x : DataW H × List MemPlace} (ht : Tryd.prog.underlying t = some (.struct fs)) (h : DataW.trod enc Tryd.prog W 0 (fun _ => true) true fuel t cs = some x) :
    cs.length = Tryd.prog.cellsOf t ∧ ∃ n, ∀ (i : Nat) (f : Field), fs[i]? = some f → ∃ y, DataW.trod enc Tryd.prog W 0 (fun _ => true) true n f.type ((cs.drop f.offset).take (Tryd.prog.cellsOf f.type)) = some y := by
  obtain ⟨xs, n, _, _, hl, hlen, hf⟩ := DataW.trod_struct ht h
  refine ⟨hl, n, fun i f hi => ?_⟩
  have hil : i < fs.size := (Array.getElem?_eq_some_iff.1 hi).1
  exact ⟨xs[i]'(by omega), by rw [hf i f hi]; exact List.getElem?_eq_getElem (by omega)⟩
theorem struct_cells {t : TypeId} {fs : Array Field} {v : Value} (ht : Tryd.prog.underlying t = some (.struct fs)) (hv : Value.okWide Tryd.prog W r base t v) : ∃ cs : List Value, v = .agg cs.toArray ∧ cs.length = Tryd.prog.cellsOf t := by
  obtain ⟨cs, rfl, hsz⟩ := okWide_struct ht hv
  exact ⟨cs.toList, rfl, by simpa using hsz⟩
theorem cellsInt : Tryd.prog.cellsOf 3 = 1 := by kernel_rfl
theorem int_of {n : Nat} {c : Value} {y : DataW H × List MemPlace} (h : DataW.trod enc Tryd.prog W 0 (fun _ => true) true n 3 [c] = some y) : ∃ a : Int, c = .int .i64 a ∧ I64 a := by
  obtain ⟨a, e, rfl, w⟩ := DataW.trod_int Tryd.underlying3 h
  simp only [List.cons.injEq, and_true] at e
  exact ⟨a, e, by have := bounds_i64 w; exact ⟨this.1, this.2⟩⟩
theorem three_ints {fuel : Nat} {t : TypeId} {f0 f1 f2 : Field} {cs : List Value} {x : DataW H × List MemPlace} (ht : Tryd.prog.underlying t = some (.struct #[f0, f1, f2])) (hc : Tryd.prog.cellsOf t = 3)
    (h0 : f0.type = 3 ∧ f0.offset = 0) (h1 : f1.type = 3 ∧ f1.offset = 1) (h2 : f2.type = 3 ∧ f2.offset = 2)
    (h : DataW.trod enc Tryd.prog W 0 (fun _ => true) true fuel t cs = some x) : ∃ a b c : Int, cs = [.int .i64 a, .int .i64 b, .int .i64 c] ∧ I64 a ∧ I64 b ∧ I64 c := by
  obtain ⟨hl, n, hf⟩ := fields ht h
  rw [hc] at hl
  match cs, hl with
  | [c0, c1, c2], _ =>
    obtain ⟨y0, e0⟩ := hf 0 f0 rfl
    obtain ⟨y1, e1⟩ := hf 1 f1 rfl
    obtain ⟨y2, e2⟩ := hf 2 f2 rfl
    rw [h0.1, h0.2, cellsInt] at e0
    rw [h1.1, h1.2, cellsInt] at e1
    rw [h2.1, h2.2, cellsInt] at e2
    obtain ⟨a, rfl, wa⟩ := int_of e0
    obtain ⟨b, rfl, wb⟩ := int_of e1
    obtain ⟨c, rfl, wc⟩ := int_of e2
    exact ⟨a, b, c, rfl, wa, wb, wc⟩
theorem two_ints {fuel : Nat} {t : TypeId} {f0 f1 : Field} {cs : List Value} {x : DataW H × List MemPlace} (ht : Tryd.prog.underlying t = some (.struct #[f0, f1])) (hc : Tryd.prog.cellsOf t = 2)
    (h0 : f0.type = 3 ∧ f0.offset = 0) (h1 : f1.type = 3 ∧ f1.offset = 1)
    (h : DataW.trod enc Tryd.prog W 0 (fun _ => true) true fuel t cs = some x) : ∃ a b : Int, cs = [.int .i64 a, .int .i64 b] ∧ I64 a ∧ I64 b := by
  obtain ⟨hl, n, hf⟩ := fields ht h
  rw [hc] at hl
  match cs, hl with
  | [c0, c1], _ =>
    obtain ⟨y0, e0⟩ := hf 0 f0 rfl
    obtain ⟨y1, e1⟩ := hf 1 f1 rfl
    rw [h0.1, h0.2, cellsInt] at e0
    rw [h1.1, h1.2, cellsInt] at e1
    obtain ⟨a, rfl, wa⟩ := int_of e0
    obtain ⟨b, rfl, wb⟩ := int_of e1
    exact ⟨a, b, rfl, wa, wb⟩
end
end Go.Proofs.YtpmmjhpmheooeaaDoor

namespace Go.Proofs.YtpmmjhpmheooeaaDoor
set_option linter.unusedSimpArgs false
set_option linter.unusedVariables false
open Go.ChangeShapes Go.WideShapes Go.ChangeAt Go.RowKit Go.Deep
set_option maxRecDepth 20000
theorem list_of {α : Type} (P : Nat → α → Prop) : ∀ len : Nat, (∀ i, i < len → ∃ t, P i t) → ∃ l : List α, l.length = len ∧ ∀ i t, l[i]? = some t → P i t
  | 0, _ => ⟨[], rfl, fun i t h => by simp at h⟩
  | n + 1, h => by
    obtain ⟨l, hl, hp⟩ := list_of P n (fun i hi => h i (by omega))
    obtain ⟨t, ht⟩ := h n (by omega)
    refine ⟨l ++ [t], by simp [hl], fun i u hu => ?_⟩
    by_cases hi : i < l.length
    · rw [List.getElem?_append_left hi] at hu; exact hp i u hu
    · have : i = l.length := by
        have := (List.getElem?_eq_some_iff.1 hu).1
        simp at this; omega
      subst this
      simp at hu
      subst hu
      rw [hl]; exact ht
theorem t3s_at : ∀ {l : List T3} {j : Nat} {u : Value}, (t3s l)[j]? = some u → ∃ k t, l[k]? = some t ∧ ((j = k * 3 ∧ u = .int .i64 t.x) ∨ (j = k * 3 + 1 ∧ u = .int .i64 t.y) ∨ (j = k * 3 + 2 ∧ u = .int .i64 t.z))
  | [], j, u, h => by simp [t3s] at h
  | s :: l, j, u, h => by
    rw [t3s_cons] at h
    match j, h with
    | 0, h => exact ⟨0, s, rfl, .inl ⟨rfl, by simpa using h.symm⟩⟩
    | 1, h => exact ⟨0, s, rfl, .inr (.inl ⟨rfl, by simpa using h.symm⟩)⟩
    | 2, h => exact ⟨0, s, rfl, .inr (.inr ⟨rfl, by simpa using h.symm⟩)⟩
    | j + 3, h =>
      obtain ⟨k, t, hk, hh⟩ := t3s_at (l := l) (j := j) (u := u) (by simpa using h)
      refine ⟨k + 1, t, by simpa using hk, ?_⟩
      rcases hh with ⟨e, h1⟩ | ⟨e, h1⟩ | ⟨e, h1⟩
      · exact .inl ⟨by omega, h1⟩
      · exact .inr (.inl ⟨by omega, h1⟩)
      · exact .inr (.inr ⟨by omega, h1⟩)
section
variable {H : Type} {enc : TypeId × Value → H} {W : World} {base : Nat} {r : Reach}
/-- A slice of structs whose three cells are ints. -/
theorem slice_t3 {t e : TypeId} {fuel : Nat} {v : Value} {x : DataW H × List MemPlace} (ht : Tryd.prog.underlying t = some (.slice e)) (hC : Tryd.prog.cellsOf e = 3)
    (he : ∀ (n : Nat) (cs : List Value) (y : DataW H × List MemPlace), DataW.trod enc Tryd.prog W 0 (fun _ => true) true n e cs = some y → ∃ a b c : Int, cs = [.int .i64 a, .int .i64 b, .int .i64 c] ∧ I64 a ∧ I64 b ∧ I64 c)
    (h : DataW.trod enc Tryd.prog W 0 (fun _ => true) true fuel t [v] = some x) : ∃ (A : Option Addr) (c : Nat) (l : List T3), v = .slice A l.length c ∧ RdT W W.heap.size A c l := by
  rcases open_slice ht h with ⟨hcs, _⟩ | ⟨a, len, cap, m, n, D, Pl, hcs, _, hl, hm, hmm, _, hi⟩
  · simp only [List.cons.injEq, and_true] at hcs
    subst hcs
    exact ⟨none, 0, [], rfl, Rd.nil_ _ _ _⟩
  · simp only [List.cons.injEq, and_true] at hcs
    subst hcs
    have hlm : len ≤ m := by rw [hmm]; split <;> omega
    obtain ⟨l, hll, hp⟩ := list_of (fun i (t : T3) => W.cell? (a.add (i * 3)) = some (.int .i64 t.x) ∧ W.cell? (a.add (i * 3 + 1)) = some (.int .i64 t.y) ∧ W.cell? (a.add (i * 3 + 2)) = some (.int .i64 t.z)) len (fun i hil => by
      obtain ⟨cs', hc, ht'⟩ := hi i (by omega)
      rw [hC] at hc
      obtain ⟨_, hcl, hat⟩ := World.cells?_some hc
      obtain ⟨p, q, s, rfl, _⟩ := he _ _ _ ht'
      have h0 := hat 0 (by omega)
      have h1 := hat 1 (by omega)
      have h2 := hat 2 (by omega)
      rw [Go.Deep.add_add] at h0 h1 h2
      exact ⟨⟨p, q, s⟩, by simpa using h0, by simpa using h1, by simpa using h2⟩)
    subst hll
    refine ⟨some a, cap, l, rfl, t3s_len l, hl, by unfold maxLen at hm; omega, fun hn => ?_⟩
    have hc0 := (hp 0 l[0] (List.getElem?_eq_getElem hn)).1
    obtain ⟨b, o, spot⟩ := a
    have hspot : spot = none := by simpa [Addr.add] using World.cell?_spot hc0
    subst hspot
    have hlt := World.block_lt_of_cell? W _ hc0
    refine ⟨b, o, rfl, by simpa [Addr.add] using hlt, fun j u hu => ?_⟩
    obtain ⟨k, t, hk, hh⟩ := t3s_at hu
    obtain ⟨c0, c1, c2⟩ := hp k t hk
    rw [Addr.add_lit] at c0 c1 c2
    rcases hh with ⟨rfl, rfl⟩ | ⟨rfl, rfl⟩ | ⟨rfl, rfl⟩
    · exact c0
    · exact c1
    · exact c2
end
end Go.Proofs.YtpmmjhpmheooeaaDoor

namespace Go.Proofs.YtpmmjhpmheooeaaDoor
set_option linter.unusedSimpArgs false
set_option linter.unusedVariables false
open Go.ChangeShapes Go.WideShapes Go.ChangeAt Go.RowKit Go.Deep
set_option maxRecDepth 20000
section
variable {H : Type} {enc : TypeId × Value → H} {W : World} {base : Nat} {r : Reach}
/-- A struct of an int and a struct of two ints. -/
theorem one_two_ints {fuel : Nat} {t s : TypeId} {f0 f1 g0 g1 : Field} {cs : List Value} {x : DataW H × List MemPlace} (ht : Tryd.prog.underlying t = some (.struct #[f0, f1])) (hc : Tryd.prog.cellsOf t = 3)
    (h0 : f0.type = 3 ∧ f0.offset = 0) (h1 : f1.type = s ∧ f1.offset = 1) (hs : Tryd.prog.underlying s = some (.struct #[g0, g1])) (hcs : Tryd.prog.cellsOf s = 2) (k0 : g0.type = 3 ∧ g0.offset = 0) (k1 : g1.type = 3 ∧ g1.offset = 1)
    (h : DataW.trod enc Tryd.prog W 0 (fun _ => true) true fuel t cs = some x) : ∃ a b c : Int, cs = [.int .i64 a, .int .i64 b, .int .i64 c] ∧ I64 a ∧ I64 b ∧ I64 c := by
  obtain ⟨hl, n, hf⟩ := fields ht h
  rw [hc] at hl
  match cs, hl with
  | [c0, c1, c2], _ =>
    obtain ⟨y0, e0⟩ := hf 0 f0 rfl
    obtain ⟨y1, e1⟩ := hf 1 f1 rfl
    rw [h0.1, h0.2, cellsInt] at e0
    rw [h1.1, h1.2, hcs] at e1
    obtain ⟨a, rfl, wa⟩ := int_of e0
    obtain ⟨b, c, e, wb, wc⟩ := two_ints hs hcs k0 k1 e1
    simp only [List.drop_succ_cons, List.drop_zero, List.take_succ_cons, List.take_zero, List.cons.injEq, and_true] at e
    obtain ⟨rfl, rfl⟩ := e
    exact ⟨a, b, c, rfl, wa, wb, wc⟩
end
end Go.Proofs.YtpmmjhpmheooeaaDoor

namespace Go.Proofs.YtpmmjhpmheooeaaDoor
set_option linter.unusedSimpArgs false
set_option linter.unusedVariables false
open Go.ChangeShapes Go.WideShapes Go.ChangeAt Go.RowKit Go.Deep
set_option maxRecDepth 20000
section
variable {H : Type} {enc : TypeId × Value → H} {W : World} {base : Nat} {r : Reach}
end
end Go.Proofs.YtpmmjhpmheooeaaDoor
