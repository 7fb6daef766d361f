/- An argument of a law, opened to what the walks ask. Arguments with slices of structs, opened to what the walks ask. Arguments that are slices of three-int structs: rights, acts, stores; villages. Arguments that are villages. -/
import Derived.Test.YtljidaniidfdoaaGreatKa
import Derived.Test.YtljidaniidfdoaaGreatRows
import Derived.ProofKit
import Derived.OpenShut
import Derived.ShutString
import Derived.ChangeOld
import Derived.Test.YtljidaniidfdoaaGreatKc
import Derived.Deep.Slices
import Derived.Deep.Fields
import Derived.Test.YtljidaniidfdoaaGreatVillage
namespace Go.Proofs.YtljidaniidfdoaaGreat
open Go.ChangeShapes Go.WideShapes Go.ChangeAt Go.RowKit
open Go.ChangeMaps (open_string shut_string)
set_option maxRecDepth 20000
theorem own_knob : ownKnob Tryz.prog.godebug = none := by kernel_rfl
theorem laid_out : laidOutB Tryz.prog = true := by kernel_rfl
def I64 (n : Int) : Prop := -9223372036854775808 ≤ n ∧ n ≤ 9223372036854775807
section
variable {H : Type} {enc : TypeId × Value → H} {W : World} {base : Nat} {spare : Nat → Bool} {held : Bool} {r : Reach}
theorem arg_int {v : Value} {d : DataW H} {p : List MemPlace} (hv : Value.okWide Tryz.prog W r base 3 v) (h : DataW.Trod enc Tryz.prog W 0 (fun _ => true) true 3 v d p) : ∃ a : Int, v = .int .i64 a ∧ I64 a := by
  obtain ⟨a, rfl, rfl, rfl, w⟩ := open_int Tryz.underlying3 hv h
  refine ⟨a, rfl, ?_⟩
  simp [Lit.wf, IntKind.min, IntKind.max, IntKind.bits, IntKind.signed] at w
  exact ⟨by omega, by omega⟩
theorem cells_ints {x : Addr} {l c : Nat} {zs : List Int} (hl : l ≤ c) (hm : c ≤ maxLen) (hz : l ≤ zs.length) (hcell : ∀ i, i < zs.length → W.cell? (x.add i) = some (.int .i64 (zs.getD i 0))) : ∃ m : List Int, l = m.length ∧ RdI W W.heap.size (some x) c m := by
  refine ⟨zs.take l, by rw [List.length_take]; omega, ?_⟩
  have hl' : (zs.take l).length = l := by rw [List.length_take]; omega
  refine ⟨by rw [ints_len]; omega, by omega, by unfold maxLen at hm; omega, fun hn => ?_⟩
  obtain ⟨b, o, spot⟩ := x
  have hc0 := hcell 0 (by omega)
  have hspot : spot = none := by simpa [Addr.add] using World.cell?_spot hc0
  subst hspot
  have hlt := World.block_lt_of_cell? W _ hc0
  refine ⟨b, o, rfl, by simpa [Addr.add] using hlt, fun j u hu => ?_⟩
  have hj : j < (ints (zs.take l)).length := (List.getElem?_eq_some_iff.1 hu).1
  rw [ints_len, hl'] at hj
  have := hcell j (by omega)
  rw [Addr.add_lit] at this
  rw [this]
  unfold ints at hu
  rw [List.getElem?_map, List.getElem?_take, if_pos hj, List.getElem?_eq_getElem (by omega)] at hu
  simp only [Option.map_some, Option.some.injEq] at hu
  rw [← hu]
  simp [List.getD, List.getElem?_eq_getElem (show j < zs.length by omega)]
theorem arg_ints {v : Value} {d : DataW H} {p : List MemPlace} (hv : Value.okWide Tryz.prog W r base 47 v) (h : DataW.Trod enc Tryz.prog W 0 (fun _ => true) true 47 v d p) :
    ∃ (A : Option Addr) (c : Nat) (l : List Int), v = .slice A l.length c ∧ RdI W W.heap.size A c l := by
  obtain ⟨a, len, cap, rfl⟩ := okWide_slice Tryz.underlying47 hv
  obtain ⟨fuel, hf⟩ := h
  rcases open_ints Tryz.underlying47 Tryz.underlying3 (by kernel_rfl) hf with ⟨hcs, _⟩ | ⟨x, l, c, zs, hcs, _, hl, hm, hz, _, hcell, hwz⟩
  · simp [Value.cells] at hcs
    obtain ⟨rfl, rfl, rfl⟩ := hcs
    exact ⟨none, 0, [], rfl, Rd.nil_ _ _ _⟩
  · simp [Value.cells] at hcs
    obtain ⟨rfl, rfl, rfl⟩ := hcs
    obtain ⟨m, rfl, hr⟩ := cells_ints (W := W) hl hm (by simp at hz; omega) hcell
    exact ⟨some x, cap, m, rfl, hr⟩
/-- The fields of a struct, each read off its own cells. -/
theorem fields {t : TypeId} {fs : Array Field} {fuel : Nat} {cs : List Value} {x : DataW H × List MemPlace} (ht : Tryz.prog.underlying t = some (.struct fs)) (h : DataW.trod enc Tryz.prog W 0 (fun _ => true) true fuel t cs = some x) :
    cs.length = Tryz.prog.cellsOf t ∧ ∃ n, ∀ (i : Nat) (f : Field), fs[i]? = some f → ∃ y, DataW.trod enc Tryz.prog W 0 (fun _ => true) true n f.type ((cs.drop f.offset).take (Tryz.prog.cellsOf f.type)) = some y := by
  obtain ⟨xs, n, _, _, hl, hlen, hf⟩ := DataW.trod_struct ht h
  refine ⟨hl, n, fun i f hi => ?_⟩
  have hil : i < fs.size := (Array.getElem?_eq_some_iff.1 hi).1
  exact ⟨xs[i]'(by omega), by rw [hf i f hi]; exact List.getElem?_eq_getElem (by omega)⟩
theorem struct_cells {t : TypeId} {fs : Array Field} {v : Value} (ht : Tryz.prog.underlying t = some (.struct fs)) (hv : Value.okWide Tryz.prog W r base t v) : ∃ cs : List Value, v = .agg cs.toArray ∧ cs.length = Tryz.prog.cellsOf t := by
  obtain ⟨cs, rfl, hsz⟩ := okWide_struct ht hv
  exact ⟨cs.toList, rfl, by simpa using hsz⟩
theorem cellsInt : Tryz.prog.cellsOf 3 = 1 := by kernel_rfl
theorem int_of {n : Nat} {c : Value} {y : DataW H × List MemPlace} (h : DataW.trod enc Tryz.prog W 0 (fun _ => true) true n 3 [c] = some y) : ∃ a : Int, c = .int .i64 a ∧ I64 a := by
  obtain ⟨a, e, rfl, w⟩ := DataW.trod_int Tryz.underlying3 h
  simp only [List.cons.injEq, and_true] at e
  exact ⟨a, e, by have := bounds_i64 w; exact ⟨this.1, this.2⟩⟩
theorem three_ints {fuel : Nat} {t : TypeId} {f0 f1 f2 : Field} {cs : List Value} {x : DataW H × List MemPlace} (ht : Tryz.prog.underlying t = some (.struct #[f0, f1, f2])) (hc : Tryz.prog.cellsOf t = 3)
    (h0 : f0.type = 3 ∧ f0.offset = 0) (h1 : f1.type = 3 ∧ f1.offset = 1) (h2 : f2.type = 3 ∧ f2.offset = 2)
    (h : DataW.trod enc Tryz.prog W 0 (fun _ => true) true fuel t cs = some x) : ∃ a b c : Int, cs = [.int .i64 a, .int .i64 b, .int .i64 c] ∧ I64 a ∧ I64 b ∧ I64 c := by
  obtain ⟨hl, n, hf⟩ := fields ht h
  rw [hc] at hl
  match cs, hl with
  | [c0, c1, c2], _ =>
    obtain ⟨y0, e0⟩ := hf 0 f0 rfl
    obtain ⟨y1, e1⟩ := hf 1 f1 rfl
    obtain ⟨y2, e2⟩ := hf 2 f2 rfl
    rw [h0.1, h0.2, cellsInt] at e0
    rw [h1.1, h1.2, cellsInt] at e1
    rw [h2.1, h2.2, cellsInt] at e2
    obtain ⟨a, rfl, wa⟩ := int_of e0
    obtain ⟨b, rfl, wb⟩ := int_of e1
    obtain ⟨c, rfl, wc⟩ := int_of e2
    exact ⟨a, b, c, rfl, wa, wb, wc⟩
theorem two_ints {fuel : Nat} {t : TypeId} {f0 f1 : Field} {cs : List Value} {x : DataW H × List MemPlace} (ht : Tryz.prog.underlying t = some (.struct #[f0, f1])) (hc : Tryz.prog.cellsOf t = 2)
    (h0 : f0.type = 3 ∧ f0.offset = 0) (h1 : f1.type = 3 ∧ f1.offset = 1)
    (h : DataW.trod enc Tryz.prog W 0 (fun _ => true) true fuel t cs = some x) : ∃ a b : Int, cs = [.int .i64 a, .int .i64 b] ∧ I64 a ∧ I64 b := by
  obtain ⟨hl, n, hf⟩ := fields ht h
  rw [hc] at hl
  match cs, hl with
  | [c0, c1], _ =>
    obtain ⟨y0, e0⟩ := hf 0 f0 rfl
    obtain ⟨y1, e1⟩ := hf 1 f1 rfl
    rw [h0.1, h0.2, cellsInt] at e0
    rw [h1.1, h1.2, cellsInt] at e1
    obtain ⟨a, rfl, wa⟩ := int_of e0
    obtain ⟨b, rfl, wb⟩ := int_of e1
    exact ⟨a, b, rfl, wa, wb⟩
theorem arg_act {v : Value} {d : DataW H} {p : List MemPlace} (hv : Value.okWide Tryz.prog W r base 29 v) (h : DataW.Trod enc Tryz.prog W 0 (fun _ => true) true 29 v d p) :
    ∃ x y z : Int, v = .agg #[.int .i64 x, .int .i64 y, .int .i64 z] ∧ I64 x ∧ I64 y ∧ I64 z := by
  obtain ⟨cs, rfl, _⟩ := struct_cells Tryz.underlying29 hv
  obtain ⟨fuel, hf⟩ := h
  obtain ⟨a, b, c, rfl, w⟩ := three_ints Tryz.underlying29 (by kernel_rfl) ⟨rfl, rfl⟩ ⟨rfl, rfl⟩ ⟨rfl, rfl⟩ (by simpa [Value.cells] using hf)
  exact ⟨a, b, c, rfl, w⟩
theorem arg_event {v : Value} {d : DataW H} {p : List MemPlace} (hv : Value.okWide Tryz.prog W r base 112 v) (h : DataW.Trod enc Tryz.prog W 0 (fun _ => true) true 112 v d p) :
    ∃ x y z : Int, v = .agg #[.int .i64 x, .int .i64 y, .int .i64 z] ∧ I64 x ∧ I64 y ∧ I64 z := by
  obtain ⟨cs, rfl, _⟩ := struct_cells Tryz.underlying112 hv
  obtain ⟨fuel, hf⟩ := h
  obtain ⟨a, b, c, rfl, w⟩ := three_ints Tryz.underlying112 (by kernel_rfl) ⟨rfl, rfl⟩ ⟨rfl, rfl⟩ ⟨rfl, rfl⟩ (by simpa [Value.cells] using hf)
  exact ⟨a, b, c, rfl, w⟩
theorem arg_fraction {v : Value} {d : DataW H} {p : List MemPlace} (hv : Value.okWide Tryz.prog W r base 96 v) (h : DataW.Trod enc Tryz.prog W 0 (fun _ => true) true 96 v d p) :
    ∃ x y : Int, v = .agg #[.int .i64 x, .int .i64 y] ∧ I64 x ∧ I64 y := by
  obtain ⟨cs, rfl, _⟩ := struct_cells Tryz.underlying96 hv
  obtain ⟨fuel, hf⟩ := h
  obtain ⟨a, b, rfl, w⟩ := two_ints Tryz.underlying96 (by kernel_rfl) ⟨rfl, rfl⟩ ⟨rfl, rfl⟩ (by simpa [Value.cells] using hf)
  exact ⟨a, b, rfl, w⟩
end
end Go.Proofs.YtljidaniidfdoaaGreat

namespace Go.Proofs.YtljidaniidfdoaaGreat
open Go.ChangeShapes Go.WideShapes Go.ChangeAt Go.RowKit Go.Deep
set_option maxRecDepth 20000
theorem list_of {α : Type} (P : Nat → α → Prop) : ∀ len : Nat, (∀ i, i < len → ∃ t, P i t) → ∃ l : List α, l.length = len ∧ ∀ i t, l[i]? = some t → P i t
  | 0, _ => ⟨[], rfl, fun i t h => by simp at h⟩
  | n + 1, h => by
    obtain ⟨l, hl, hp⟩ := list_of P n (fun i hi => h i (by omega))
    obtain ⟨t, ht⟩ := h n (by omega)
    refine ⟨l ++ [t], by simp [hl], fun i u hu => ?_⟩
    by_cases hi : i < l.length
    · rw [List.getElem?_append_left hi] at hu; exact hp i u hu
    · have : i = l.length := by
        have := (List.getElem?_eq_some_iff.1 hu).1
        simp at this; omega
      subst this
      simp at hu
      subst hu
      rw [hl]; exact ht
theorem t3s_at : ∀ {l : List T3} {j : Nat} {u : Value}, (t3s l)[j]? = some u → ∃ k t, l[k]? = some t ∧ ((j = k * 3 ∧ u = .int .i64 t.x) ∨ (j = k * 3 + 1 ∧ u = .int .i64 t.y) ∨ (j = k * 3 + 2 ∧ u = .int .i64 t.z))
  | [], j, u, h => by simp [t3s] at h
  | s :: l, j, u, h => by
    rw [t3s_cons] at h
    match j, h with
    | 0, h => exact ⟨0, s, rfl, .inl ⟨rfl, by simpa using h.symm⟩⟩
    | 1, h => exact ⟨0, s, rfl, .inr (.inl ⟨rfl, by simpa using h.symm⟩)⟩
    | 2, h => exact ⟨0, s, rfl, .inr (.inr ⟨rfl, by simpa using h.symm⟩)⟩
    | j + 3, h =>
      obtain ⟨k, t, hk, hh⟩ := t3s_at (l := l) (j := j) (u := u) (by simpa using h)
      refine ⟨k + 1, t, by simpa using hk, ?_⟩
      rcases hh with ⟨e, h1⟩ | ⟨e, h1⟩ | ⟨e, h1⟩
      · exact .inl ⟨by omega, h1⟩
      · exact .inr (.inl ⟨by omega, h1⟩)
      · exact .inr (.inr ⟨by omega, h1⟩)
section
variable {H : Type} {enc : TypeId × Value → H} {W : World} {base : Nat} {r : Reach}
/-- A slice of structs whose three cells are ints. -/
theorem slice_t3 {t e : TypeId} {fuel : Nat} {v : Value} {x : DataW H × List MemPlace} (ht : Tryz.prog.underlying t = some (.slice e)) (hC : Tryz.prog.cellsOf e = 3)
    (he : ∀ (n : Nat) (cs : List Value) (y : DataW H × List MemPlace), DataW.trod enc Tryz.prog W 0 (fun _ => true) true n e cs = some y → ∃ a b c : Int, cs = [.int .i64 a, .int .i64 b, .int .i64 c] ∧ I64 a ∧ I64 b ∧ I64 c)
    (h : DataW.trod enc Tryz.prog W 0 (fun _ => true) true fuel t [v] = some x) : ∃ (A : Option Addr) (c : Nat) (l : List T3), v = .slice A l.length c ∧ RdT W W.heap.size A c l := by
  rcases open_slice ht h with ⟨hcs, _⟩ | ⟨a, len, cap, m, n, D, Pl, hcs, _, hl, hm, hmm, _, hi⟩
  · simp only [List.cons.injEq, and_true] at hcs
    subst hcs
    exact ⟨none, 0, [], rfl, Rd.nil_ _ _ _⟩
  · simp only [List.cons.injEq, and_true] at hcs
    subst hcs
    have hlm : len ≤ m := by rw [hmm]; split <;> omega
    obtain ⟨l, hll, hp⟩ := list_of (fun i (t : T3) => W.cell? (a.add (i * 3)) = some (.int .i64 t.x) ∧ W.cell? (a.add (i * 3 + 1)) = some (.int .i64 t.y) ∧ W.cell? (a.add (i * 3 + 2)) = some (.int .i64 t.z)) len (fun i hil => by
      obtain ⟨cs', hc, ht'⟩ := hi i (by omega)
      rw [hC] at hc
      obtain ⟨_, hcl, hat⟩ := World.cells?_some hc
      obtain ⟨p, q, s, rfl, _⟩ := he _ _ _ ht'
      have h0 := hat 0 (by omega)
      have h1 := hat 1 (by omega)
      have h2 := hat 2 (by omega)
      rw [Go.Deep.add_add] at h0 h1 h2
      exact ⟨⟨p, q, s⟩, by simpa using h0, by simpa using h1, by simpa using h2⟩)
    subst hll
    refine ⟨some a, cap, l, rfl, t3s_len l, hl, by unfold maxLen at hm; omega, fun hn => ?_⟩
    have hc0 := (hp 0 l[0] (List.getElem?_eq_getElem hn)).1
    obtain ⟨b, o, spot⟩ := a
    have hspot : spot = none := by simpa [Addr.add] using World.cell?_spot hc0
    subst hspot
    have hlt := World.block_lt_of_cell? W _ hc0
    refine ⟨b, o, rfl, by simpa [Addr.add] using hlt, fun j u hu => ?_⟩
    obtain ⟨k, t, hk, hh⟩ := t3s_at hu
    obtain ⟨c0, c1, c2⟩ := hp k t hk
    rw [Addr.add_lit] at c0 c1 c2
    rcases hh with ⟨rfl, rfl⟩ | ⟨rfl, rfl⟩ | ⟨rfl, rfl⟩
    · exact c0
    · exact c1
    · exact c2
theorem ev_cells (n : Nat) (cs : List Value) (y : DataW H × List MemPlace) (h : DataW.trod enc Tryz.prog W 0 (fun _ => true) true n 112 cs = some y) : ∃ a b c : Int, cs = [.int .i64 a, .int .i64 b, .int .i64 c] ∧ I64 a ∧ I64 b ∧ I64 c :=
  three_ints Tryz.underlying112 (by kernel_rfl) ⟨rfl, rfl⟩ ⟨rfl, rfl⟩ ⟨rfl, rfl⟩ h
theorem book_cells {fuel : Nat} {cs : List Value} {x : DataW H × List MemPlace} (h : DataW.trod enc Tryz.prog W 0 (fun _ => true) true fuel 24 cs = some x) :
    ∃ (A : Option Addr) (c : Nat) (b : Bk), cs = [.int .i64 b.room, .int .i64 b.start, .slice A b.evs.length c, .int .i64 b.level, .int .i64 b.rained, .int .i64 b.drunk, .int .i64 b.lost] ∧ RdT W W.heap.size A c b.evs := by
  obtain ⟨hl, n, hf⟩ := fields Tryz.underlying24 h
  rw [show Tryz.prog.cellsOf 24 = 7 by kernel_rfl] at hl
  have cE : Tryz.prog.cellsOf 22 = 1 := by kernel_rfl
  match cs, hl with
  | [c0, c1, c2, c3, c4, c5, c6], _ =>
    obtain ⟨y0, e0⟩ := hf 0 _ rfl
    obtain ⟨y1, e1⟩ := hf 1 _ rfl
    obtain ⟨y2, e2⟩ := hf 2 _ rfl
    obtain ⟨y3, e3⟩ := hf 3 _ rfl
    obtain ⟨y4, e4⟩ := hf 4 _ rfl
    obtain ⟨y5, e5⟩ := hf 5 _ rfl
    obtain ⟨y6, e6⟩ := hf 6 _ rfl
    change DataW.trod enc Tryz.prog W 0 (fun _ => true) true n 3 (List.take (Tryz.prog.cellsOf 3) (List.drop 0 [c0, c1, c2, c3, c4, c5, c6])) = some y0 at e0
    change DataW.trod enc Tryz.prog W 0 (fun _ => true) true n 3 (List.take (Tryz.prog.cellsOf 3) (List.drop 1 [c0, c1, c2, c3, c4, c5, c6])) = some y1 at e1
    change DataW.trod enc Tryz.prog W 0 (fun _ => true) true n 22 (List.take (Tryz.prog.cellsOf 22) (List.drop 2 [c0, c1, c2, c3, c4, c5, c6])) = some y2 at e2
    change DataW.trod enc Tryz.prog W 0 (fun _ => true) true n 3 (List.take (Tryz.prog.cellsOf 3) (List.drop 3 [c0, c1, c2, c3, c4, c5, c6])) = some y3 at e3
    change DataW.trod enc Tryz.prog W 0 (fun _ => true) true n 3 (List.take (Tryz.prog.cellsOf 3) (List.drop 4 [c0, c1, c2, c3, c4, c5, c6])) = some y4 at e4
    change DataW.trod enc Tryz.prog W 0 (fun _ => true) true n 3 (List.take (Tryz.prog.cellsOf 3) (List.drop 5 [c0, c1, c2, c3, c4, c5, c6])) = some y5 at e5
    change DataW.trod enc Tryz.prog W 0 (fun _ => true) true n 3 (List.take (Tryz.prog.cellsOf 3) (List.drop 6 [c0, c1, c2, c3, c4, c5, c6])) = some y6 at e6
    rw [cellsInt] at e0 e1 e3 e4 e5 e6
    rw [cE] at e2
    obtain ⟨a0, rfl, _⟩ := int_of e0
    obtain ⟨a1, rfl, _⟩ := int_of e1
    obtain ⟨a3, rfl, _⟩ := int_of e3
    obtain ⟨a4, rfl, _⟩ := int_of e4
    obtain ⟨a5, rfl, _⟩ := int_of e5
    obtain ⟨a6, rfl, _⟩ := int_of e6
    obtain ⟨A, c, l, rfl, hr⟩ := slice_t3 Tryz.underlying22 (by kernel_rfl) ev_cells e2
    exact ⟨A, c, ⟨a0, a1, l, a3, a4, a5, a6⟩, rfl, hr⟩
theorem arg_book {v : Value} {d : DataW H} {p : List MemPlace} (hv : Value.okWide Tryz.prog W r base 24 v) (h : DataW.Trod enc Tryz.prog W 0 (fun _ => true) true 24 v d p) :
    ∃ (A : Option Addr) (c : Nat) (b : Bk), v = b.val A c ∧ RdT W W.heap.size A c b.evs := by
  obtain ⟨cs, rfl, _⟩ := struct_cells Tryz.underlying24 hv
  obtain ⟨fuel, hf⟩ := h
  obtain ⟨A, c, b, rfl, hr⟩ := book_cells (by simpa [Value.cells] using hf)
  exact ⟨A, c, b, rfl, hr⟩
end
end Go.Proofs.YtljidaniidfdoaaGreat

namespace Go.Proofs.YtljidaniidfdoaaGreat
open Go.ChangeShapes Go.WideShapes Go.ChangeAt Go.RowKit Go.Deep
set_option maxRecDepth 20000
section
variable {H : Type} {enc : TypeId × Value → H} {W : World} {base : Nat} {r : Reach}
/-- A struct of an int and a struct of two ints. -/
theorem one_two_ints {fuel : Nat} {t s : TypeId} {f0 f1 g0 g1 : Field} {cs : List Value} {x : DataW H × List MemPlace} (ht : Tryz.prog.underlying t = some (.struct #[f0, f1])) (hc : Tryz.prog.cellsOf t = 3)
    (h0 : f0.type = 3 ∧ f0.offset = 0) (h1 : f1.type = s ∧ f1.offset = 1) (hs : Tryz.prog.underlying s = some (.struct #[g0, g1])) (hcs : Tryz.prog.cellsOf s = 2) (k0 : g0.type = 3 ∧ g0.offset = 0) (k1 : g1.type = 3 ∧ g1.offset = 1)
    (h : DataW.trod enc Tryz.prog W 0 (fun _ => true) true fuel t cs = some x) : ∃ a b c : Int, cs = [.int .i64 a, .int .i64 b, .int .i64 c] ∧ I64 a ∧ I64 b ∧ I64 c := by
  obtain ⟨hl, n, hf⟩ := fields ht h
  rw [hc] at hl
  match cs, hl with
  | [c0, c1, c2], _ =>
    obtain ⟨y0, e0⟩ := hf 0 f0 rfl
    obtain ⟨y1, e1⟩ := hf 1 f1 rfl
    rw [h0.1, h0.2, cellsInt] at e0
    rw [h1.1, h1.2, hcs] at e1
    obtain ⟨a, rfl, wa⟩ := int_of e0
    obtain ⟨b, c, e, wb, wc⟩ := two_ints hs hcs k0 k1 e1
    simp only [List.drop_succ_cons, List.drop_zero, List.take_succ_cons, List.take_zero, List.cons.injEq, and_true] at e
    obtain ⟨rfl, rfl⟩ := e
    exact ⟨a, b, c, rfl, wa, wb, wc⟩
theorem right_cells (n : Nat) (cs : List Value) (y : DataW H × List MemPlace) (h : DataW.trod enc Tryz.prog W 0 (fun _ => true) true n 98 cs = some y) : ∃ a b c : Int, cs = [.int .i64 a, .int .i64 b, .int .i64 c] ∧ I64 a ∧ I64 b ∧ I64 c :=
  one_two_ints Tryz.underlying98 (by kernel_rfl) ⟨rfl, rfl⟩ ⟨rfl, rfl⟩ Tryz.underlying96 (by kernel_rfl) ⟨rfl, rfl⟩ ⟨rfl, rfl⟩ h
theorem arg_right {v : Value} {d : DataW H} {p : List MemPlace} (hv : Value.okWide Tryz.prog W r base 98 v) (h : DataW.Trod enc Tryz.prog W 0 (fun _ => true) true 98 v d p) :
    ∃ x y z : Int, v = .agg #[.int .i64 x, .int .i64 y, .int .i64 z] ∧ I64 x ∧ I64 y ∧ I64 z := by
  obtain ⟨cs, rfl, _⟩ := struct_cells Tryz.underlying98 hv
  obtain ⟨fuel, hf⟩ := h
  obtain ⟨a, b, c, rfl, w⟩ := right_cells _ _ _ (by simpa [Value.cells] using hf)
  exact ⟨a, b, c, rfl, w⟩
theorem arg_rights {v : Value} {d : DataW H} {p : List MemPlace} (hv : Value.okWide Tryz.prog W r base 25 v) (h : DataW.Trod enc Tryz.prog W 0 (fun _ => true) true 25 v d p) :
    ∃ (A : Option Addr) (c : Nat) (l : List T3), v = .slice A l.length c ∧ RdT W W.heap.size A c l := by
  obtain ⟨a, len, cap, rfl⟩ := okWide_slice Tryz.underlying25 hv
  obtain ⟨fuel, hf⟩ := h
  exact slice_t3 Tryz.underlying25 (by kernel_rfl) right_cells (by simpa [Value.cells] using hf)
theorem act_cells (n : Nat) (cs : List Value) (y : DataW H × List MemPlace) (h : DataW.trod enc Tryz.prog W 0 (fun _ => true) true n 29 cs = some y) : ∃ a b c : Int, cs = [.int .i64 a, .int .i64 b, .int .i64 c] ∧ I64 a ∧ I64 b ∧ I64 c :=
  three_ints Tryz.underlying29 (by kernel_rfl) ⟨rfl, rfl⟩ ⟨rfl, rfl⟩ ⟨rfl, rfl⟩ h
theorem arg_acts {v : Value} {d : DataW H} {p : List MemPlace} (hv : Value.okWide Tryz.prog W r base 45 v) (h : DataW.Trod enc Tryz.prog W 0 (fun _ => true) true 45 v d p) :
    ∃ (A : Option Addr) (c : Nat) (l : List T3), v = .slice A l.length c ∧ RdT W W.heap.size A c l := by
  obtain ⟨a, len, cap, rfl⟩ := okWide_slice Tryz.underlying45 hv
  obtain ⟨fuel, hf⟩ := h
  exact slice_t3 Tryz.underlying45 (by kernel_rfl) act_cells (by simpa [Value.cells] using hf)
end
end Go.Proofs.YtljidaniidfdoaaGreat

namespace Go.Proofs.YtljidaniidfdoaaGreat
open Go.ChangeShapes Go.WideShapes Go.ChangeAt Go.RowKit Go.Deep
set_option maxRecDepth 20000
section
variable {H : Type} {enc : TypeId × Value → H} {W : World} {base : Nat} {r : Reach}
theorem arg_village {v : Value} {d : DataW H} {p : List MemPlace} (hv : Value.okWide Tryz.prog W r base 27 v) (h : DataW.Trod enc Tryz.prog W 0 (fun _ => true) true 27 v d p) :
    ∃ (A : Option Addr) (c : Nat) (R : Option Addr) (d : Nat) (v' : Vg), v = v'.val A c R d ∧ RdT W W.heap.size A c v'.book.evs ∧ RdT W W.heap.size R d v'.rights := by
  obtain ⟨cs, rfl, _⟩ := struct_cells Tryz.underlying27 hv
  obtain ⟨fuel, hf⟩ := h
  have hf' : DataW.trod enc Tryz.prog W 0 (fun _ => true) true fuel 27 cs = some (d, p) := by simpa [Value.cells] using hf
  obtain ⟨hl, n, hfs⟩ := fields Tryz.underlying27 hf'
  rw [show Tryz.prog.cellsOf 27 = 8 by kernel_rfl] at hl
  have c1 : Tryz.prog.cellsOf 24 = 7 := by kernel_rfl
  have c2 : Tryz.prog.cellsOf 25 = 1 := by kernel_rfl
  match cs, hl with
  | [k0, k1, k2, k3, k4, k5, k6, k7], _ =>
    obtain ⟨y0, e0⟩ := hfs 0 _ rfl
    obtain ⟨y1, e1⟩ := hfs 1 _ rfl
    change DataW.trod enc Tryz.prog W 0 (fun _ => true) true n 24 (List.take (Tryz.prog.cellsOf 24) (List.drop 0 [k0, k1, k2, k3, k4, k5, k6, k7])) = some y0 at e0
    change DataW.trod enc Tryz.prog W 0 (fun _ => true) true n 25 (List.take (Tryz.prog.cellsOf 25) (List.drop 7 [k0, k1, k2, k3, k4, k5, k6, k7])) = some y1 at e1
    rw [c1] at e0
    rw [c2] at e1
    obtain ⟨A, c, b, e, hr⟩ := book_cells e0
    obtain ⟨R, d', l, e', hr'⟩ := slice_t3 Tryz.underlying25 (by kernel_rfl) right_cells e1
    subst e'
    simp only [List.drop_zero, List.take_succ_cons, List.take_zero, List.cons.injEq, and_true] at e
    obtain ⟨rfl, rfl, rfl, rfl, rfl, rfl, rfl⟩ := e
    exact ⟨A, c, R, d', ⟨b, l⟩, rfl, hr, hr'⟩
end
end Go.Proofs.YtljidaniidfdoaaGreat
