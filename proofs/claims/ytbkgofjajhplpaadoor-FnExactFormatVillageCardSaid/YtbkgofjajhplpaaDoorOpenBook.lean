/- Arguments with slices of structs, opened to what the walks ask. -/
import Derived.Test.YtbkgofjajhplpaaDoorOpen
import Derived.Test.YtbkgofjajhplpaaDoorBook
import Derived.Deep.Slices
import Derived.Deep.Fields
namespace Go.Proofs.YtbkgofjajhplpaaDoor
set_option linter.unusedSimpArgs false
set_option linter.unusedVariables false
open Go.ChangeShapes Go.WideShapes Go.ChangeAt Go.RowKit Go.Deep
set_option maxRecDepth 20000
theorem list_of {α : Type} (P : Nat → α → Prop) : ∀ len : Nat, (∀ i, i < len → ∃ t, P i t) → ∃ l : List α, l.length = len ∧ ∀ i t, l[i]? = some t → P i t
  | 0, _ => ⟨[], rfl, fun i t h => by simp at h⟩
  | n + 1, h => by
    obtain ⟨l, hl, hp⟩ := list_of P n (fun i hi => h i (by omega))
    obtain ⟨t, ht⟩ := h n (by omega)
    refine ⟨l ++ [t], by simp [hl], fun i u hu => ?_⟩
    by_cases hi : i < l.length
    · rw [List.getElem?_append_left hi] at hu; exact hp i u hu
    · have : i = l.length := by
        have := (List.getElem?_eq_some_iff.1 hu).1
        simp at this; omega
      subst this
      simp at hu
      subst hu
      rw [hl]; exact ht
theorem t3s_at : ∀ {l : List T3} {j : Nat} {u : Value}, (t3s l)[j]? = some u → ∃ k t, l[k]? = some t ∧ ((j = k * 3 ∧ u = .int .i64 t.x) ∨ (j = k * 3 + 1 ∧ u = .int .i64 t.y) ∨ (j = k * 3 + 2 ∧ u = .int .i64 t.z))
  | [], j, u, h => by simp [t3s] at h
  | s :: l, j, u, h => by
    rw [t3s_cons] at h
    match j, h with
    | 0, h => exact ⟨0, s, rfl, .inl ⟨rfl, by simpa using h.symm⟩⟩
    | 1, h => exact ⟨0, s, rfl, .inr (.inl ⟨rfl, by simpa using h.symm⟩)⟩
    | 2, h => exact ⟨0, s, rfl, .inr (.inr ⟨rfl, by simpa using h.symm⟩)⟩
    | j + 3, h =>
      obtain ⟨k, t, hk, hh⟩ := t3s_at (l := l) (j := j) (u := u) (by simpa using h)
      refine ⟨k + 1, t, by simpa using hk, ?_⟩
      rcases hh with ⟨e, h1⟩ | ⟨e, h1⟩ | ⟨e, h1⟩
      · exact .inl ⟨by omega, h1⟩
      · exact .inr (.inl ⟨by omega, h1⟩)
      · exact .inr (.inr ⟨by omega, h1⟩)
section
variable {H : Type} {enc : TypeId × Value → H} {W : World} {base : Nat} {r : Reach}
/-- A slice of structs whose three cells are ints. -/
theorem slice_t3 {t e : TypeId} {fuel : Nat} {v : Value} {x : DataW H × List MemPlace} (ht : Tryd.prog.underlying t = some (.slice e)) (hC : Tryd.prog.cellsOf e = 3)
    (he : ∀ (n : Nat) (cs : List Value) (y : DataW H × List MemPlace), DataW.trod enc Tryd.prog W 0 (fun _ => true) true n e cs = some y → ∃ a b c : Int, cs = [.int .i64 a, .int .i64 b, .int .i64 c] ∧ I64 a ∧ I64 b ∧ I64 c)
    (h : DataW.trod enc Tryd.prog W 0 (fun _ => true) true fuel t [v] = some x) : ∃ (A : Option Addr) (c : Nat) (l : List T3), v = .slice A l.length c ∧ RdT W W.heap.size A c l := by
  rcases open_slice ht h with ⟨hcs, _⟩ | ⟨a, len, cap, m, n, D, Pl, hcs, _, hl, hm, hmm, _, hi⟩
  · simp only [List.cons.injEq, and_true] at hcs
    subst hcs
    exact ⟨none, 0, [], rfl, Rd.nil_ _ _ _⟩
  · simp only [List.cons.injEq, and_true] at hcs
    subst hcs
    have hlm : len ≤ m := by rw [hmm]; split <;> omega
    obtain ⟨l, hll, hp⟩ := list_of (fun i (t : T3) => W.cell? (a.add (i * 3)) = some (.int .i64 t.x) ∧ W.cell? (a.add (i * 3 + 1)) = some (.int .i64 t.y) ∧ W.cell? (a.add (i * 3 + 2)) = some (.int .i64 t.z)) len (fun i hil => by
      obtain ⟨cs', hc, ht'⟩ := hi i (by omega)
      rw [hC] at hc
      obtain ⟨_, hcl, hat⟩ := World.cells?_some hc
      obtain ⟨p, q, s, rfl, _⟩ := he _ _ _ ht'
      have h0 := hat 0 (by omega)
      have h1 := hat 1 (by omega)
      have h2 := hat 2 (by omega)
      rw [Go.Deep.add_add] at h0 h1 h2
      exact ⟨⟨p, q, s⟩, by simpa using h0, by simpa using h1, by simpa using h2⟩)
    subst hll
    refine ⟨some a, cap, l, rfl, t3s_len l, hl, by unfold maxLen at hm; omega, fun hn => ?_⟩
    have hc0 := (hp 0 l[0] (List.getElem?_eq_getElem hn)).1
    obtain ⟨b, o, spot⟩ := a
    have hspot : spot = none := by simpa [Addr.add] using World.cell?_spot hc0
    subst hspot
    have hlt := World.block_lt_of_cell? W _ hc0
    refine ⟨b, o, rfl, by simpa [Addr.add] using hlt, fun j u hu => ?_⟩
    obtain ⟨k, t, hk, hh⟩ := t3s_at hu
    obtain ⟨c0, c1, c2⟩ := hp k t hk
    rw [Addr.add_lit] at c0 c1 c2
    rcases hh with ⟨rfl, rfl⟩ | ⟨rfl, rfl⟩ | ⟨rfl, rfl⟩
    · exact c0
    · exact c1
    · exact c2
theorem ev_cells (n : Nat) (cs : List Value) (y : DataW H × List MemPlace) (h : DataW.trod enc Tryd.prog W 0 (fun _ => true) true n 145 cs = some y) : ∃ a b c : Int, cs = [.int .i64 a, .int .i64 b, .int .i64 c] ∧ I64 a ∧ I64 b ∧ I64 c :=
  three_ints Tryd.underlying145 (by kernel_rfl) ⟨rfl, rfl⟩ ⟨rfl, rfl⟩ ⟨rfl, rfl⟩ h
theorem book_cells {fuel : Nat} {cs : List Value} {x : DataW H × List MemPlace} (h : DataW.trod enc Tryd.prog W 0 (fun _ => true) true fuel 30 cs = some x) :
    ∃ (A : Option Addr) (c : Nat) (b : Bk), cs = [.int .i64 b.room, .int .i64 b.start, .slice A b.evs.length c, .int .i64 b.level, .int .i64 b.rained, .int .i64 b.drunk, .int .i64 b.lost] ∧ RdT W W.heap.size A c b.evs := by
  obtain ⟨hl, n, hf⟩ := fields Tryd.underlying30 h
  rw [show Tryd.prog.cellsOf 30 = 7 by kernel_rfl] at hl
  have cE : Tryd.prog.cellsOf 28 = 1 := by kernel_rfl
  match cs, hl with
  | [c0, c1, c2, c3, c4, c5, c6], _ =>
    obtain ⟨y0, e0⟩ := hf 0 _ rfl
    obtain ⟨y1, e1⟩ := hf 1 _ rfl
    obtain ⟨y2, e2⟩ := hf 2 _ rfl
    obtain ⟨y3, e3⟩ := hf 3 _ rfl
    obtain ⟨y4, e4⟩ := hf 4 _ rfl
    obtain ⟨y5, e5⟩ := hf 5 _ rfl
    obtain ⟨y6, e6⟩ := hf 6 _ rfl
    change DataW.trod enc Tryd.prog W 0 (fun _ => true) true n 3 (List.take (Tryd.prog.cellsOf 3) (List.drop 0 [c0, c1, c2, c3, c4, c5, c6])) = some y0 at e0
    change DataW.trod enc Tryd.prog W 0 (fun _ => true) true n 3 (List.take (Tryd.prog.cellsOf 3) (List.drop 1 [c0, c1, c2, c3, c4, c5, c6])) = some y1 at e1
    change DataW.trod enc Tryd.prog W 0 (fun _ => true) true n 28 (List.take (Tryd.prog.cellsOf 28) (List.drop 2 [c0, c1, c2, c3, c4, c5, c6])) = some y2 at e2
    change DataW.trod enc Tryd.prog W 0 (fun _ => true) true n 3 (List.take (Tryd.prog.cellsOf 3) (List.drop 3 [c0, c1, c2, c3, c4, c5, c6])) = some y3 at e3
    change DataW.trod enc Tryd.prog W 0 (fun _ => true) true n 3 (List.take (Tryd.prog.cellsOf 3) (List.drop 4 [c0, c1, c2, c3, c4, c5, c6])) = some y4 at e4
    change DataW.trod enc Tryd.prog W 0 (fun _ => true) true n 3 (List.take (Tryd.prog.cellsOf 3) (List.drop 5 [c0, c1, c2, c3, c4, c5, c6])) = some y5 at e5
    change DataW.trod enc Tryd.prog W 0 (fun _ => true) true n 3 (List.take (Tryd.prog.cellsOf 3) (List.drop 6 [c0, c1, c2, c3, c4, c5, c6])) = some y6 at e6
    rw [cellsInt] at e0 e1 e3 e4 e5 e6
    rw [cE] at e2
    obtain ⟨a0, rfl, _⟩ := int_of e0
    obtain ⟨a1, rfl, _⟩ := int_of e1
    obtain ⟨a3, rfl, _⟩ := int_of e3
    obtain ⟨a4, rfl, _⟩ := int_of e4
    obtain ⟨a5, rfl, _⟩ := int_of e5
    obtain ⟨a6, rfl, _⟩ := int_of e6
    obtain ⟨A, c, l, rfl, hr⟩ := slice_t3 Tryd.underlying28 (by kernel_rfl) ev_cells e2
    exact ⟨A, c, ⟨a0, a1, l, a3, a4, a5, a6⟩, rfl, hr⟩
theorem arg_book {v : Value} {d : DataW H} {p : List MemPlace} (hv : Value.okWide Tryd.prog W r base 30 v) (h : DataW.Trod enc Tryd.prog W 0 (fun _ => true) true 30 v d p) :
    ∃ (A : Option Addr) (c : Nat) (b : Bk), v = b.val A c ∧ RdT W W.heap.size A c b.evs := by
  obtain ⟨cs, rfl, _⟩ := struct_cells Tryd.underlying30 hv
  obtain ⟨fuel, hf⟩ := h
  obtain ⟨A, c, b, rfl, hr⟩ := book_cells (by simpa [Value.cells] using hf)
  exact ⟨A, c, b, rfl, hr⟩
end
end Go.Proofs.YtbkgofjajhplpaaDoor
