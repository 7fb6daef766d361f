/- Arguments with slices of structs, opened to what the walks ask. -/
import Derived.Test.YtnedbdpcimhfgaaDoorOpen
import Derived.Test.YtnedbdpcimhfgaaDoorBook
import Derived.Deep.Slices
import Derived.Deep.Fields
namespace Go.Proofs.YtnedbdpcimhfgaaDoor
open Go.ChangeShapes Go.WideShapes Go.ChangeAt Go.RowKit Go.Deep
set_option maxRecDepth 20000
theorem list_of {α : Type} (P : Nat → α → Prop) : ∀ len : Nat, (∀ i, i < len → ∃ t, P i t) → ∃ l : List α, l.length = len ∧ ∀ i t, l[i]? = some t → P i t
  | 0, _ => ⟨[], rfl, fun i t h => by simp at h⟩
  | n + 1, h => by
    obtain ⟨l, hl, hp⟩ := list_of P n (fun i hi => h i (by omega))
    obtain ⟨t, ht⟩ := h n (by omega)
    refine ⟨l ++ [t], by simp [hl], fun i u hu => ?_⟩
    by_cases hi : i < l.length
    · rw [List.getElem?_append_left hi] at hu; exact hp i u hu
    · have : i = l.length := by
        have := (List.getElem?_eq_some_iff.1 hu).1
        simp at this; omega
      subst this
      simp at hu
      subst hu
      rw [hl]; exact ht
theorem t3s_at : ∀ {l : List T3} {j : Nat} {u : Value}, (t3s l)[j]? = some u → ∃ k t, l[k]? = some t ∧ ((j = k * 3 ∧ u = .int .i64 t.x) ∨ (j = k * 3 + 1 ∧ u = .int .i64 t.y) ∨ (j = k * 3 + 2 ∧ u = .int .i64 t.z))
  | [], j, u, h => by simp [t3s] at h
  | s :: l, j, u, h => by
    rw [t3s_cons] at h
    match j, h with
    | 0, h => exact ⟨0, s, rfl, .inl ⟨rfl, by simpa using h.symm⟩⟩
    | 1, h => exact ⟨0, s, rfl, .inr (.inl ⟨rfl, by simpa using h.symm⟩)⟩
    | 2, h => exact ⟨0, s, rfl, .inr (.inr ⟨rfl, by simpa using h.symm⟩)⟩
    | j + 3, h =>
      obtain ⟨k, t, hk, hh⟩ := t3s_at (l := l) (j := j) (u := u) (by simpa using h)
      refine ⟨k + 1, t, by simpa using hk, ?_⟩
      rcases hh with ⟨e, h1⟩ | ⟨e, h1⟩ | ⟨e, h1⟩
      · exact .inl ⟨by omega, h1⟩
      · exact .inr (.inl ⟨by omega, h1⟩)
      · exact .inr (.inr ⟨by omega, h1⟩)
section
variable {H : Type} {enc : TypeId × Value → H} {W : World} {base : Nat} {r : Reach}
/-- A slice of structs whose three cells are ints. -/
theorem slice_t3 {t e : TypeId} {fuel : Nat} {v : Value} {x : DataW H × List MemPlace} (ht : Tryd.prog.underlying t = some (.slice e)) (hC : Tryd.prog.cellsOf e = 3)
    (he : ∀ (n : Nat) (cs : List Value) (y : DataW H × List MemPlace), DataW.trod enc Tryd.prog W 0 (fun _ => true) true n e cs = some y → ∃ a b c : Int, cs = [.int .i64 a, .int .i64 b, .int .i64 c] ∧ I64 a ∧ I64 b ∧ I64 c)
    (h : DataW.trod enc Tryd.prog W 0 (fun _ => true) true fuel t [v] = some x) : ∃ (A : Option Addr) (c : Nat) (l : List T3), v = .slice A l.length c ∧ RdT W W.heap.size A c l := by
  rcases open_slice ht h with ⟨hcs, _⟩ | ⟨a, len, cap, m, n, D, Pl, hcs, _, hl, hm, hmm, _, hi⟩
  · simp only [List.cons.injEq, and_true] at hcs
    subst hcs
    exact ⟨none, 0, [], rfl, Rd.nil_ _ _ _⟩
  · simp only [List.cons.injEq, and_true] at hcs
    subst hcs
    have hlm : len ≤ m := by rw [hmm]; split <;> omega
    obtain ⟨l, hll, hp⟩ := list_of (fun i (t : T3) => W.cell? (a.add (i * 3)) = some (.int .i64 t.x) ∧ W.cell? (a.add (i * 3 + 1)) = some (.int .i64 t.y) ∧ W.cell? (a.add (i * 3 + 2)) = some (.int .i64 t.z)) len (fun i hil => by
      obtain ⟨cs', hc, ht'⟩ := hi i (by omega)
      rw [hC] at hc
      obtain ⟨_, hcl, hat⟩ := World.cells?_some hc
      obtain ⟨p, q, s, rfl, _⟩ := he _ _ _ ht'
      have h0 := hat 0 (by omega)
      have h1 := hat 1 (by omega)
      have h2 := hat 2 (by omega)
      rw [Go.Deep.add_add] at h0 h1 h2
      exact ⟨⟨p, q, s⟩, by simpa using h0, by simpa using h1, by simpa using h2⟩)
    subst hll
    refine ⟨some a, cap, l, rfl, t3s_len l, hl, by unfold maxLen at hm; omega, fun hn => ?_⟩
    have hc0 := (hp 0 l[0] (List.getElem?_eq_getElem hn)).1
    obtain ⟨b, o, spot⟩ := a
    have hspot : spot = none := by simpa [Addr.add] using World.cell?_spot hc0
    subst hspot
    have hlt := World.block_lt_of_cell? W _ hc0
    refine ⟨b, o, rfl, by simpa [Addr.add] using hlt, fun j u hu => ?_⟩
    obtain ⟨k, t, hk, hh⟩ := t3s_at hu
    obtain ⟨c0, c1, c2⟩ := hp k t hk
    rw [Addr.add_lit] at c0 c1 c2
    rcases hh with ⟨rfl, rfl⟩ | ⟨rfl, rfl⟩ | ⟨rfl, rfl⟩
    · exact c0
    · exact c1
    · exact c2
end
end Go.Proofs.YtnedbdpcimhfgaaDoor
