/- The law side's own helpers on slices of three-int structs: copy, compare, mark, look. -/
import Derived.Test.YtpmmjhpmheooeaaDoorMem
import Derived.Deep.RegionHeld3
namespace Go.Proofs.YtpmmjhpmheooeaaDoor
set_option linter.unusedSimpArgs false
set_option linter.unusedVariables false
open Go.RowKit
theorem madeT (n : Nat) : (madeCells #[Value.int .i64 0, .int .i64 0, .int .i64 0] (n * 3)).toList = t3s (List.replicate n ⟨0, 0, 0⟩) := by
  have h1 : ∀ m, t3s (List.replicate m ⟨0, 0, 0⟩) = List.replicate (m * 3) (Value.int .i64 0) := by
    intro m
    induction m with
    | zero => rfl
    | succ m ih => rw [List.replicate_succ, t3s_cons, ih, show (m + 1) * 3 = m * 3 + 1 + 1 + 1 by omega]; rfl
  rw [h1]
  unfold madeCells
  apply List.ext_getElem (by simp)
  intro i h2 h3
  have : i % 3 = 0 ∨ i % 3 = 1 ∨ i % 3 = 2 := by omega
  rcases this with e | e | e <;> simp [e]
def tkT (l : List T3) (k : Nat) : List T3 := l.take k ++ List.replicate (l.length - k) ⟨0, 0, 0⟩
theorem tkT_len (l : List T3) (k : Nat) (h : k ≤ l.length) : (tkT l k).length = l.length := by
  unfold tkT; rw [List.length_append, List.length_take, List.length_replicate, Nat.min_eq_left h]; omega
theorem tkT_succ {l : List T3} {k : Nat} {x : T3} (h : l[k]? = some x) : (tkT l k).set k x = tkT l (k + 1) := by
  obtain ⟨hk, rfl⟩ := List.getElem?_eq_some_iff.1 h
  unfold tkT
  have e : l.length - k = (l.length - (k + 1)) + 1 := by omega
  have e2 : (l.take k).length = k := by rw [List.length_take]; omega
  rw [e, List.replicate_succ, List.set_append_right _ _ (by omega), e2, Nat.sub_self, List.set_cons_zero, List.take_add_one, h, List.append_assoc]
  rfl
theorem tkT_all (l : List T3) : tkT l l.length = l := by simp [tkT]
theorem t3s_set : ∀ (l : List T3) (k : Nat) (t : T3), k < l.length → t3s (l.set k t) = (((t3s l).set (k * 3) (.int .i64 t.x)).set (k * 3 + 1) (.int .i64 t.y)).set (k * 3 + 2) (.int .i64 t.z)
  | [], k, t, h => by simp at h
  | s :: l, 0, t, h => by rw [List.set_cons_zero, t3s_cons, t3s_cons]; rfl
  | s :: l, k + 1, t, h => by
    rw [List.set_cons_succ, t3s_cons, t3s_cons, t3s_set l k t (by simpa using h), show (k + 1) * 3 = k * 3 + 1 + 1 + 1 by omega]
    rfl
/-- A store of one struct into an owned row. -/
theorem own_setT {w : World} {base : Nat} {e : TypeId} {c : Nat} {A : Option Addr} {l : List T3} (h : w.ownsRow base e 3 (.slice A l.length c) l.length (t3s l)) {k : Nat} (hk : k < l.length) :
    ∃ g, A = some ⟨g, 0, none⟩ ∧ base ≤ g ∧ g < w.heap.size ∧ (∀ j, w.frozen? ⟨g, j, none⟩ = false) ∧ (∃ t, l[k]? = some t ∧ w.cell? ⟨g, k * 3, none⟩ = some (.int .i64 t.x) ∧ w.cell? ⟨g, k * 3 + 1, none⟩ = some (.int .i64 t.y) ∧ w.cell? ⟨g, k * 3 + 2, none⟩ = some (.int .i64 t.z)) ∧
      ∀ t : T3, (((w.setCell ⟨g, k * 3, none⟩ (.int .i64 t.x)).setCell ⟨g, k * 3 + 1, none⟩ (.int .i64 t.y)).setCell ⟨g, k * 3 + 2, none⟩ (.int .i64 t.z)).ownsRow base e 3 (.slice A l.length c) l.length (t3s (l.set k t)) ∧
        w.grownBy (((w.setCell ⟨g, k * 3, none⟩ (.int .i64 t.x)).setCell ⟨g, k * 3 + 1, none⟩ (.int .i64 t.y)).setCell ⟨g, k * 3 + 2, none⟩ (.int .i64 t.z)) (some g) := by
  rcases h.2 with ⟨_, h2⟩ | ⟨g, cap, cur, hv, hg, hh, hnc, hcm, hcs, ht⟩
  · omega
  · simp only [Value.slice.injEq, true_and] at hv
    obtain ⟨rfl, rfl⟩ := hv
    have hlt : g < w.heap.size := (Array.getElem?_eq_some_iff.1 hh).1
    have hx : l[k]? = some l[k] := List.getElem?_eq_getElem hk
    have hg3 := t3s_get hx
    refine ⟨g, rfl, hg, hlt, fun j => h.frozenAt j, ⟨l[k], hx, (h.cellAt _ (by omega)).trans hg3.1, (h.cellAt _ (by omega)).trans hg3.2.1, (h.cellAt _ (by omega)).trans hg3.2.2⟩, fun t => ?_⟩
    have s0 := h.stored (k * 3) (.int .i64 t.x)
    have s1 := s0.1.stored (k * 3 + 1) (.int .i64 t.y)
    have s2 := s1.1.stored (k * 3 + 2) (.int .i64 t.z)
    rw [t3s_set l k t hk]
    exact ⟨s2.1, grownBy_trans (grownBy_trans s0.2 s1.2) s2.2⟩
end Go.Proofs.YtpmmjhpmheooeaaDoor
