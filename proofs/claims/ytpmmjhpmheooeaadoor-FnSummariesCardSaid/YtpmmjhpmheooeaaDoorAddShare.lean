/- A share added to the right of an owner, or a right put in. -/
import Derived.Test.YtpmmjhpmheooeaaDoorRow3
import Derived.Test.YtpmmjhpmheooeaaDoorKd
import Derived.Deep.RegionHeld3
import Derived.Deep.Cut
namespace Go.Proofs.YtpmmjhpmheooeaaDoor
set_option linter.unusedSimpArgs false
set_option linter.unusedVariables false
open Go.RowKit
set_option maxRecDepth 20000
theorem t3s_set2 : ∀ (l : List T3) (k : Nat) (t : T3) (y z : Int), l[k]? = some t → t3s (l.set k ⟨t.x, y, z⟩) = ((t3s l).set (k * 3 + 1) (.int .i64 y)).set (k * 3 + 2) (.int .i64 z)
  | [], k, t, y, z, h => by simp at h
  | s :: l, 0, t, y, z, h => by simp at h; subst h; rw [List.set_cons_zero, t3s_cons, t3s_cons]; rfl
  | s :: l, k + 1, t, y, z, h => by
    rw [List.set_cons_succ, t3s_cons, t3s_cons, t3s_set2 l k t y z (by simpa using h), show (k + 1) * 3 = k * 3 + 1 + 1 + 1 by omega]
    rfl
/-- A store of a share into an owned row of rights. -/
theorem own_setS {w : World} {base : Nat} {e : TypeId} {c : Nat} {A : Option Addr} {l : List T3} (h : w.ownsRow base e 3 (.slice A l.length c) l.length (t3s l)) {k : Nat} {t : T3} (hk : l[k]? = some t) :
    ∃ g, A = some ⟨g, 0, none⟩ ∧ base ≤ g ∧ g < w.heap.size ∧ (∀ j, w.frozen? ⟨g, j, none⟩ = false) ∧ w.cell? ⟨g, k * 3, none⟩ = some (.int .i64 t.x) ∧ w.cell? ⟨g, k * 3 + 1, none⟩ = some (.int .i64 t.y) ∧ w.cell? ⟨g, k * 3 + 2, none⟩ = some (.int .i64 t.z) ∧
      ∀ y z : Int, ((w.setCell ⟨g, k * 3 + 1, none⟩ (.int .i64 y)).setCell ⟨g, k * 3 + 2, none⟩ (.int .i64 z)).ownsRow base e 3 (.slice A l.length c) l.length (t3s (l.set k ⟨t.x, y, z⟩)) ∧
        w.grownBy ((w.setCell ⟨g, k * 3 + 1, none⟩ (.int .i64 y)).setCell ⟨g, k * 3 + 2, none⟩ (.int .i64 z)) (some g) := by
  have hkl := (List.getElem?_eq_some_iff.1 hk).1
  rcases h.2 with ⟨_, h2⟩ | ⟨g, cap, cur, hv, hg, hh, hnc, hcm, hcs, ht⟩
  · omega
  · simp only [Value.slice.injEq, true_and] at hv
    obtain ⟨rfl, rfl⟩ := hv
    have hlt : g < w.heap.size := (Array.getElem?_eq_some_iff.1 hh).1
    have hg3 := t3s_get hk
    refine ⟨g, rfl, hg, hlt, fun j => h.frozenAt j, (h.cellAt _ (by omega)).trans hg3.1, (h.cellAt _ (by omega)).trans hg3.2.1, (h.cellAt _ (by omega)).trans hg3.2.2, fun y z => ?_⟩
    have s1 := h.stored (k * 3 + 1) (.int .i64 y)
    have s2 := s1.1.stored (k * 3 + 2) (.int .i64 z)
    rw [t3s_set2 l k t y z hk]
    exact ⟨s2.1, grownBy_trans s1.2 s2.2⟩
theorem own_store2 {w : World} {base hi c g k : Nat} {e : TypeId} {l : List T3} {t : T3} (h : Row2 w base hi e 3 (some ⟨g, 0, none⟩) l.length c (t3s l)) (hk : l[k]? = some t) (y z : Int) :
    ((w.setCell ⟨g, k * 3 + 1, none⟩ (.int .i64 y)).setCell ⟨g, k * 3 + 1 + 1, none⟩ (.int .i64 z)).ownsRow base e 3 (.slice (some ⟨g, 0, none⟩) l.length c) l.length (t3s (l.set k ⟨t.x, y, z⟩)) ∧
      w.grownBy ((w.setCell ⟨g, k * 3 + 1, none⟩ (.int .i64 y)).setCell ⟨g, k * 3 + 1 + 1, none⟩ (.int .i64 z)) (some g) := by
  obtain ⟨g', hg, _, _, _, _, _, _, hs⟩ := own_setS h.1 hk
  obtain rfl : g = g' := by simpa using hg
  exact hs y z
theorem grown_of_below {w W : World} (h : Below w.heap.size w W) (row : Option Nat) : w.grownBy W row := ⟨h.os, h.tape, h.output, h.size, fun k hk _ => h.block k hk⟩
/-- What addShare leaves: r, and whether it is done. -/
def AddIs (l : List T3) (o y z : Int) (r : List T3) (ok : Bool) : Prop := (ok = true → (y = 0 ∧ r = l) ∨ (y ≠ 0 ∧ addSh l o y z = some r)) ∧ (ok = false → y ≠ 0 ∧ addSh l o y z = none ∧ r.length = l.length)
def AddRet (base : Nat) (l : List T3) (o y z : Int) (A : Option Addr) (c : Nat) (w : World) (e : Ending) (w' : World) : Prop :=
  ∃ A' c' r ok, e = .returned (.tuple #[.slice A' (List.length r) c', .bool ok]) ∧ AddIs l o y z r ok ∧ w'.ownsRow base 51 3 (.slice A' r.length c') r.length (t3s r) ∧ w.grownBy w' (Value.slice A l.length c).ownBlock
end Go.Proofs.YtpmmjhpmheooeaaDoor
