/- The reference's choice of the n least numbers. -/
import Derived.Test.YtonlfkofiljboaaCheap
import Derived.Test.YtonlfkofiljboaaRow
import Derived.Test.YtonlfkofiljboaaApp
import Derived.Test.YtonlfkofiljboaaBest
import Derived.Test.YtonlfkofiljboaaWait
namespace Go.Proofs.Ytonlfkofiljboaa
open Go.RowKit
set_option maxRecDepth 20000
theorem OwnB.row2 {w : World} {base c : Nat} {A : Option Addr} {l : List Bool} (h : OwnB w base A c l) : Row2 w base w.heap.size 4 1 A l.length c (bools l) := Row2.born h
theorem picks_snoc : ∀ (l : List Bool) (u : Bool) (k : Nat), picks (l ++ [u]) k = picks l k ++ (if u then [((k + l.length : Nat) : Int)] else [])
  | [], u, k => by cases u <;> rfl
  | x :: l, u, k => by
    rw [List.cons_append, picks_cons, picks_cons, picks_snoc l u (k + 1)]
    have e : k + 1 + l.length = k + (x :: l).length := by simp only [List.length_cons]; omega
    rw [e]
    cases x <;> simp
theorem take_snocB (l : List Bool) (k : Nat) (x : Bool) (h : l[k]? = some x) : l.take (k + 1) = l.take k ++ [x] := by
  obtain ⟨hk, rfl⟩ := List.getElem?_eq_some_iff.1 h
  rw [List.take_succ_eq_append_getElem hk]
end Go.Proofs.Ytonlfkofiljboaa
