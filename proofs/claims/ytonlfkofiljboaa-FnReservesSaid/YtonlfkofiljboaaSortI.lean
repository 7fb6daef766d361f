/- slices.Sort on an owned row of ints. -/
import Derived.Test.YtonlfkofiljboaaSortRow
import Derived.Test.YtonlfkofiljboaaShelf
namespace Go.Proofs.Ytonlfkofiljboaa
open Go.RowKit Go.Sort
theorem sortI_any (base g c : Nat) (l : List Int) (w : World) (h : OwnI w base (some ⟨g, 0, none⟩) c l) (hs : l.length ≤ 1048576) :
    Calls Try.prog 68 #[.slice (some ⟨g, 0, none⟩) l.length c] w fun e w' => e = .returned (.tuple #[]) ∧ OwnI w' base (some ⟨g, 0, none⟩) c (l.mergeSort leI) ∧ w.grownBy w' (some g) := by
  refine (Try.slices_Sort_int g 0 c l w (holds_of_own h) (own_lt h) (by omega)).mono ?_
  rintro e w' ⟨rfl, n, os, rfl⟩
  have := sort_own h (m := l.mergeSort leI) (sort_len l) n os
  exact ⟨rfl, this.1, this.2⟩
end Go.Proofs.Ytonlfkofiljboaa
