/- Stores into rows of ints and bools that the call owns; blocks of two cells. -/
import Derived.Test.YtljidaniidfdoaaMem
import Derived.Test.YtljidaniidfdoaaApp
namespace Go.Proofs.Ytljidaniidfdoaa
open Go.RowKit
theorem own_lt {w : World} {base : Nat} {e : TypeId} {sz n c g : Nat} {xs : List Value} (h : w.ownsRow base e sz (.slice (some ⟨g, 0, none⟩) n c) n xs) : g < w.heap.size := by
  rcases h.2 with ⟨h3, _⟩ | ⟨b, cap, cur, hv, hgg, hh, _⟩
  · cases h3
  · injection hv with e1; injection e1 with e1; injection e1 with e1; subst e1
    exact (Array.getElem?_eq_some_iff.1 hh).1
theorem own_mono' {w : World} {base base' c : Nat} {A : Option Addr} {l : List Int} (h : OwnI w base A c l) (hb : base' ≤ base) : OwnI w base' A c l := by
  refine ⟨h.1, ?_⟩
  rcases h.2 with h2 | ⟨g, cap, cur, hv, hg, r⟩
  · exact .inl h2
  · exact .inr ⟨g, cap, cur, hv, Nat.le_trans hb hg, r⟩
theorem OwnI.row2 {w : World} {base c : Nat} {A : Option Addr} {l : List Int} (h : OwnI w base A c l) : Row2 w base w.heap.size 3 1 A l.length c (ints l) := Row2.born h
theorem Blk.two0 {w : World} {g : Nat} {t : TypeId} {x y : Value} (h : Blk w g t #[x, y]) (u : Value) : Blk (w.setCell ⟨g, 0, none⟩ u) g t #[u, y] := by simpa using h.set_ 0 u
theorem Blk.two1 {w : World} {g : Nat} {t : TypeId} {x y : Value} (h : Blk w g t #[x, y]) (u : Value) : Blk (w.setCell ⟨g, 1, none⟩ u) g t #[x, u] := by simpa using h.set_ 1 u
section
variable {w : World} {lo hi n c : Nat} {A : Option Addr}
theorem Row2.lenI {l : List Int} (h : Row2 w lo hi 3 1 A n c (ints l)) : l.length = n := by have := h.1.1; rw [ints_len] at this; omega
theorem Row2.ownI {l : List Int} (h : Row2 w lo hi 3 1 A n c (ints l)) : OwnI w lo A c l := by
  obtain rfl := h.lenI
  exact h.1
theorem Row2.rdI {l : List Int} (h : Row2 w lo hi 3 1 A n c (ints l)) : RdI w w.heap.size A c l := h.ownI.rd
theorem Row2.setI {l : List Int} (h : Row2 w lo hi 3 1 A n c (ints l)) {k : Nat} (hk : k < n) (x : Int) :
    ∃ g, A = some ⟨g, 0, none⟩ ∧ lo ≤ g ∧ g < hi ∧ g < w.heap.size ∧ w.frozen? ⟨g, k, none⟩ = false ∧ (∃ y, w.cell? ⟨g, k, none⟩ = some (.int .i64 y) ∧ l[k]? = some y) ∧ Row2 (w.setCell ⟨g, k, none⟩ (.int .i64 x)) lo hi 3 1 A n c (ints (l.set k x)) := by
  obtain rfl := h.lenI
  obtain ⟨g, h1, h2, h3, h4, h5, h6, _⟩ := h.ownI.set_ hk x
  subst h1
  refine ⟨g, rfl, h2, h.2 g rfl, h3, h4, h5, ⟨?_, h.2⟩⟩
  unfold OwnI at h6
  rw [List.length_set] at h6
  exact h6
/-- An owned row reads so at place k. -/
theorem Row2.atI {l : List Int} (h : Row2 w lo hi 3 1 A n c (ints l)) {k : Nat} (hk : k < n) :
    ∃ g y, A = some ⟨g, 0, none⟩ ∧ lo ≤ g ∧ g < hi ∧ g < w.heap.size ∧ l[k]? = some y ∧ w.cell? ⟨g, k, none⟩ = some (.int .i64 y) ∧ w.frozen? ⟨g, k, none⟩ = false := by
  obtain ⟨g, h1, h2, h3, h4, h5, ⟨y, h6, h7⟩, _⟩ := h.setI hk 0
  exact ⟨g, y, h1, h2, h3, h4, h7, h6, h5⟩
theorem bools_len (l : List Bool) : (bools l).length = l.length := by simp [bools]
theorem Row2.setB {l : List Bool} (h : Row2 w lo hi 4 1 A n c (bools l)) {k : Nat} (hk : k < n) (x : Bool) :
    ∃ g, A = some ⟨g, 0, none⟩ ∧ lo ≤ g ∧ g < hi ∧ g < w.heap.size ∧ w.frozen? ⟨g, k, none⟩ = false ∧ (∃ y, w.cell? ⟨g, k, none⟩ = some (.bool y) ∧ l[k]? = some y) ∧ Row2 (w.setCell ⟨g, k, none⟩ (.bool x)) lo hi 4 1 A n c (bools (l.set k x)) := by
  obtain rfl : l.length = n := by have := h.1.1; rw [bools_len] at this; omega
  have ho : OwnB w lo A c l := h.1
  obtain ⟨g, h1, h2, h3, h4, h5, h6, _⟩ := ho.at_ hk x
  subst h1
  refine ⟨g, rfl, h2, h.2 g rfl, h3, h4, h5, ⟨?_, h.2⟩⟩
  unfold OwnB at h6
  rw [List.length_set] at h6
  exact h6
end
end Go.Proofs.Ytljidaniidfdoaa
