/- What the library's sort leaves of an owned row of ints. -/
import Derived.Test.YtonlfkofiljboaaSrt
import Derived.Test.YtonlfkofiljboaaRow
import Derived.Sort.Grow
namespace Go.Proofs.Ytonlfkofiljboaa
open Go.RowKit Go.Sort
theorem holds_of_own {w : World} {base g c : Nat} {l : List Int} (h : OwnI w base (some ⟨g, 0, none⟩) c l) : Holds (Value.int .i64) w g 0 l.toArray := by
  intro j hj
  have hj' : j < l.length := by simpa using hj
  obtain ⟨g', hg, _, _, hf, ⟨y, hc, hy⟩, _⟩ := h.set_ hj' 0
  injection hg with hg; injection hg with hg; subst hg
  have e : l.toArray[j]! = y := by
    obtain ⟨h1, h2⟩ := List.getElem?_eq_some_iff.1 hy
    rw [getElem!_pos _ j (by simpa using hj'), ← h2]; simp
  rw [e, Nat.zero_add]
  exact ⟨hc, hf⟩
theorem sort_own {w : World} {base g c : Nat} {l m : List Int} (h : OwnI w base (some ⟨g, 0, none⟩) c l) (hm : m.length = l.length) (n : Nat) (os : Array Obj) :
    OwnI (grow (putRow (Value.int .i64) (Go.Sort.ahead w n) g 0 m.toArray) os) base (some ⟨g, 0, none⟩) c m ∧ w.grownBy (grow (putRow (Value.int .i64) (Go.Sort.ahead w n) g 0 m.toArray) os) (some g) := by
  have hl := own_lt h
  obtain ⟨h1, h2⟩ := h
  rcases h2 with ⟨h3, _⟩ | ⟨b, cap, cur, hv, hb, hh, hnc, hcm, hcs, ht⟩
  · cases h3
  simp only [Value.slice.injEq, Option.some.injEq, Addr.mk.injEq, and_true, true_and] at hv
  obtain ⟨rfl, rfl⟩ := hv
  refine ⟨⟨by rw [ints_len]; omega, .inr ⟨g, c, putCells (Value.int .i64) 0 m.toArray cur, rfl, hb, ?_, by omega, hcm, by simp [putCells, hcs], ?_⟩⟩, ⟨rfl, rfl, rfl, by simp [grow, putRow, mapBlock, ahead], fun k hk hn => ?_⟩⟩
  · show ((w.heap.modify g (onCells (putCells (Value.int .i64) 0 m.toArray))) ++ os)[g]? = _
    rw [Array.getElem?_append_left (by simpa using hl), Array.getElem?_modify, if_pos rfl, hh]
    rfl
  · apply List.ext_getElem?
    intro j
    rw [List.getElem?_take]
    unfold putCells ints
    rcases Nat.lt_or_ge j m.length with hj | hj
    · have hjc : j < cur.size := by omega
      simp [hj, hjc]
    · rw [if_neg (by omega), List.getElem?_eq_none (by simpa using hj)]
  · have hne : g ≠ k := fun e => hn (by rw [e])
    show ((w.heap.modify g (onCells (putCells (Value.int .i64) 0 m.toArray))) ++ os)[k]? = _
    rw [Array.getElem?_append_left (by simpa using hk), Array.getElem?_modify, if_neg hne]
end Go.Proofs.Ytonlfkofiljboaa
