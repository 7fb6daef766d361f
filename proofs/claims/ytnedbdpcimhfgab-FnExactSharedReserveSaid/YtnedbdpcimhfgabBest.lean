/- BestQueue: the library's insertion sort with the program's comparison. -/
import Derived.Test.YtnedbdpcimhfgabInsert
import Derived.Test.YtnedbdpcimhfgabWait
import Derived.Test.YtnedbdpcimhfgabMem
import Derived.Test.YtnedbdpcimhfgabApp
import Derived.Test.YtnedbdpcimhfgabNew
import Derived.Test.YtnedbdpcimhfgabTo
import Derived.IntWalk
import Derived.Deep.RegionHeld3
namespace Go.Proofs.Ytnedbdpcimhfgab
open Go.RowKit
set_option maxRecDepth 20000
def ltT (l : List Int) (x y : Int) : Bool := decide (l.getD x.toNat 0 < l.getD y.toNat 0)
def bestQueue (l : List Int) : List Int := if queueOk l then insAll (ltT l) (upto l.length) else []
theorem bestQueue_len (l : List Int) : (bestQueue l).length ≤ l.length := by
  unfold bestQueue
  split
  · rw [insAll_length, upto_len]; exact Nat.le_refl _
  · simp
theorem getD_of {l : List Int} {k : Nat} {x : Int} (h : l[k]? = some x) : l.getD k 0 = x := by rw [List.getD_eq_getElem?_getD, h]; rfl
theorem ltT_of {l : List Int} {a b : Nat} {x y : Int} (hx : l[a]? = some x) (hy : l[b]? = some y) : ltT l a b = decide (x < y) := by
  unfold ltT
  rw [Int.toNat_natCast, Int.toNat_natCast, getD_of hx, getD_of hy]
theorem insr_stop {lt : Int → Int → Bool} {pre : List Int} {x : Int} {p : Nat} (h : posGo lt pre x p = posGo lt pre x pre.length) (h2 : p = 0 ∨ ∃ q, p = q + 1 ∧ lt x (pre.getD q 0) = false) : putAt pre x p = insr lt pre x := by
  unfold insr
  rw [← h]
  rcases h2 with rfl | ⟨q, rfl, h2⟩
  · rfl
  · rw [posGo_succ, h2, if_neg (by simp)]
theorem pos_next {lt : Int → Int → Bool} {pre : List Int} {x : Int} {q : Nat} (h : posGo lt pre x (q + 1) = posGo lt pre x pre.length) (h2 : lt x (pre.getD q 0) = true) : posGo lt pre x q = posGo lt pre x pre.length := by
  rw [← h, posGo_succ, if_pos h2]
theorem own_mono' {w : World} {base base' c : Nat} {A : Option Addr} {l : List Int} (h : OwnI w base A c l) (hb : base' ≤ base) : OwnI w base' A c l := by
  refine ⟨h.1, ?_⟩
  rcases h.2 with h2 | ⟨g, cap, cur, hv, hg, r⟩
  · exact .inl h2
  · exact .inr ⟨g, cap, cur, hv, Nat.le_trans hb hg, r⟩
theorem RdI.kept {w w' : World} {B g c : Nat} {A : Option Addr} {l : List Int} (h : RdI w B A c l) (hg : w.grownBy w' (some g)) (hB : B ≤ g) (hgl : g < w.heap.size) : RdI w' B A c l :=
  Rd.keep h fun p hp => World.cell?_of_block (hg.block _ (by omega) (fun e => by have := Option.some.inj e; omega))
end Go.Proofs.Ytnedbdpcimhfgab
