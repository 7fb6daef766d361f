/- A village's summary, in plain Lean. -/
import Derived.Test.YtpmmjhpmheooeaaDoorDeed
import Derived.Test.YtpmmjhpmheooeaaDoorMay
import Derived.Test.YtpmmjhpmheooeaaDoorBookBd
import Derived.Test.YtpmmjhpmheooeaaDoorKd
namespace Go.Proofs.YtpmmjhpmheooeaaDoor
set_option linter.unusedSimpArgs false
set_option linter.unusedVariables false
open Go.RowKit
set_option maxRecDepth 20000
/-- "level a rained b drunk c lost d" -/
def fvHead (b : Bk) : List UInt8 := [108, 101, 118, 101, 108, 32] ++ Lib.itoa b.level ++ [32, 114, 97, 105, 110, 101, 100, 32] ++ Lib.itoa b.rained ++ [32, 100, 114, 117, 110, 107, 32] ++ Lib.itoa b.drunk ++ [32, 108, 111, 115, 116, 32] ++ Lib.itoa b.lost
def fvLine (v : Vg) (o : Int) : List UInt8 := Lib.itoa o ++ [32] ++ Lib.itoa (mayDrink v o)
def fvLines (v : Vg) (l : List T3) : List (List UInt8) := l.map fun e => fvLine v e.x
/-- The lines of a village's summary. -/
def fmtV (v : Vg) : List (List UInt8) := if villageOk v then [fvHead v.book, deedText v.rights] ++ fvLines v v.rights else []
theorem fmtV_no {v : Vg} (h : villageOk v = false) : fmtV v = [] := by unfold fmtV; rw [h]; rfl
theorem fmtV_yes {v : Vg} (h : villageOk v = true) : fmtV v = [fvHead v.book, deedText v.rights] ++ fvLines v v.rights := by unfold fmtV; rw [h]; rfl
theorem fvLines_len (v : Vg) (l : List T3) : (fvLines v l).length = l.length := by unfold fvLines; rw [List.length_map]
theorem fvLines_snoc {v : Vg} {l : List T3} {k : Nat} {e : T3} (h : l[k]? = some e) : fvLines v (l.take (k + 1)) = fvLines v (l.take k) ++ [fvLine v e.x] := by
  rw [take_snoc' h]; simp [fvLines]
theorem may_small (v : Vg) (o : Int) : -1 ≤ mayDrink v o ∧ mayDrink v o ≤ 1000000000000 := by
  have h1 := partOf_bd (shareOf v.rights o).1 (shareOf v.rights o).2 (min 1000000 (v.book.start + v.book.rained))
  have h2 := drunkBy_bd v.book o
  unfold mayDrink
  split
  · split <;> omega
  · omega
theorem deed_len9 {l : List T3} : (deedText l).length ≤ 1000 := by
  cases h : rightsOk l
  · rw [deedText_no h]; simp
  · rw [deedText_yes h]
    have h1 := deedJ_len l
    have h2 := rightsOk_len h
    omega
theorem fv_itoa {n : Int} (h : -1000000000 ≤ n ∧ n ≤ 1000000000000) : (Lib.itoa n).length ≤ 20 := itoa_len (by omega) (by omega)
theorem fvHead_len {b : Bk} (h : bookOk b = true) : (fvHead b).length ≤ 120 := by
  have hb := book_bounds h
  have h1 := fv_itoa (n := b.level) (by omega)
  have h2 := fv_itoa (n := b.rained) (by omega)
  have h3 := fv_itoa (n := b.drunk) (by omega)
  have h4 := fv_itoa (n := b.lost) (by omega)
  unfold fvHead
  simp only [List.length_append, List.length_cons, List.length_nil]
  omega
theorem vg_both {v : Vg} (h : villageOk v = true) : bookOk v.book = true ∧ rightsOk v.rights = true := by
  unfold villageOk at h
  simpa using h
end Go.Proofs.YtpmmjhpmheooeaaDoor
