/- The reserve's law in plain Lean: a store, and two that hold 20 in reserve. -/
import Derived.Test.YtonlfkofiljboaaReserve
namespace Go.Proofs.Ytonlfkofiljboaa
open Go.RowKit
theorem ord3 (L : Int → Int → Bool) (b : Bool) (h10 : L 1 0 = b) (h20 : L 2 0 = b) (h21 : L 2 1 = false) : insAll L [0, 1, 2] = if b then [1, 2, 0] else [0, 1, 2] := by
  cases b <;> simp [insAll, insr, posGo, putAt, h10, h20, h21]
theorem ordz (z : Int) : ordR [z, 20, 20] 3 = if decide (z < 20) then [1, 2, 0] else [0, 1, 2] :=
  ord3 (ltR [z, 20, 20]) (decide (z < 20)) rfl rfl rfl
theorem shared3 {x y z : Int} (h : storeOk x y z = true) : shared [⟨x, y, z⟩, ⟨50, 9, 20⟩, ⟨50, 9, 20⟩] 30 = if 30 ≤ z then [0] else if 20 ≤ z then [0, 1] else [1, 2] := by
  have hs : storesOk [⟨x, y, z⟩, ⟨50, 9, 20⟩, ⟨50, 9, 20⟩] = true := by
    rw [storesOk_cons, h]; decide
  rw [shared_yes (by simp) (by decide) hs]
  show sharedOf [⟨x, y, z⟩, ⟨50, 9, 20⟩, ⟨50, 9, 20⟩] (firstM [z, 20, 20] (ordR [z, 20, 20] 3) 30 0 4) = _
  have hso : ∀ m, sharedOf [⟨x, y, z⟩, ⟨50, 9, 20⟩, ⟨50, 9, 20⟩] (some m) = ((ordR [z, 20, 20] 3).take m).mergeSort leI := fun m => rfl
  have f0 : ∀ ord, firstM [z, 20, 20] ord 30 0 4 = if (30 : Int) ≤ sumT [z, 20, 20] (ord.take 1) then some 1 else if (30 : Int) ≤ sumT [z, 20, 20] (ord.take 2) then some 2 else if (30 : Int) ≤ sumT [z, 20, 20] (ord.take 3) then some 3 else none := fun ord => rfl
  rw [f0, ordz]
  have s0 : sumT [z, 20, 20] [0] = z + 0 := rfl
  have s01 : sumT [z, 20, 20] [0, 1] = z + (20 + 0) := rfl
  have s1 : sumT [z, 20, 20] [1] = 20 + 0 := rfl
  have s12 : sumT [z, 20, 20] [1, 2] = 20 + (20 + 0) := rfl
  have m0 : [(0 : Int)].mergeSort leI = [0] := by simp
  have m01 : [(0 : Int), 1].mergeSort leI = [0, 1] := List.mergeSort_of_pairwise (by simp [leI])
  have m12 : [(1 : Int), 2].mergeSort leI = [1, 2] := List.mergeSort_of_pairwise (by simp [leI])
  by_cases h20 : 20 ≤ z
  · have hd : decide (z < 20) = false := by simp; omega
    have ho : ordR [z, 20, 20] 3 = [0, 1, 2] := by rw [ordz, hd]; rfl
    rw [hd]
    simp only [Bool.false_eq_true, if_false, List.take_succ_cons, List.take_zero, s0, s01]
    by_cases h30 : 30 ≤ z
    · rw [if_pos (by omega), if_pos h30, hso, ho]; exact m0
    · rw [if_neg (by omega), if_pos (by omega), if_neg h30, if_pos h20, hso, ho]; exact m01
  · have hd : decide (z < 20) = true := by simp; omega
    have ho : ordR [z, 20, 20] 3 = [1, 2, 0] := by rw [ordz, hd]; rfl
    rw [hd]
    simp only [if_true, List.take_succ_cons, List.take_zero, s1, s12]
    rw [if_neg (by omega), if_pos (by omega), if_neg (by omega), if_neg h20, hso, ho]; exact m12
end Go.Proofs.Ytonlfkofiljboaa
