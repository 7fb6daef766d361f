/- The text of a deed, in plain Lean. -/
import Derived.Test.YtpmmjhpmheooeaaDoorRightText
import Derived.Test.YtpmmjhpmheooeaaDoorRightsOk
import Derived.Test.YtpmmjhpmheooeaaDoorStrs
namespace Go.Proofs.YtpmmjhpmheooeaaDoor
set_option linter.unusedSimpArgs false
set_option linter.unusedVariables false
open Go.RowKit
set_option maxRecDepth 20000
def deedL (l : List T3) : List (List UInt8) := l.map fun e => rightText e.x e.y e.z
def deedText (l : List T3) : List UInt8 := if rightsOk l then Lib.join (deedL l) [32] else []
theorem deedText_no {l : List T3} (h : rightsOk l = false) : deedText l = [] := by unfold deedText; rw [h]; rfl
theorem deedText_yes {l : List T3} (h : rightsOk l = true) : deedText l = Lib.join (deedL l) [32] := by unfold deedText; rw [h]; rfl
theorem fracText_len (x y : Int) : (fracText x y).length ≤ 50 := by
  unfold fracText
  split
  · rename_i h
    have hr := fracOk_iff h
    have h1 := itoa_len (n := x) (by omega) (by omega)
    have h2 := itoa_len (n := y) (by omega) (by omega)
    split
    · omega
    · rw [List.length_append, List.length_cons]; omega
  · simp
theorem rightText_len (o x y : Int) : (rightText o x y).length ≤ 79 := by
  unfold rightText
  split
  · rename_i h
    have h0 : inB o 1 999 = true := by revert h; cases inB o 1 999 <;> simp
    have hoo := inB_iff.1 h0
    have h1 := itoa_len (n := o) (by omega) (by omega)
    have h2 := fracText_len x y
    rw [List.length_append, List.length_cons]; omega
  · simp
theorem joinTail_c (sep y : List UInt8) (r : List (List UInt8)) : Lib.joinTail sep (y :: r) = sep ++ y ++ Lib.joinTail sep r := by simp [Lib.joinTail]
theorem joinTail_s (sep y : List UInt8) (r : List (List UInt8)) : Lib.joinTail sep (r ++ [y]) = Lib.joinTail sep r ++ (sep ++ y) := by simp [Lib.joinTail]
theorem joinTail_len79 : ∀ r : List (List UInt8), (∀ x ∈ r, x.length ≤ 79) → (Lib.joinTail [32] r).length ≤ r.length * 80
  | [], _ => by simp [Lib.joinTail]
  | y :: r, h => by
    have h1 := joinTail_len79 r (fun x hx => h x (List.mem_cons_of_mem _ hx))
    have h2 := h y List.mem_cons_self
    rw [joinTail_c, List.length_append, List.length_append, List.length_cons]
    simp only [List.length_cons, List.length_nil]
    omega
theorem join_len79 (r : List (List UInt8)) (h : ∀ x ∈ r, x.length ≤ 79) : (Lib.join r [32]).length ≤ r.length * 80 := by
  cases r with
  | nil => simp [Lib.join_nil]
  | cons y r =>
    have h1 := joinTail_len79 r (fun x hx => h x (List.mem_cons_of_mem _ hx))
    have h2 := h y List.mem_cons_self
    rw [Lib.join_cons, List.length_append, List.length_cons]; omega
theorem join_snoc {r : List (List UInt8)} (y sep : List UInt8) (h : r ≠ []) : Lib.join (r ++ [y]) sep = Lib.join r sep ++ (sep ++ y) := by
  cases r with
  | nil => exact absurd rfl h
  | cons x r => rw [List.cons_append, Lib.join_cons, Lib.join_cons, joinTail_s, List.append_assoc]
theorem deedL_len (l : List T3) : (deedL l).length = l.length := by simp [deedL]
theorem deedL_small (l : List T3) : ∀ x ∈ deedL l, x.length ≤ 79 := by
  intro x hx
  obtain ⟨e, _, rfl⟩ := List.mem_map.1 hx
  exact rightText_len _ _ _
theorem deedJ_len (l : List T3) : (Lib.join (deedL l) [32]).length ≤ l.length * 80 := by
  have := join_len79 (deedL l) (deedL_small l)
  rwa [deedL_len] at this
theorem take_snoc' {l : List T3} {k : Nat} {e : T3} (h : l[k]? = some e) : l.take (k + 1) = l.take k ++ [e] := by
  rw [List.take_add_one, h]; rfl
theorem deedL_snoc {l : List T3} {k : Nat} {e : T3} (h : l[k]? = some e) : deedL (l.take (k + 1)) = deedL (l.take k) ++ [rightText e.x e.y e.z] := by
  rw [take_snoc' h]; simp [deedL]
theorem deedJ_zero {l : List T3} {e : T3} (h : l[0]? = some e) : Lib.join (deedL (l.take (0 + 1))) [32] = rightText e.x e.y e.z := by
  rw [deedL_snoc h]
  exact Lib.join_one _ _
theorem deedJ_snoc {l : List T3} {k : Nat} {e : T3} (h : l[k + 1]? = some e) : Lib.join (deedL (l.take (k + 1 + 1))) [32] = Lib.join (deedL (l.take (k + 1))) [32] ++ (32 :: rightText e.x e.y e.z) := by
  rw [deedL_snoc h]
  refine join_snoc _ _ (fun h0 => ?_)
  have h1 := congrArg List.length h0
  have h2 := (List.getElem?_eq_some_iff.1 h).1
  rw [deedL_len, List.length_take, List.length_nil] at h1
  omega
theorem rightsOk_len {l : List T3} (h : rightsOk l = true) : 1 ≤ l.length ∧ l.length ≤ 12 := by
  unfold rightsOk at h
  simp only [Bool.and_eq_true] at h
  have := inB_iff.1 h.1.2
  omega
end Go.Proofs.YtpmmjhpmheooeaaDoor
