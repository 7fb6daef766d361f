/- The fields of a line, in plain Lean. -/
import Derived.Test.YtpmmjhpmheooeaaDoorRdPure
namespace Go.Proofs.YtpmmjhpmheooeaaDoor
set_option linter.unusedSimpArgs false
set_option linter.unusedVariables false
open Go.RowKit
set_option maxRecDepth 20000
/-- The pieces between spaces that are not empty; ahead of the rest the piece begun. -/
def fl : List UInt8 → List UInt8 → List (List UInt8)
  | [], cur => if cur = [] then [] else [cur]
  | b :: r, cur => if b = 32 then (if cur = [] then fl r [] else cur :: fl r []) else fl r (cur ++ [b])
theorem fl_end0 : fl [] [] = [] := rfl
theorem fl_end1 {cur : List UInt8} (h : cur ≠ []) : fl [] cur = [cur] := by rw [fl, if_neg h]
theorem fl_sp0 (r : List UInt8) : fl (32 :: r) [] = fl r [] := by rw [fl, if_pos rfl, if_pos rfl]
theorem fl_sp1 {cur : List UInt8} (h : cur ≠ []) (r : List UInt8) : fl (32 :: r) cur = cur :: fl r [] := by rw [fl, if_pos rfl, if_neg h]
theorem fl_ch {b : UInt8} (h : b ≠ 32) (r cur : List UInt8) : fl (b :: r) cur = fl r (cur ++ [b]) := by rw [fl, if_neg h]
theorem fl_mem : ∀ (s cur : List UInt8), (∀ b ∈ cur, b ≠ 32) → ∀ x ∈ fl s cur, x ≠ [] ∧ ∀ b ∈ x, b ≠ 32
  | [], cur, hc, x, hx => by
    by_cases h : cur = []
    · rw [h, fl_end0] at hx; cases hx
    · rw [fl_end1 h, List.mem_singleton] at hx
      subst hx
      exact ⟨h, hc⟩
  | b :: s, cur, hc, x, hx => by
    by_cases hb : b = 32
    · subst hb
      by_cases h : cur = []
      · rw [h, fl_sp0] at hx
        exact fl_mem s [] (by simp) x hx
      · rw [fl_sp1 h] at hx
        rcases List.mem_cons.1 hx with rfl | hx
        · exact ⟨h, hc⟩
        · exact fl_mem s [] (by simp) x hx
    · rw [fl_ch hb] at hx
      refine fl_mem s _ (fun y hy => ?_) x hx
      rcases List.mem_append.1 hy with hy | hy
      · exact hc y hy
      · rw [List.mem_singleton] at hy; rw [hy]; exact hb
theorem fl_len : ∀ (s cur : List UInt8), (fl s cur).length ≤ s.length + 1 ∧ ∀ x ∈ fl s cur, x.length ≤ cur.length + s.length
  | [], cur => by
    by_cases h : cur = []
    · rw [h, fl_end0]; simp
    · rw [fl_end1 h]; simp
  | b :: s, cur => by
    by_cases hb : b = 32
    · subst hb
      have h1 := fl_len s []
      by_cases h : cur = []
      · rw [h, fl_sp0]
        refine ⟨by have := h1.1; simp; omega, fun x hx => ?_⟩
        have := h1.2 x hx
        simp at this ⊢; omega
      · rw [fl_sp1 h]
        refine ⟨by have := h1.1; simp; omega, fun x hx => ?_⟩
        rcases List.mem_cons.1 hx with rfl | hx
        · simp
        · have := h1.2 x hx
          simp at this ⊢; omega
    · rw [fl_ch hb]
      have h1 := fl_len s (cur ++ [b])
      refine ⟨by have := h1.1; simp; omega, fun x hx => ?_⟩
      have := h1.2 x hx
      simp at this ⊢; omega
theorem fl_snoc : ∀ (s cur : List UInt8), fl (s ++ [32]) cur = fl s cur
  | [], cur => by
    by_cases h : cur = []
    · rw [h, List.nil_append, fl_sp0]
    · rw [List.nil_append, fl_sp1 h, fl_end1 h, fl_end0]
  | b :: s, cur => by
    rw [List.cons_append]
    by_cases hb : b = 32
    · subst hb
      by_cases h : cur = []
      · rw [h, fl_sp0, fl_sp0, fl_snoc s []]
      · rw [fl_sp1 h, fl_sp1 h, fl_snoc s []]
    · rw [fl_ch hb, fl_ch hb, fl_snoc s _]
theorem fl_word : ∀ (x r cur : List UInt8), (∀ b ∈ x, b ≠ 32) → fl (x ++ r) cur = fl r (cur ++ x)
  | [], r, cur, _ => by simp
  | b :: x, r, cur, h => by
    rw [List.cons_append, fl_ch (h b List.mem_cons_self), fl_word x r _ (fun y hy => h y (List.mem_cons_of_mem _ hy))]
    simp
theorem fl_tail : ∀ (r : List (List UInt8)) (x cur : List UInt8), (∀ y ∈ x :: r, y ≠ [] ∧ ∀ b ∈ y, b ≠ 32) → fl (x ++ Lib.joinTail [32] r) cur = (cur ++ x) :: r
  | [], x, cur, h => by
    have e : Lib.joinTail [32] [] = [] := rfl
    have hx := h x List.mem_cons_self
    rw [e, fl_word x [] cur hx.2, fl_end1 (by simp [hx.1])]
  | y :: r, x, cur, h => by
    have hx := h x List.mem_cons_self
    rw [joinTail_c]
    rw [show x ++ ([32] ++ y ++ Lib.joinTail [32] r) = x ++ 32 :: (y ++ Lib.joinTail [32] r) by simp]
    rw [fl_word x _ cur hx.2, fl_sp1 (by simp [hx.1]), fl_tail r y [] (fun z hz => h z (List.mem_cons_of_mem _ hz))]
    simp
theorem fl_join (l : List (List UInt8)) (h : ∀ y ∈ l, y ≠ [] ∧ ∀ b ∈ y, b ≠ 32) : fl (Lib.join l [32]) [] = l := by
  cases l with
  | nil => rfl
  | cons x r =>
    rw [Lib.join_cons, fl_tail r x [] h]
    simp
def pchar (b : UInt8) : Bool := decide (32 ≤ b.toNat) && decide (b.toNat ≤ 126)
theorem pchar_lo {b : UInt8} (h : (b.toNat : Int) < 32) : pchar b = false := by unfold pchar; simp; omega
theorem pchar_hi {b : UInt8} (h : (126 : Int) < b.toNat) : pchar b = false := by unfold pchar; simp; omega
theorem pchar_yes {b : UInt8} (h1 : ¬ (b.toNat : Int) < 32) (h2 : ¬ (126 : Int) < b.toNat) : pchar b = true := by unfold pchar; simp; omega
def sfOk (t : List UInt8) : Bool := decide (t.length ≤ 600) && t.all pchar && decide ((fl t []).length ≤ 24)
/-- A line's fields. -/
def sfX (t : List UInt8) : List (List UInt8) := if sfOk t then fl t [] else []
theorem sf_long {t : List UInt8} (h : 600 < t.length) : sfOk t = false := by unfold sfOk; rw [decide_eq_false (by omega)]; rfl
theorem sf_char {t : List UInt8} {k : Nat} {b : UInt8} (h : t[k]? = some b) (hb : pchar b = false) : sfOk t = false := by
  unfold sfOk
  rw [Bool.and_eq_false_iff]
  left
  rw [Bool.and_eq_false_iff]
  right
  rw [List.all_eq_false]
  exact ⟨b, List.mem_of_getElem? h, by rw [hb]; simp⟩
theorem sf_many {t : List UInt8} (h : 24 < (fl t []).length) : sfOk t = false := by unfold sfOk; rw [decide_eq_false (show ¬ (fl t []).length ≤ 24 by omega)]; simp
theorem sf_good {t : List UInt8} (h1 : t.length ≤ 600) (h2 : t.all pchar = true) (h3 : (fl t []).length ≤ 24) : sfOk t = true := by unfold sfOk; rw [decide_eq_true h1, h2, decide_eq_true h3]; rfl
theorem sfX_no {t : List UInt8} (h : sfOk t = false) : sfX t = [] ∧ sfOk t = false := ⟨by unfold sfX; rw [h]; rfl, h⟩
theorem sfX_yes {t : List UInt8} (h : sfOk t = true) : sfX t = fl t [] ∧ sfOk t = true := ⟨by unfold sfX; rw [h]; rfl, h⟩
theorem pchars_step {s : List UInt8} {k : Nat} {b : UInt8} (h : s[k]? = some b) : (s.take (k + 1)).all pchar = ((s.take k).all pchar && pchar b) := by
  rw [List.take_add_one, h, List.all_append]; simp
theorem sfX_mem (t : List UInt8) : ∀ x ∈ sfX t, (x ≠ [] ∧ ∀ b ∈ x, b ≠ 32) ∧ x.length ≤ t.length := by
  intro x hx
  unfold sfX at hx
  split at hx
  · exact ⟨fl_mem t [] (by simp) x hx, by have := (fl_len t []).2 x hx; simpa using this⟩
  · cases hx
theorem sfX_len (t : List UInt8) : (sfX t).length ≤ 24 := by
  unfold sfX
  split
  · rename_i h
    unfold sfOk at h
    simp only [Bool.and_eq_true, decide_eq_true_eq] at h
    exact h.2
  · simp
end Go.Proofs.YtpmmjhpmheooeaaDoor
