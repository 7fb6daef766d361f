/- Unsigned numbers out of a text, in plain Lean. -/
import Derived.Test.YtpmmjhpmheooeaaDoorText
namespace Go.Proofs.YtpmmjhpmheooeaaDoor
set_option linter.unusedSimpArgs false
set_option linter.unusedVariables false
open Go.RowKit
set_option maxRecDepth 20000
def dig (b : UInt8) : Bool := decide (48 ≤ b.toNat) && decide (b.toNat ≤ 57)
def pval (acc : Nat) (l : List UInt8) : Nat := l.foldl (fun n b => 10 * n + (b.toNat - 48)) acc
def puOk (s : List UInt8) : Bool := decide (s.length ≤ 10) && s.all dig && decide (pval 0 s ≤ 1000000000) && decide (Lib.itoa (pval 0 s) = s)
def puVal (s : List UInt8) : Nat := if puOk s then pval 0 s else 0
theorem pval_cons (acc : Nat) (b : UInt8) (r : List UInt8) : pval acc (b :: r) = pval (10 * acc + (b.toNat - 48)) r := by unfold pval; rw [List.foldl_cons]
theorem pval_snoc : ∀ (r : List UInt8) (acc : Nat) (b : UInt8), pval acc (r ++ [b]) = 10 * pval acc r + (b.toNat - 48)
  | [], _, _ => rfl
  | x :: r, acc, b => by rw [List.cons_append, pval_cons, pval_cons]; exact pval_snoc r _ b
theorem pval_step {s : List UInt8} {k : Nat} {b : UInt8} (h : s[k]? = some b) : pval 0 (s.take (k + 1)) = 10 * pval 0 (s.take k) + (b.toNat - 48) := by
  have : s.take (k + 1) = s.take k ++ [b] := by rw [List.take_add_one, h]; rfl
  rw [this, pval_snoc]
theorem digs_step {s : List UInt8} {k : Nat} {b : UInt8} (h : s[k]? = some b) : (s.take (k + 1)).all dig = ((s.take k).all dig && dig b) := by
  have : s.take (k + 1) = s.take k ++ [b] := by rw [List.take_add_one, h]; rfl
  rw [this]; simp
theorem pval_lt : ∀ (s : List UInt8), s.all dig = true → ∀ acc, pval acc s < (acc + 1) * 10 ^ s.length
  | [], _, acc => by show acc < _; rw [List.length_nil, Nat.pow_zero]; omega
  | b :: r, h, acc => by
    simp only [List.all_cons, Bool.and_eq_true] at h
    have hb : b.toNat ≤ 57 := by have := h.1; unfold dig at this; simp at this; exact this.2
    have h1 := pval_lt r h.2 (10 * acc + (b.toNat - 48))
    rw [pval_cons, List.length_cons, Nat.pow_succ]
    have h2 : (10 * acc + (b.toNat - 48) + 1) * 10 ^ r.length ≤ ((acc + 1) * 10) * 10 ^ r.length := Nat.mul_le_mul_right _ (by omega)
    have h3 : (acc + 1) * 10 * 10 ^ r.length = (acc + 1) * (10 ^ r.length * 10) := by rw [Nat.mul_assoc, Nat.mul_comm 10]
    omega
theorem pval_10 {s : List UInt8} (h : s.all dig = true) (hl : s.length ≤ 10) : pval 0 s < 10000000000 := by
  have h1 := pval_lt s h 0
  have h2 : 10 ^ s.length ≤ 10 ^ 10 := Nat.pow_le_pow_right (by omega) hl
  omega
theorem take_digs {s : List UInt8} {k : Nat} (h : (s.take k).all dig = true) (hl : s.length ≤ 10) : pval 0 (s.take k) < 10000000000 :=
  pval_10 h (by rw [List.length_take]; omega)
theorem pu_long {s : List UInt8} (h : 10 < s.length) : puOk s = false := by unfold puOk; rw [decide_eq_false (by omega)]; rfl
theorem pu_nodig {s : List UInt8} {k : Nat} {b : UInt8} (h : s[k]? = some b) (hb : dig b = false) : puOk s = false := by
  have : s.all dig = false := by rw [List.all_eq_false]; exact ⟨b, List.mem_of_getElem? h, by rw [hb]; simp⟩
  unfold puOk; rw [this]; simp
theorem pu_empty : puOk [] = false := by
  unfold puOk
  have h : Lib.itoa ((pval 0 [] : Nat) : Int) ≠ [] := by
    show Lib.itoa 0 ≠ []
    unfold Lib.itoa
    rw [if_neg (by omega), dec_small (by simp)]
    simp
  rw [decide_eq_false h]; simp
theorem puVal_no {s : List UInt8} (h : puOk s = false) : puVal s = 0 := by unfold puVal; rw [h]; rfl
theorem puVal_yes {s : List UInt8} (h : puOk s = true) : puVal s = pval 0 s := by unfold puVal; rw [h]; rfl
theorem fig_nat {r : Nat} (h : r < 10) : (UInt8.ofNat (48 + r)).toNat = 48 + r := by
  rw [UInt8.toNat_ofNat']; omega
theorem dig_fig {r : Nat} (h : r < 10) : dig (UInt8.ofNat (48 + r)) = true := by
  unfold dig; rw [fig_nat h]; simp; omega
theorem dec_digs : ∀ (n u : Nat), u ≤ n → (Lib.decDigits u).all dig = true
  | n, u, hu => by
    by_cases h : u < 10
    · rw [dec_small h, List.all_cons, dig_fig h]; rfl
    · rw [dec_big h, List.all_append]
      cases n with
      | zero => omega
      | succ n =>
        rw [dec_digs n (u / 10) (by omega)]
        rw [List.all_cons, dig_fig (Nat.mod_lt u (by omega : 10 > 0))]; rfl
theorem dec_val : ∀ (n u : Nat), u ≤ n → pval 0 (Lib.decDigits u) = u
  | n, u, hu => by
    by_cases h : u < 10
    · rw [dec_small h]
      show 10 * 0 + ((UInt8.ofNat (48 + u)).toNat - 48) = u
      rw [fig_nat h]; omega
    · rw [dec_big h, pval_snoc, fig_nat (Nat.mod_lt u (by omega : 10 > 0))]
      cases n with
      | zero => omega
      | succ n => rw [dec_val n (u / 10) (by omega)]; omega
theorem itoa_nat (n : Nat) : Lib.itoa (n : Int) = Lib.decDigits n := by
  unfold Lib.itoa; rw [if_neg (by omega)]; rfl
theorem pu_itoa {n : Nat} (h : n ≤ 1000000000) : puOk (Lib.itoa n) = true ∧ puVal (Lib.itoa n) = n := by
  have h1 : puOk (Lib.itoa n) = true := by
    unfold puOk
    rw [itoa_nat, dec_digs n n (Nat.le_refl _), dec_val n n (Nat.le_refl _), itoa_nat, decide_eq_true (dec_len 9 n (by omega)), decide_eq_true h]
    simp
  exact ⟨h1, by rw [puVal_yes h1, itoa_nat, dec_val n n (Nat.le_refl _)]⟩
theorem pu_iff {s : List UInt8} (h : puOk s = true) : Lib.itoa (puVal s : Int) = s ∧ puVal s ≤ 1000000000 := by
  rw [puVal_yes h]
  unfold puOk at h
  simp only [Bool.and_eq_true, decide_eq_true_eq] at h
  exact ⟨h.2, h.1.2⟩
end Go.Proofs.YtpmmjhpmheooeaaDoor
