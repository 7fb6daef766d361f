/- An act out of a line, in plain Lean: the two ways to read it agree. -/
import Derived.Test.YtpmmjhpmheooeaaDoorFldPure
import Derived.Test.YtpmmjhpmheooeaaDoorFormatAct
namespace Go.Proofs.YtpmmjhpmheooeaaDoor
set_option linter.unusedSimpArgs false
set_option linter.unusedVariables false
open Go.RowKit
set_option maxRecDepth 20000
def kindOf (f : List UInt8) : Int :=
  if f = [114, 97, 105, 110] then 1 else if f = [100, 114, 105, 110, 107] then 2 else if f = [108, 101, 97, 107] then 3 else if f = [115, 101, 108, 108] then 4 else if f = [104, 101, 105, 114, 115] then 5 else if f = [109, 97, 121] then 6 else 0
theorem kind_word {k : Int} (h : k = 1 ∨ k = 2 ∨ k = 3 ∨ k = 4 ∨ k = 5 ∨ k = 6) : kindOf (actWord k) = k ∧ actWord k ≠ [] ∧ ∀ b ∈ actWord k, b ≠ 32 := by
  rcases h with rfl | rfl | rfl | rfl | rfl | rfl <;> exact ⟨by decide, by decide, by decide⟩
/-- The parts of an act's text. -/
def actParts (k a b : Int) : List (List UInt8) := actWord k :: Lib.itoa a :: (if actTwo k then [Lib.itoa b] else [])
theorem act_join {k a b : Int} (h : actOk k a b = true) : actText k a b = Lib.join (actParts k a b) [32] := by
  unfold actParts
  cases h2 : actTwo k
  · rw [actText_one h h2]
    rw [Lib.join_cons]
    simp [Lib.joinTail]
  · rw [actText_two h h2]
    rw [Lib.join_cons]
    simp [Lib.joinTail]
theorem itoa_ne (n : Nat) : Lib.itoa (n : Int) ≠ [] := by
  intro h
  have := pu_empty
  have h1 := dec_val n n (Nat.le_refl _)
  rw [itoa_nat] at h
  by_cases hn : n < 10
  · rw [dec_small hn] at h; cases h
  · rw [dec_big hn] at h
    have := congrArg List.length h
    simp at this
theorem act_parts_ok {k a b : Int} (h : actOk k a b = true) : ∀ y ∈ actParts k a b, y ≠ [] ∧ ∀ c ∈ y, c ≠ 32 := by
  obtain ⟨hk, ha0, ha1, hb0, hb1⟩ := actOk_cases h
  have hi : ∀ n : Int, 0 ≤ n → (Lib.itoa n ≠ [] ∧ ∀ c ∈ Lib.itoa n, c ≠ 32) := fun n hn => by
    obtain ⟨m, rfl⟩ := Int.eq_ofNat_of_zero_le hn
    exact ⟨itoa_ne m, itoa_noc d32⟩
  intro y hy
  unfold actParts at hy
  rcases List.mem_cons.1 hy with rfl | hy
  · exact (kind_word hk).2
  · rcases List.mem_cons.1 hy with rfl | hy
    · exact hi a ha0
    · split at hy
      · rw [List.mem_singleton] at hy
        subst hy
        exact hi b hb0
      · cases hy
/-- A number as the reference reads it. -/
def psN (s : List UInt8) : Int := if decide (1 < s.length) && s.head? == some 45 then -(puVal (s.drop 1) : Int) else (puVal s : Int)
theorem psN_ok {s : List UInt8} (h : puOk s = true) : psN s = (puVal s : Int) := by
  unfold psN
  rw [if_neg]
  intro h9
  simp only [Bool.and_eq_true, beq_iff_eq] at h9
  unfold puOk at h
  simp only [Bool.and_eq_true] at h
  have hd := List.all_eq_true.1 h.1.1.2 45 (List.mem_of_mem_head? h9.2)
  exact absurd hd (by decide)
theorem psN_nil : psN [] = 0 := by
  unfold psN
  rw [if_neg (by simp), puVal_no pu_empty]; rfl
def paA (fs : List (List UInt8)) : Int := (puVal (fs.getD 1 []) : Int)
def paB (fs : List (List UInt8)) : Int := (puVal (fs.getD 2 []) : Int)
def paK (fs : List (List UInt8)) : Int := kindOf (fs.getD 0 [])
def paOkF (fs : List (List UInt8)) : Bool := decide (1 ≤ fs.length ∧ fs.length ≤ 3) && (fs.drop 1).all puOk && (actOk (paK fs) (paA fs) (paB fs) && decide (actText (paK fs) (paA fs) (paB fs) = Lib.join fs [32]))
def paI (t : List UInt8) : Bool := sfOk t && paOkF (sfX t)
/-- What reading a line yields. -/
def paX (t : List UInt8) : T3 := if paI t then ⟨paK (sfX t), paA (sfX t), paB (sfX t)⟩ else ⟨0, 0, 0⟩
theorem paX_no {t : List UInt8} (h : paI t = false) : paX t = ⟨0, 0, 0⟩ ∧ paI t = false := ⟨by unfold paX; rw [h]; rfl, h⟩
theorem paX_yes {t : List UInt8} (h : paI t = true) : paX t = ⟨paK (sfX t), paA (sfX t), paB (sfX t)⟩ ∧ paI t = true := ⟨by unfold paX; rw [h]; rfl, h⟩
def psHit (fs : List (List UInt8)) (k : Int) : Bool := actOk k (psN (fs.getD 1 [])) (psN (fs.getD 2 [])) && decide (actText k (psN (fs.getD 1 [])) (psN (fs.getD 2 [])) = Lib.join fs [32])
theorem pu_act {a : Int} (h0 : 0 ≤ a) (h1 : a ≤ 1000) : puOk (Lib.itoa a) = true ∧ (puVal (Lib.itoa a) : Int) = a := by
  obtain ⟨m, rfl⟩ := Int.eq_ofNat_of_zero_le h0
  have := pu_itoa (n := m) (by omega)
  exact ⟨this.1, by rw [this.2]⟩
theorem act_two_zero {k a b : Int} (h : actOk k a b = true) (h2 : actTwo k = false) : b = 0 := by
  rcases (actOk_cases h).1 with rfl | rfl | rfl | rfl | rfl | rfl
  · unfold actOk at h; simp at h; exact h.2
  · cases h2
  · unfold actOk at h; simp at h; exact h.2
  · cases h2
  · cases h2
  · unfold actOk at h; simp at h; exact h.2
/-- The fields of an act's text. -/
theorem pa_of {k a b : Int} (h : actOk k a b = true) : paOkF (actParts k a b) = true ∧ paK (actParts k a b) = k ∧ paA (actParts k a b) = a ∧ paB (actParts k a b) = b := by
  obtain ⟨hk, ha0, ha1, hb0, hb1⟩ := actOk_cases h
  have h1 := pu_act ha0 ha1
  have h2 := pu_act hb0 hb1
  have eK : paK (actParts k a b) = k := (kind_word hk).1
  have eA : paA (actParts k a b) = a := h1.2
  have eB : paB (actParts k a b) = b := by
    unfold paB actParts
    cases ht : actTwo k
    · show (puVal [] : Int) = b
      rw [puVal_no pu_empty, act_two_zero h ht]; rfl
    · exact h2.2
  refine ⟨?_, eK, eA, eB⟩
  unfold paOkF
  rw [eK, eA, eB, h, act_join h]
  unfold actParts
  cases actTwo k <;> simp [h1.1, h2.1]
theorem hit_fields {fs : List (List UInt8)} {k : Int} (hf : ∀ y ∈ fs, y ≠ [] ∧ ∀ c ∈ y, c ≠ 32) (h : psHit fs k = true) : ∃ a b, actOk k a b = true ∧ fs = actParts k a b := by
  unfold psHit at h
  simp only [Bool.and_eq_true, decide_eq_true_eq] at h
  refine ⟨_, _, h.1, ?_⟩
  have h1 := fl_join fs hf
  rw [← h.2, act_join h.1, fl_join _ (act_parts_ok h.1)] at h1
  exact h1.symm
theorem ps_num {fs : List (List UInt8)} (h : (fs.drop 1).all puOk = true) : psN (fs.getD 1 []) = paA fs ∧ psN (fs.getD 2 []) = paB fs := by
  have hg : ∀ i, 1 ≤ i → psN (fs.getD i []) = (puVal (fs.getD i []) : Int) := fun i hi => by
    by_cases hl : i < fs.length
    · refine psN_ok (List.all_eq_true.1 h _ ?_)
      rw [List.getD_eq_getElem?_getD, List.getElem?_eq_getElem hl]
      show fs[i] ∈ fs.drop 1
      exact List.mem_of_getElem? (i := i - 1) (by rw [List.getElem?_drop, show 1 + (i - 1) = i by omega, List.getElem?_eq_getElem hl])
    · rw [List.getD_eq_getElem?_getD, List.getElem?_eq_none (by omega)]
      show psN [] = (puVal [] : Int)
      rw [psN_nil, puVal_no pu_empty]; rfl
  exact ⟨hg 1 (Nat.le_refl _), hg 2 (by omega)⟩
/-- The reference's tries: the one kind alone fits. -/
theorem hit_yes {fs : List (List UInt8)} (h : paOkF fs = true) : psHit fs (paK fs) = true ∧ psN (fs.getD 1 []) = paA fs ∧ psN (fs.getD 2 []) = paB fs := by
  unfold paOkF at h
  simp only [Bool.and_eq_true] at h
  have hn := ps_num h.1.2
  refine ⟨?_, hn⟩
  unfold psHit
  rw [hn.1, hn.2, Bool.and_eq_true]
  exact h.2
theorem hit_only {fs : List (List UInt8)} {k : Int} (hf : ∀ y ∈ fs, y ≠ [] ∧ ∀ c ∈ y, c ≠ 32) (h : psHit fs k = true) : paOkF fs = true ∧ k = paK fs := by
  obtain ⟨a, b, hok, rfl⟩ := hit_fields hf h
  have := pa_of hok
  exact ⟨this.1, this.2.1.symm⟩
/-- An act's text, with spaces about it, is read back. -/
theorem pchar_itoa (n : Nat) : ∀ b ∈ Lib.itoa (n : Int), pchar b = true := by
  intro b hb
  rw [itoa_nat] at hb
  have := List.all_eq_true.1 (dec_digs n n (Nat.le_refl _)) b hb
  unfold dig at this
  unfold pchar
  simp only [Bool.and_eq_true, decide_eq_true_eq] at this ⊢
  omega
theorem word_pchar {k : Int} (h : k = 1 ∨ k = 2 ∨ k = 3 ∨ k = 4 ∨ k = 5 ∨ k = 6) : (actWord k).all pchar = true := by
  rcases h with rfl | rfl | rfl | rfl | rfl | rfl <;> decide
theorem act_pchar {k a b : Int} (h : actOk k a b = true) : (actText k a b).all pchar = true := by
  obtain ⟨hk, ha0, ha1, hb0, hb1⟩ := actOk_cases h
  have hi : ∀ n : Int, 0 ≤ n → (Lib.itoa n).all pchar = true := fun n hn => by
    obtain ⟨m, rfl⟩ := Int.eq_ofNat_of_zero_le hn
    exact List.all_eq_true.2 (pchar_itoa m)
  have h32 : pchar 32 = true := by decide
  cases h2 : actTwo k
  · rw [actText_one h h2, List.all_append, List.all_cons, word_pchar hk, h32, hi a ha0]; rfl
  · rw [actText_two h h2, List.all_append, List.all_cons, List.all_append, List.all_cons, word_pchar hk, h32, hi a ha0, hi b hb0]; rfl
theorem fl_act {k a b : Int} (h : actOk k a b = true) : fl (actText k a b) [] = actParts k a b := by
  rw [act_join h]
  exact fl_join _ (act_parts_ok h)
theorem parts_len (k a b : Int) : 1 ≤ (actParts k a b).length ∧ (actParts k a b).length ≤ 3 := by
  unfold actParts
  split <;> simp
theorem pa_any {t : List UInt8} {k a b : Int} (h : actOk k a b = true) (hl : t.length ≤ 600) (hp : t.all pchar = true) (hf : fl t [] = actParts k a b) : paI t = true ∧ paX t = ⟨k, a, b⟩ ∧ sfX t ≠ [] := by
  have hn := parts_len k a b
  have hs : sfOk t = true := sf_good hl hp (by rw [hf]; omega)
  have hx : sfX t = actParts k a b := by rw [(sfX_yes hs).1, hf]
  have hi := pa_of h
  have hI : paI t = true := by unfold paI; rw [hs, hx, hi.1]; rfl
  refine ⟨hI, ?_, ?_⟩
  · rw [(paX_yes hI).1, hx, hi.2.1, hi.2.2.1, hi.2.2.2]
  · rw [hx]; intro e; rw [e] at hn; simp at hn
theorem act_len50 (k a b : Int) : (actText k a b).length ≤ 60 := by
  unfold actText
  split
  · rename_i h
    obtain ⟨hk, ha0, ha1, hb0, hb1⟩ := actOk_cases h
    have h1 := act_len ⟨ha0, ha1⟩
    have h2 := act_len ⟨hb0, hb1⟩
    have h3 : (actWord k).length ≤ 5 := by rcases hk with rfl | rfl | rfl | rfl | rfl | rfl <;> decide
    split <;> simp only [List.length_append, List.length_cons, List.length_nil] <;> omega
  · simp
/-- An act's text, spaces about it, is read back. -/
theorem pa_spaced {k a b : Int} (h : actOk k a b = true) : paI (32 :: 32 :: (actText k a b ++ [32])) = true ∧ paX (32 :: 32 :: (actText k a b ++ [32])) = ⟨k, a, b⟩ := by
  have hl := act_len50 k a b
  have h32 : pchar 32 = true := by decide
  have := pa_any (t := 32 :: 32 :: (actText k a b ++ [32])) h (by simp only [List.length_cons, List.length_append, List.length_nil]; omega) (by simp [h32, act_pchar h]) (by rw [fl_sp0, fl_sp0, fl_snoc, fl_act h])
  exact ⟨this.1, this.2.1⟩
theorem pa_plain {k a b : Int} (h : actOk k a b = true) : paI (actText k a b) = true ∧ paX (actText k a b) = ⟨k, a, b⟩ ∧ sfX (actText k a b) ≠ [] :=
  pa_any h (by have := act_len50 k a b; omega) (act_pchar h) (fl_act h)
end Go.Proofs.YtpmmjhpmheooeaaDoor
