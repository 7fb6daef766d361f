/- A deed read out of its text, in plain Lean. -/
import Derived.Test.YtpmmjhpmheooeaaDoorRRPure
import Derived.Test.YtpmmjhpmheooeaaDoorDeedPure
import Derived.Test.YtpmmjhpmheooeaaDoorKd
import Derived.Lib.SplitLaws
namespace Go.Proofs.YtpmmjhpmheooeaaDoor
set_option linter.unusedSimpArgs false
set_option linter.unusedVariables false
open Go.RowKit
set_option maxRecDepth 20000
theorem splitK_one (c : UInt8) : ∀ (n : Nat) (s : List UInt8), s.length ≤ n → Lib.splitK [c] 0 (Lib.count s [c]) s = spl c [] s := by
  intro n
  induction n with
  | zero =>
    intro s hs
    obtain rfl : s = [] := List.eq_nil_of_length_eq_zero (by omega)
    rw [Lib.count_miss (by simp [Lib.index])]
    rfl
  | succ n ih =>
    intro s hs
    by_cases h : c ∈ s
    · obtain ⟨a, r, rfl, ha⟩ := List.eq_append_cons_of_mem h
      have hn : ∀ b ∈ a, b ≠ c := fun b hb e => ha (e ▸ hb)
      have hi := index_yes c r a hn
      rw [Lib.count_hit (by simp) hi, spl_cut c r a [] hn, Nat.add_comm 1]
      have hd : (a ++ c :: r).drop (a.length + 1) = r := by simp
      have ht : (a ++ c :: r).take a.length = a := by simp
      rw [show a.length + [c].length = a.length + 1 from rfl, hd]
      rw [Lib.splitK, hi, if_neg (by rw [beq_iff_eq]; omega)]
      rw [show ((a.length : Nat) : Int).toNat = a.length by omega, Nat.add_zero, show a.length + [c].length = a.length + 1 from rfl, hd, ht, ih r (by rw [List.length_append, List.length_cons] at hs; omega)]
      rfl
    · have hn : ∀ b ∈ s, b ≠ c := fun b hb e => h (e ▸ hb)
      rw [Lib.count_miss (index_no c s hn), spl_none c s [] hn]
      rfl
theorem split_one (c : UInt8) (s : List UInt8) : (Lib.splitB ⟨#[c]⟩ 0 (Lib.countB ⟨s.toArray⟩ ⟨#[c]⟩) ⟨s.toArray⟩).map (·.data.toList) = spl c [] s := by
  rw [Lib.splitB_data]
  exact splitK_one c s.length s (Nat.le_refl _)
/-- Pieces without the byte, joined by it and split at it. -/
theorem spl_tail (c : UInt8) : ∀ (r : List (List UInt8)) (x cur : List UInt8), (∀ y ∈ x :: r, ∀ b ∈ y, b ≠ c) → spl c cur (x ++ Lib.joinTail [c] r) = (cur ++ x) :: r
  | [], x, cur, h => by
    have e : Lib.joinTail [c] [] = [] := rfl
    rw [e, List.append_nil, spl_none c x cur (h x List.mem_cons_self)]
  | y :: r, x, cur, h => by
    rw [joinTail_c]
    rw [show x ++ ([c] ++ y ++ Lib.joinTail [c] r) = x ++ c :: (y ++ Lib.joinTail [c] r) by simp]
    rw [spl_cut c _ x cur (h x List.mem_cons_self), spl_tail c r y [] (fun z hz => h z (List.mem_cons_of_mem _ hz))]
    simp
theorem spl_join (c : UInt8) (l : List (List UInt8)) (h0 : l ≠ []) (h : ∀ y ∈ l, ∀ b ∈ y, b ≠ c) : spl c [] (Lib.join l [c]) = l := by
  cases l with
  | nil => exact absurd rfl h0
  | cons x r =>
    rw [Lib.join_cons, spl_tail c r x [] h]
    simp
theorem spl_snoc (c : UInt8) : ∀ (s cur : List UInt8), spl c cur (s ++ [c]) = spl c cur s ++ [[]]
  | [], cur => by rw [List.nil_append, spl_hit]; rfl
  | b :: s, cur => by
    by_cases h : b = c
    · subst h
      rw [List.cons_append, spl_hit, spl_hit, spl_snoc b s []]
      rfl
    · rw [List.cons_append, spl_miss h, spl_miss h, spl_snoc c s _]
def rdP (t : List UInt8) : List (List UInt8) := spl 32 [] t
def rdL (t : List UInt8) : List T3 := (rdP t).map rrX
def rdI (t : List UInt8) : Bool := (rdP t).all rrI && rightsOk (rdL t) && decide (deedText (rdL t) = t)
/-- What reading a deed yields. -/
def rdX (t : List UInt8) : List T3 := if rdI t then rdL t else []
theorem rdX_no {t : List UInt8} (h : rdI t = false) : rdX t = [] ∧ rdI t = false := ⟨by unfold rdX; rw [h]; rfl, h⟩
theorem rdX_yes {t : List UInt8} (h : rdI t = true) : rdX t = rdL t ∧ rdI t = true := ⟨by unfold rdX; rw [h]; rfl, h⟩
theorem rdL_len (t : List UInt8) : (rdL t).length = (rdP t).length := by unfold rdL; rw [List.length_map]
theorem rdP_ne (t : List UInt8) : 0 < (rdP t).length := List.length_pos_iff.2 (spl_ne _ _ _)
theorem joinTail_len20 : ∀ r : List (List UInt8), (∀ x ∈ r, x.length ≤ 20) → (Lib.joinTail [32] r).length ≤ r.length * 21
  | [], _ => Nat.zero_le _
  | y :: r, h => by
    rw [joinTail_c, List.length_append, List.length_append, List.length_cons]
    have h1 := h y List.mem_cons_self
    have h2 := joinTail_len20 r (fun x hx => h x (List.mem_cons_of_mem _ hx))
    simp only [List.length_cons, List.length_nil]
    omega
theorem deed_len {l : List T3} : (deedText l).length ≤ 252 := by
  cases hr : rightsOk l
  · rw [deedText_no hr]; simp
  · rw [deedText_yes hr]
    have hl := rightsOk_len hr
    have hs : ∀ x ∈ deedL l, x.length ≤ 20 := fun x hx => by
      unfold deedL at hx
      obtain ⟨e, -, rfl⟩ := List.mem_map.1 hx
      exact right_short
    have hd := deedL_len l
    cases h : deedL l with
    | nil => simp [Lib.join]
    | cons x r =>
      rw [h] at hs hd
      rw [Lib.join_cons, List.length_append]
      have h1 := hs x List.mem_cons_self
      have h2 := joinTail_len20 r (fun y hy => hs y (List.mem_cons_of_mem _ hy))
      rw [List.length_cons] at hd
      omega
theorem rd_long {t : List UInt8} (h : 300 < t.length) : rdI t = false := by
  unfold rdI
  rw [Bool.and_eq_false_iff]
  right
  refine decide_eq_false fun e => ?_
  have := deed_len (l := rdL t)
  rw [e] at this
  omega
theorem rd_many {t : List UInt8} (h : 12 < (rdP t).length) : rdI t = false := by
  unfold rdI
  rw [Bool.and_eq_false_iff]
  left
  rw [Bool.and_eq_false_iff]
  right
  cases hr : rightsOk (rdL t)
  · rfl
  · have := rightsOk_len hr
    rw [rdL_len] at this
    omega
theorem rd_bad {t : List UInt8} {k : Nat} {x : List UInt8} (h : (rdP t)[k]? = some x) (hx : rrI x = false) : rdI t = false := by
  unfold rdI
  rw [Bool.and_eq_false_iff]
  left
  rw [Bool.and_eq_false_iff]
  left
  rw [List.all_eq_false]
  exact ⟨x, List.mem_of_getElem? h, by rw [hx]; simp⟩
theorem rd_bad_rights {t : List UInt8} (h : rightsOk (rdL t) = false) : rdI t = false := by unfold rdI; rw [h]; simp
theorem rd_bad_text {t : List UInt8} (h : ¬ deedText (rdL t) = t) : rdI t = false := by unfold rdI; rw [decide_eq_false h]; simp
theorem rd_good {t : List UInt8} (h : ∀ x ∈ rdP t, rrI x = true) (h1 : rightsOk (rdL t) = true) (h2 : deedText (rdL t) = t) : rdI t = true := by
  unfold rdI
  rw [List.all_eq_true.2 h, h1, decide_eq_true h2]; rfl
theorem rdX_len (t : List UInt8) : (rdX t).length ≤ 12 := by
  unfold rdX
  cases hI : rdI t
  · simp
  · rw [if_pos rfl]
    unfold rdI at hI
    simp only [Bool.and_eq_true] at hI
    exact (rightsOk_len hI.1.2).2
theorem d32 : dig 32 = false := by decide
theorem right_nosp (o x y : Int) : ∀ b ∈ rightText o x y, b ≠ (32 : UInt8) := by
  intro b hb
  by_cases h : rightText o x y = []
  · rw [h] at hb; cases hb
  · obtain ⟨on, xn, yn, rfl, rfl, rfl, -, -, -, -, e⟩ := right_parts h
    rw [e] at hb
    rcases List.mem_append.1 hb with h | h
    · exact itoa_noc d32 b h
    · rcases List.mem_cons.1 h with rfl | h
      · decide
      · split at h
        · exact itoa_noc d32 b h
        · rcases List.mem_append.1 h with h | h
          · exact itoa_noc d32 b h
          · rcases List.mem_cons.1 h with rfl | h
            · decide
            · exact itoa_noc d32 b h
theorem right_some {e : T3} (h1 : 1 ≤ e.x ∧ e.x ≤ 999) (h2 : fracOk e.y e.z = true) : rightText e.x e.y e.z ≠ [] := by
  unfold rightText
  rw [if_pos (by rw [inB_iff.2 h1, h2]; rfl)]
  intro h
  have := congrArg List.length h
  simp at this
theorem rd_parts {l : List T3} (h : rightsOk l = true) : rdP (deedText l) = deedL l := by
  rw [deedText_yes h]
  have hl := rightsOk_len h
  refine spl_join 32 (deedL l) (fun e => ?_) (fun y hy => ?_)
  · have := congrArg List.length e
    rw [deedL_len, List.length_nil] at this
    omega
  · unfold deedL at hy
    obtain ⟨e, -, rfl⟩ := List.mem_map.1 hy
    exact right_nosp _ _ _
theorem rd_of {l : List T3} (h : rightsOk l = true) : rdI (deedText l) = true ∧ rdX (deedText l) = l := by
  have hf := (rights_facts h).2.2
  have hp := rd_parts h
  have hr : ∀ e ∈ l, rrI (rightText e.x e.y e.z) = true ∧ rrX (rightText e.x e.y e.z) = e := fun e he => by
    have h9 := hf e he
    exact rrI_of rfl (right_some ⟨h9.2.2.1, h9.2.2.2⟩ h9.1)
  have hL : rdL (deedText l) = l := by
    unfold rdL
    rw [hp]
    unfold deedL
    rw [List.map_map]
    conv => rhs; rw [← List.map_id l]
    exact List.map_congr_left fun e he => (hr e he).2
  have hI : rdI (deedText l) = true := rd_good (fun x hx => by
      rw [hp] at hx
      unfold deedL at hx
      obtain ⟨e, he, rfl⟩ := List.mem_map.1 hx
      exact (hr e he).1) (by rw [hL]; exact h) (by rw [hL])
  exact ⟨hI, by rw [(rdX_yes hI).1, hL]⟩
theorem rrI_nil : rrI [] = false := by
  cases h : rrI []
  · rfl
  · exact absurd rfl (rrI_to h).2
theorem rd_space (t : List UInt8) : rdI (t ++ [32]) = false := by
  have hp : rdP (t ++ [32]) = rdP t ++ [[]] := spl_snoc 32 t []
  exact rd_bad (k := (rdP t).length) (x := []) (by rw [hp, List.getElem?_append_right (Nat.le_refl _)]; simp) rrI_nil
end Go.Proofs.YtpmmjhpmheooeaaDoor
