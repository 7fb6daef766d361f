/- What a valid book bounds. -/
import Derived.Test.YtbkgofjajhplpaaDoorDrunk
import Derived.Test.YtbkgofjajhplpaaDoorStrike
import Derived.Test.YtbkgofjajhplpaaDoorRightAt
namespace Go.Proofs.YtbkgofjajhplpaaDoor
set_option linter.unusedSimpArgs false
set_option linter.unusedVariables false
open Go.RowKit
theorem evOn_liters {v room k l o : Int} (h : (evOn v room k l o).2.2.2.2 = true) : 0 ≤ l ∧ l ≤ 1000000 := by
  cases h3 : inB l 0 1000000
  · rw [evOn_bad (.inr (.inr h3))] at h; cases h
  · exact inB_iff.1 h3
theorem runEv_liters (room : Int) : ∀ (l : List T3) (v r d lo : Int), (runEv room l v r d lo).2.2.2.2 = true → ∀ e ∈ l, 0 ≤ e.y ∧ e.y ≤ 1000000
  | [], _, _, _, _, _ => fun e he => by cases he
  | x :: l, v, r, d, lo, h => by
    rw [runEv_cons] at h
    by_cases hc : (evOn v room x.x x.y x.z).2.2.2.2 = true
    · rw [if_pos hc] at h
      intro e he
      rcases List.mem_cons.1 he with rfl | he
      · exact evOn_liters hc
      · exact runEv_liters room l _ _ _ _ h e he
    · rw [if_neg hc] at h; cases h
theorem runEv_rained (room : Int) : ∀ (l : List T3) (v r d lo : Int), (runEv room l v r d lo).2.2.2.2 = true → r ≤ (runEv room l v r d lo).2.1 ∧ (runEv room l v r d lo).2.1 ≤ r + 1000000 * l.length
  | [], v, r, d, lo, _ => ⟨Int.le_refl r, by show r ≤ r + 1000000 * ((0 : Nat) : Int); omega⟩
  | x :: l, v, r, d, lo, h => by
    rw [runEv_cons] at h ⊢
    by_cases hc : (evOn v room x.x x.y x.z).2.2.2.2 = true
    · rw [if_pos hc] at h ⊢
      have h1 := runEv_rained room l _ _ _ _ h
      have h2 := evOn_bounds v room x.x x.y x.z hc
      simp only [List.length_cons]
      omega
    · rw [if_neg hc] at h; cases h
theorem wrap_in {a : Int} (h1 : -9223372036854775808 ≤ a) (h2 : a ≤ 9223372036854775807) : wrap64 a = a := by
  unfold wrap64; omega
theorem drunkGo_bd (kk : Int) : ∀ (l : List T3) (n : Int) (m : Nat), (∀ e ∈ l, 0 ≤ e.y ∧ e.y ≤ 1000000) → 0 ≤ n → n ≤ 1000000 * m → m + l.length ≤ 1000 → 0 ≤ drunkGo kk l n ∧ drunkGo kk l n ≤ 1000000 * (m + l.length)
  | [], n, m, _, h1, h2, _ => ⟨h1, by simp only [List.length_nil]; show n ≤ _; omega⟩
  | x :: l, n, m, h, h1, h2, h3 => by
    rw [drunkGo_cons]
    have hx := h x (List.mem_cons_self ..)
    have hl : ∀ e ∈ l, 0 ≤ e.y ∧ e.y ≤ 1000000 := fun e he => h e (List.mem_cons_of_mem _ he)
    simp only [List.length_cons] at h3 ⊢
    split
    · rw [wrap_in (by omega) (by omega)]
      have := drunkGo_bd kk l (n + x.y) (m + 1) hl (by omega) (by omega) (by omega)
      omega
    · have := drunkGo_bd kk l n (m + 1) hl (by omega) (by omega) (by omega)
      omega
theorem drunkBy_bd (b : Bk) (kk : Int) : -1 ≤ drunkBy b kk ∧ drunkBy b kk ≤ 40000000 := by
  unfold drunkBy
  split
  · rename_i h
    obtain ⟨_, _, i3, i4⟩ := bookOk_iff h
    have := drunkGo_bd kk b.evs 0 0 (runEv_liters _ _ _ _ _ _ i4) (by omega) (by omega) (by omega)
    omega
  · omega
theorem book_bd {b : Bk} (h : bookOk b = true) : 0 ≤ b.start ∧ b.start ≤ 1000000 ∧ 0 ≤ b.rained ∧ b.rained ≤ 40000000 := by
  obtain ⟨i1, i2, i3, i4⟩ := bookOk_iff h
  have h1 := inB_iff.1 i1
  have h2 := inB_iff.1 i2
  have h3 := runEv_rained _ _ _ _ _ _ i4
  have he : (countBk b.room b.start b.evs).2.1 = b.rained := by
    unfold bookOk at h
    simp only [Bool.and_eq_true, beq_iff_eq] at h
    exact h.1.1.2
  rw [countBk_yes i1 i2 i3] at he
  rw [he] at h3
  omega
theorem partOf_bd (t b m : Int) : -1 ≤ partOf t b m ∧ partOf t b m ≤ 10000000000 := by
  unfold partOf
  split
  · rename_i h
    rw [Bool.and_eq_true] at h
    obtain ⟨f1, f2, f3, f4⟩ := fracOk_iff h.1
    obtain ⟨m1, m2⟩ := inB_iff.1 h.2
    have p1 : 0 ≤ m * t := Int.mul_nonneg m1 f1
    have p2 : m * t ≤ 10000000000 := by have := Int.mul_le_mul m2 f2 f1 (by omega); omega
    have q1 : 0 ≤ m * t / b := Int.ediv_nonneg p1 (by omega)
    have q2 : m * t / b ≤ m * t := Int.ediv_le_self _ p1
    omega
  · omega
theorem findGo_cases : ∀ (l : List T3) (k : Nat) (o : Int), (findGo l k o = -1 ∧ ∀ t ∈ l, t.x ≠ o) ∨ ∃ (j : Nat) (t : T3), findGo l k o = ((k + j : Nat) : Int) ∧ l[j]? = some t ∧ t.x = o ∧ shareOf l o = (t.y, t.z)
  | [], _, _ => .inl ⟨rfl, fun t ht => by cases ht⟩
  | x :: l, k, o => by
    rw [findGo_cons, shareOf_cons]
    by_cases hx : x.x = o
    · rw [if_pos hx, if_pos hx]
      exact .inr ⟨0, x, rfl, rfl, hx, rfl⟩
    · rw [if_neg hx, if_neg hx]
      rcases findGo_cases l (k + 1) o with ⟨h1, h2⟩ | ⟨j, t, h1, h2, h3, h4⟩
      · refine .inl ⟨h1, fun t ht => ?_⟩
        rcases List.mem_cons.1 ht with rfl | ht
        · exact hx
        · exact h2 t ht
      · exact .inr ⟨j + 1, t, by rw [h1]; congr 1; omega, by simpa using h2, h3, h4⟩
theorem rightAt_cases (l : List T3) (o : Int) : (rightAt l o = -1 ∧ ∀ t ∈ l, t.x ≠ o) ∨ ∃ (k : Nat) (t : T3), rightAt l o = (k : Int) ∧ k < l.length ∧ l[k]? = some t ∧ t.x = o ∧ shareOf l o = (t.y, t.z) := by
  rcases findGo_cases l 0 o with h | ⟨j, t, h1, h2, h3, h4⟩
  · exact .inl h
  · exact .inr ⟨j, t, by unfold rightAt; rw [h1, Nat.zero_add], (List.getElem?_eq_some_iff.1 h2).1, h2, h3, h4⟩
end Go.Proofs.YtbkgofjajhplpaaDoor
