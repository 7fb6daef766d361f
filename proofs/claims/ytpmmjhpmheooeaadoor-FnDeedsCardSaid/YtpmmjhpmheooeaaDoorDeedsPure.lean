/- FnDeeds in plain Lean: deeds differ where rights do. -/
import Derived.Test.YtpmmjhpmheooeaaDoorRdPure
import Derived.Test.YtpmmjhpmheooeaaDoorDeedDiff
import Derived.Test.YtpmmjhpmheooeaaDoorSame
import Derived.Test.YtpmmjhpmheooeaaDoorRightsDraw0
namespace Go.Proofs.YtpmmjhpmheooeaaDoor
set_option linter.unusedSimpArgs false
set_option linter.unusedVariables false
open Go.RowKit
set_option maxRecDepth 20000
theorem diffGo_none (a b : List T3) : ∀ (n k : Nat), (∀ i, k ≤ i → i < k + n → shareOf a (i : Nat) = shareOf b (i : Nat)) → diffGo a b k n = []
  | 0, _, _ => rfl
  | n + 1, k, h => by
    show (if shareOf a k ≠ shareOf b k then (k : Int) :: diffGo a b (k + 1) n else diffGo a b (k + 1) n) = []
    rw [if_neg (fun h9 => h9 (h k (Nat.le_refl _) (by omega))), diffGo_none a b n (k + 1) (fun i h1 h2 => h i (by omega) (by omega))]
theorem diffGo_add (a b : List T3) : ∀ (m n k : Nat), diffGo a b k (m + n) = diffGo a b k m ++ diffGo a b (k + m) n
  | 0, n, k => by rw [Nat.zero_add, Nat.add_zero]; rfl
  | m + 1, n, k => by
    rw [show m + 1 + n = (m + n) + 1 by omega]
    show (if shareOf a k ≠ shareOf b k then (k : Int) :: diffGo a b (k + 1) (m + n) else diffGo a b (k + 1) (m + n)) = (if shareOf a k ≠ shareOf b k then (k : Int) :: diffGo a b (k + 1) m else diffGo a b (k + 1) m) ++ _
    rw [diffGo_add a b m n (k + 1), show k + 1 + m = k + (m + 1) by omega]
    split <;> simp
theorem diffGo_one (a b : List T3) (k : Nat) (h : shareOf a (k : Nat) ≠ shareOf b (k : Nat)) : diffGo a b k 1 = [(k : Int)] := by
  show (if shareOf a k ≠ shareOf b k then (k : Int) :: diffGo a b (k + 1) 0 else diffGo a b (k + 1) 0) = _
  rw [if_pos h]; rfl
theorem diff_self (l : List T3) : deedDiff l l = [] := by
  unfold deedDiff
  split
  · exact diffGo_none l l 999 1 (fun _ _ _ => rfl)
  · rfl
theorem diff_two {a b : List T3} {o : Nat} (ha : rightsOk a = true) (hb : rightsOk b = true) (h1 : 1 ≤ o) (h2 : o ≤ 12) (d1 : shareOf a (o : Nat) ≠ shareOf b (o : Nat)) (d2 : shareOf a ((700 : Nat) : Int) ≠ shareOf b ((700 : Nat) : Int))
    (he : ∀ i : Nat, i ≠ o → i ≠ 700 → shareOf a (i : Nat) = shareOf b (i : Nat)) : deedDiff a b = [(o : Int), 700] := by
  unfold deedDiff
  rw [ha, hb, Bool.and_self, if_pos rfl]
  have e : (999 : Nat) = (o - 1) + (1 + ((699 - o) + (1 + 299))) := by omega
  rw [e, diffGo_add, diffGo_add, diffGo_add, diffGo_add]
  rw [diffGo_none a b (o - 1) 1 (fun i _ _ => he i (by omega) (by omega))]
  rw [show 1 + (o - 1) = o by omega, diffGo_one a b o d1]
  rw [diffGo_none a b (699 - o) (o + 1) (fun i _ _ => he i (by omega) (by omega))]
  rw [show o + 1 + (699 - o) = 700 by omega, diffGo_one a b 700 d2]
  rw [diffGo_none a b 299 (700 + 1) (fun i _ _ => he i (by omega) (by omega))]
  rfl
theorem half_share {y z p q : Int} (hf : fracOk y z = true) (hy : 1 ≤ y) (h : mulF y z 1 2 = (p, q, true)) : fracOk p q = true ∧ p ≠ 0 ∧ (p, q) ≠ (y, z) := by
  obtain ⟨y1, y2, z1, z2⟩ := fracOk_iff hf
  unfold mulF at h
  rw [hf, show fracOk 1 2 = true from by decide] at h
  simp only [Bool.and_self, if_true] at h
  obtain ⟨hp, hv, -⟩ := redF_ok (by omega) h
  obtain ⟨p1, p2, q1, q2⟩ := fracOk_iff hp
  rw [Int.toNat_of_nonneg (by omega), Int.toNat_of_nonneg (by omega), Int.mul_one] at hv
  have hpos : 1 ≤ y * q := by have := Int.mul_le_mul hy q1 (by omega) (by omega); omega
  refine ⟨hp, fun e => ?_, fun e => ?_⟩
  · rw [e, Int.zero_mul] at hv; omega
  · simp only [Prod.mk.injEq] at e
    obtain ⟨rfl, rfl⟩ := e
    have e2 : p * (q * 2) = p * q + p * q := by rw [← Int.mul_assoc]; omega
    omega
/-- The half of the first right sold to one who has none. -/
theorem sell_half {e : T3} {es : List T3} (h : RtD (e :: es)) : sellF (e :: es) e.x 700 1 2 = (e :: es, false) ∨
    ∃ p q, (p, q) ≠ (e.y, e.z) ∧ p ≠ 0 ∧ rightsOk (⟨e.x, p, q⟩ :: es ++ [⟨700, p, q⟩]) = true ∧ sellF (e :: es) e.x 700 1 2 = (⟨e.x, p, q⟩ :: es ++ [⟨700, p, q⟩], true) := by
  have hf := (rights_facts h.1).2.2 e (List.mem_cons_self ..)
  have hx := h.2 e (List.mem_cons_self ..)
  have hsh : shareOf (e :: es) e.x = (e.y, e.z) := by rw [shareOf_cons, if_pos rfl]
  have hg : sellG (e :: es) e.x 700 1 2 = true := by
    unfold sellG
    rw [h.1, show hasO (e :: es) e.x = true by simp [hasO], decide_eq_true (show e.x ≠ 700 by omega)]
    decide
  obtain ⟨⟨p, q, ok⟩, hm⟩ : ∃ r, mulF e.y e.z 1 2 = r := ⟨_, rfl⟩
  cases ok
  · left
    refine sellF_none ?_
    unfold sellTo
    simp only [hsh, hm]
    rfl
  · obtain ⟨hp, hp0, hpq⟩ := half_share hf.1 hf.2.1 hm
    have hc : cutS (e :: es) e.x p q = ⟨e.x, p, q⟩ :: es := by rw [cutS_cons, if_pos rfl, if_neg hp0]
    have hlt : ∀ a ∈ (⟨e.x, p, q⟩ :: es : List T3), a.x < 700 := fun a ha => by
      rcases List.mem_cons.1 ha with rfl | ha
      · show e.x < 700; omega
      · have := h.2 a (List.mem_cons_of_mem _ ha); omega
    have ha : addSh (⟨e.x, p, q⟩ :: es) 700 p q = some (⟨e.x, p, q⟩ :: es ++ [⟨700, p, q⟩]) := by
      have := addSh_in (⟨e.x, p, q⟩ :: es) [] 700 p q hlt (fun _ h => by cases h)
      rwa [List.append_nil] at this
    have ht : sellTo (e :: es) e.x 700 1 2 = some (⟨e.x, p, q⟩ :: es ++ [⟨700, p, q⟩]) := by
      unfold sellTo
      simp only [hsh, show (2 : Int) - 1 = 1 from rfl, hm, Bool.and_self, if_true, if_neg hp0, hc]
      exact ha
    rw [sellF_some hg ht]
    cases hr : rightsOk (⟨e.x, p, q⟩ :: es ++ [⟨700, p, q⟩])
    · left; rfl
    · right; exact ⟨p, q, hpq, hp0, hr, rfl⟩
theorem shareOf_app : ∀ (l m : List T3) (o : Int), (∀ t ∈ m, t.x ≠ o) → shareOf (l ++ m) o = shareOf l o
  | [], m, o, h => by rw [List.nil_append, shareOf_none m o h]; rfl
  | e :: l, m, o, h => by
    rw [List.cons_append, shareOf_cons, shareOf_cons, shareOf_app l m o h]
theorem shareOf_last : ∀ (l : List T3) (t : T3), (∀ a ∈ l, a.x ≠ t.x) → shareOf (l ++ [t]) t.x = (t.y, t.z)
  | [], t, _ => by rw [List.nil_append, shareOf_cons, if_pos rfl]
  | e :: l, t, h => by
    rw [List.cons_append, shareOf_cons, if_neg (h e List.mem_cons_self), shareOf_last l t (fun a ha => h a (List.mem_cons_of_mem _ ha))]
/-- All that the law asks of the sale. -/
theorem sell_law {e : T3} {es : List T3} (h : RtD (e :: es)) (hs : (sellF (e :: es) e.x 700 1 2).2 = true) :
    deedDiff (e :: es) (sellF (e :: es) e.x 700 1 2).1 = [e.x, 700] ∧ sameRights (e :: es) (sellF (e :: es) e.x 700 1 2).1 = false := by
  rcases sell_half h with h1 | ⟨p, q, hpq, hp0, hr, h1⟩
  · rw [h1] at hs; cases hs
  · rw [h1]
    have hf := (rights_facts h.1).2.2 e (List.mem_cons_self ..)
    have hx := h.2 e (List.mem_cons_self ..)
    obtain ⟨o, ho⟩ := Int.eq_ofNat_of_zero_le (show 0 ≤ e.x by omega)
    have ho' : e.x = (o : Int) := ho
    have h700 : ∀ a ∈ (e :: es : List T3), a.x ≠ ((700 : Nat) : Int) := fun a ha => by have := h.2 a ha; omega
    have hlt : ∀ a ∈ (⟨e.x, p, q⟩ :: es : List T3), a.x ≠ (⟨700, p, q⟩ : T3).x := fun a ha => by
      rcases List.mem_cons.1 ha with rfl | ha
      · show e.x ≠ 700; omega
      · have := h.2 a (List.mem_cons_of_mem _ ha); show a.x ≠ 700; omega
    refine ⟨?_, ?_⟩
    · rw [ho']
      refine diff_two h.1 (by rw [← ho']; exact hr) (by omega) (by omega) ?_ ?_ ?_
      · rw [shareOf_cons, if_pos ho', List.cons_append, shareOf_cons, if_pos rfl]
        exact fun h9 => hpq h9.symm
      · rw [shareOf_none _ _ h700, ← ho']
        have := shareOf_last (⟨e.x, p, q⟩ :: es) ⟨700, p, q⟩ hlt
        rw [show ((700 : Nat) : Int) = (⟨700, p, q⟩ : T3).x from rfl, this]
        intro h9
        simp only [Prod.mk.injEq] at h9
        exact hp0 h9.1.symm
      · intro i h1 h2
        rw [shareOf_app _ _ _ (fun t ht => by rw [List.mem_singleton] at ht; subst ht; show (700 : Int) ≠ i; omega), shareOf_cons, shareOf_cons, if_neg (by omega), if_neg (by show ¬ (o : Int) = i; omega)]
    · unfold sameRights
      rw [h.1, hr, decide_eq_false]
      · rfl
      · intro h9
        have := congrArg List.length h9
        simp at this
theorem deed_ne {l : List T3} (h : rightsOk l = true) : (deedText l).length ≠ 0 := by
  intro h0
  have hp := rd_parts h
  rw [List.eq_nil_of_length_eq_zero h0] at hp
  have hl := rightsOk_len h
  cases l with
  | nil => simp at hl
  | cons e es =>
    have hf := (rights_facts h).2.2 e (List.mem_cons_self ..)
    have hn := right_some ⟨hf.2.2.1, hf.2.2.2⟩ hf.1
    have h9 : ([[]] : List (List UInt8)) = rightText e.x e.y e.z :: deedL es := hp
    simp only [List.cons.injEq] at h9
    exact hn h9.1.symm
theorem same_of {l : List T3} (h : rightsOk l = true) : sameRights l l = true := by unfold sameRights; rw [h]; simp
theorem read_right {l : List T3} (h : rightsOk l = true) {e : T3} (he : e ∈ l) : rrI (rightText e.x e.y e.z) = true ∧ rrX (rightText e.x e.y e.z) = e := by
  have hf := (rights_facts h).2.2 e he
  exact rrI_of rfl (right_some ⟨hf.2.2.1, hf.2.2.2⟩ hf.1)
theorem text_seven : rightText 7 1 3 = [55, 58, 49, 47, 51] := by
  unfold rightText fracText
  rw [if_pos (by decide), if_pos (by decide), if_neg (by decide)]
  rw [show (7 : Int) = ((7 : Nat) : Int) from rfl, show (1 : Int) = ((1 : Nat) : Int) from rfl, show (3 : Int) = ((3 : Nat) : Int) from rfl, itoa_nat, itoa_nat, itoa_nat, dec_small (by omega), dec_small (by omega), dec_small (by omega)]
  rfl
end Go.Proofs.YtpmmjhpmheooeaaDoor
