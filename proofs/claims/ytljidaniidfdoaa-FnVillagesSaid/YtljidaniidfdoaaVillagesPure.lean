/- FnVillages' plain law: what is sold or inherited by new owners makes the rights longer by one. -/
import Derived.Test.YtljidaniidfdoaaVillSell
import Derived.Test.YtljidaniidfdoaaVillPass
import Derived.Test.YtljidaniidfdoaaVillPure
namespace Go.Proofs.Ytljidaniidfdoaa
theorem hasO_split : ∀ (l : List T3) (o : Int), hasO l o = true → ∃ (p : List T3) (e : T3) (s : List T3), l = p ++ e :: s ∧ e.x = o ∧ hasO p o = false
  | [], o, h => by simp [hasO] at h
  | x :: l, o, h => by
    by_cases hx : x.x = o
    · exact ⟨[], x, l, rfl, hx, rfl⟩
    · have h2 : hasO l o = true := by simpa [hasO, hx] using h
      obtain ⟨p, e, s, h3, h4, h5⟩ := hasO_split l o h2
      exact ⟨x :: p, e, s, by rw [h3]; rfl, h4, by simp only [hasO, List.any_cons, Bool.or_eq_false_iff]; exact ⟨by simpa using hx, h5⟩⟩
theorem mulF_half {y z p q : Int} (hy : 1 ≤ y) (h : mulF y z 1 2 = (p, q, true)) : 1 ≤ p := by
  unfold mulF at h
  split at h
  · rename_i hc
    have hz := fracOk_iff (show fracOk y z = true by simp only [Bool.and_eq_true] at hc; exact hc.1)
    exact redF_pos (t := (y * 1).toNat) (b := (z * 2).toNat) (by omega) (by omega) h
  · cases h
theorem addSh_fresh {l r : List T3} {n y z : Int} (hn : ∀ e ∈ l, e.x ≠ n) (h : addSh l n y z = some r) : r.length = l.length + 1 := by
  rw [addSh_new (fun e he => hn e (List.mem_of_getElem? he))] at h
  have h2 := Option.some.inj h
  rw [← h2]
  have := posA_le l n
  simp
  omega
theorem sell_new {l : List T3} {o n : Int} (hl : rightsOk l = true) (ho : hasO l o = true) (hn : ∀ e ∈ l, e.x ≠ n) (hs : (sellF l o n 1 2).2 = true) :
    rightsOk (sellF l o n 1 2).1 = true ∧ (sellF l o n 1 2).1.length = l.length + 1 := by
  cases hg : sellG l o n 1 2
  · rw [sellF_no hg] at hs; cases hs
  cases ht : sellTo l o n 1 2 with
  | none => rw [sellF_none ht] at hs; cases hs
  | some r =>
    rw [sellF_some hg ht] at hs ⊢
    cases hr : rightsOk r
    · rw [hr] at hs; cases hs
    simp only [if_true]
    refine ⟨hr, ?_⟩
    obtain ⟨p, e, s, rfl, hx, hp⟩ := hasO_split l o ho
    unfold sellTo at ht
    rw [shareOf_split p e s o hp hx] at ht
    obtain ⟨⟨a, b, ok⟩, hm⟩ : ∃ m, mulF e.y e.z 1 2 = m := ⟨_, rfl⟩
    simp only [show (2 : Int) - 1 = 1 from rfl, hm] at ht
    cases ok
    · simp at ht
    simp only [Bool.and_self, if_true] at ht
    have hy := ((rights_facts hl).2.2 e (by simp)).2.1
    have ha := mulF_half hy hm
    rw [if_neg (by omega), cutS_split p e s o a b hp hx, if_neg (by omega)] at ht
    have hno : o ≠ n := fun h9 => hn e (by simp) (hx.trans h9)
    have h9 := addSh_fresh (fun e' he' => by
      simp only [List.mem_append, List.mem_cons] at he'
      rcases he' with h8 | h8 | h8
      · exact hn e' (by simp [h8])
      · rw [h8]; exact hno
      · exact hn e' (by simp [h8])) ht
    rw [h9]; simp
theorem addAll_two {l r : List T3} {n m y z : Int} (hn : ∀ e ∈ l, e.x ≠ n) (hm : ∀ e ∈ l, e.x ≠ m) (hnm : n ≠ m) (h : addAll l [n, m] y z = some r) : r.length = l.length + 2 ∧ ∀ o, o ≠ n → o ≠ m → hasO l o = false → hasO r o = false := by
  cases h1 : addSh l n y z with
  | none => rw [addAll_no _ h1] at h; cases h
  | some l1 =>
    rw [addAll_yes _ h1] at h
    have e1 := h1
    rw [addSh_new (fun e he => hn e (List.mem_of_getElem? he))] at e1
    have e1 := Option.some.inj e1
    have hml : ∀ e ∈ l1, e = ⟨n, y, z⟩ ∨ e ∈ l := fun e he => by
      rw [← e1] at he
      simp only [List.mem_append, List.mem_cons] at he
      rcases he with h8 | h8 | h8
      · exact .inr (List.mem_of_mem_take h8)
      · exact .inl h8
      · exact .inr (List.mem_of_mem_drop h8)
    have hm1 : ∀ e ∈ l1, e.x ≠ m := fun e he => by
      rcases hml e he with h8 | h8
      · rw [h8]; exact hnm
      · exact hm e h8
    cases h2 : addSh l1 m y z with
    | none => rw [addAll_no _ h2] at h; cases h
    | some l2 =>
      rw [addAll_yes _ h2, addAll_nil] at h
      have e0 := Option.some.inj h
      have e2 := h2
      rw [addSh_new (fun e he => hm1 e (List.mem_of_getElem? he))] at e2
      have e2 := Option.some.inj e2
      refine ⟨by rw [← e0, addSh_fresh hm1 h2, addSh_fresh hn h1], fun o o1 o2 o3 => ?_⟩
      rw [← e0, ← e2]
      have hl1 : hasO l1 o = false := by
        simp only [hasO, List.any_eq_false]
        intro e he
        rcases hml e he with h8 | h8
        · rw [h8]; simpa using fun h => o1 h.symm
        · simpa using hasO_mem o3 h8
      simp only [hasO, List.any_eq_false]
      intro e he
      simp only [List.mem_append, List.mem_cons] at he
      rcases he with h8 | h8 | h8
      · simpa using hasO_mem hl1 (List.mem_of_mem_take h8)
      · rw [h8]; simpa using fun h => o2 h.symm
      · simpa using hasO_mem hl1 (List.mem_of_mem_drop h8)
theorem pass_new {l : List T3} {o n m : Int} (hl : rightsOk l = true) (ho : hasO l o = true) (hn : ∀ e ∈ l, e.x ≠ n) (hm : ∀ e ∈ l, e.x ≠ m) (hnm : n ≠ m) (hs : (inhF l o [n, m]).2 = true) :
    rightsOk (inhF l o [n, m]).1 = true ∧ (inhF l o [n, m]).1.length = l.length + 1 ∧ hasO (inhF l o [n, m]).1 o = false := by
  cases hg : inhG l o [n, m]
  · rw [inhF_no hg] at hs; cases hs
  cases ht : inhTo l o [n, m] with
  | none => rw [inhF_none ht] at hs; cases hs
  | some r =>
    rw [inhF_some hg ht] at hs ⊢
    cases hr : rightsOk r
    · rw [hr] at hs; cases hs
    simp only [if_true]
    refine ⟨hr, ?_⟩
    obtain ⟨p, e, s, rfl, hx, hp⟩ := hasO_split l o ho
    unfold inhTo at ht
    simp only at ht
    split at ht
    · rw [cutS_split p e s o 0 1 hp hx, if_pos rfl] at ht
      have hu := upO_append p e s 0 (rights_up hl)
      have hps : ∀ e' ∈ p ++ s, e' ∈ p ++ e :: s := fun e' he' => by
        simp only [List.mem_append, List.mem_cons] at he' ⊢
        rcases he' with h8 | h8
        · exact .inl h8
        · exact .inr (.inr h8)
      have h9 := addAll_two (fun e' he' => hn e' (hps e' he')) (fun e' he' => hm e' (hps e' he')) hnm ht
      have hon : o ≠ n := fun h8 => hn e (by simp) (hx.trans h8)
      have hom : o ≠ m := fun h8 => hm e (by simp) (hx.trans h8)
      refine ⟨by rw [h9.1]; simp; omega, h9.2 o hon hom ?_⟩
      simp only [hasO, List.any_eq_false]
      intro e' he'
      simp only [List.mem_append] at he'
      rcases he' with h8 | h8
      · simpa using hasO_mem hp h8
      · have := hu.2.2.2.all e' h8
        simp; omega
    · cases ht
theorem vg_sell {v : Vg} {o n : Int} (hv : villageOk v = true) (ho : hasO v.rights o = true) (hn : ∀ e ∈ v.rights, e.x ≠ n) (hs : (vSell v o n 1 2).2 = true) :
    villageOk (vSell v o n 1 2).1 = true ∧ (vSell v o n 1 2).1.rights.length = v.rights.length + 1 ∧ (vSell v o n 1 2).1.book = v.book := by
  have hd : vSell v o n 1 2 = (⟨v.book, (sellF v.rights o n 1 2).1⟩, (sellF v.rights o n 1 2).2) := by unfold vSell; rw [if_pos hv]
  rw [hd] at hs ⊢
  have h := sell_new (vg_ok hv).2 ho hn hs
  exact ⟨by unfold villageOk; rw [(vg_ok hv).1, h.1]; rfl, h.2, rfl⟩
theorem vg_pass {v : Vg} {o n m : Int} (hv : villageOk v = true) (ho : hasO v.rights o = true) (hn : ∀ e ∈ v.rights, e.x ≠ n) (hm : ∀ e ∈ v.rights, e.x ≠ m) (hnm : n ≠ m) (hs : (vPass v o [n, m]).2 = true) :
    villageOk (vPass v o [n, m]).1 = true ∧ (vPass v o [n, m]).1.rights.length = v.rights.length + 1 ∧ mayDrink (vPass v o [n, m]).1 o = 0 := by
  have hd : vPass v o [n, m] = (⟨v.book, (inhF v.rights o [n, m]).1⟩, (inhF v.rights o [n, m]).2) := by unfold vPass; rw [if_pos hv]
  rw [hd] at hs ⊢
  have h := pass_new (vg_ok hv).2 ho hn hm hnm hs
  have hk : villageOk ⟨v.book, (inhF v.rights o [n, m]).1⟩ = true := by unfold villageOk; rw [(vg_ok hv).1, h.1]; rfl
  exact ⟨hk, h.2.1, may_not hk h.2.2⟩
end Go.Proofs.Ytljidaniidfdoaa
