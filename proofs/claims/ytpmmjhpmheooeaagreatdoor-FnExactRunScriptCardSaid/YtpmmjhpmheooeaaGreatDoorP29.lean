/- Texts of the proof, joined: RunOk, VillPure. -/
import Derived.Test.YtpmmjhpmheooeaaGreatDoorP28
import Derived.Test.YtpmmjhpmheooeaaGreatDoorP12
import Derived.Test.YtpmmjhpmheooeaaGreatDoorP18
import Derived.Test.YtpmmjhpmheooeaaGreatDoorP20
namespace Go.Proofs.YtpmmjhpmheooeaaGreatDoor
set_option linter.unusedSimpArgs false
set_option linter.unusedVariables false
section
theorem enter_keeps {b : Bk} (h : bookOk b = true) (e : T3) : bookOk (enter b e).1 = true := by
 by_cases hl : b.evs.length < 40
 ·cases he : (evOn b.level b.room e.x e.y e.z).2.2.2.2
  ·rw [enter_book h e hl, he]; exact h
  ·exact enter_ok h e hl he
 ·have h2 : enter b e = (b, false) := by unfold enter enterOk; simp [hl]
  rw [h2]; exact h
theorem vg_parts {v : Vg} (h : villageOk v = true) : bookOk v.book = true ∧ rightsOk v.rights = true := by
 unfold villageOk at h
 simpa only [Bool.and_eq_true] using h
theorem vg_made {b : Bk} {r : List T3} (h1 : bookOk b = true) (h2 : rightsOk r = true) : villageOk ⟨b, r⟩ = true := by
 unfold villageOk; rw [h1, h2]; rfl
theorem vEnter_keeps {v : Vg} (h : villageOk v = true) (e : T3) : villageOk (vEnter v e).1 = true := by
 unfold vEnter
 rw [if_pos h]
 exact vg_made (enter_keeps (vg_parts h).1 e) (vg_parts h).2
theorem vDrink_keeps {v : Vg} (h : villageOk v = true) (o n : Int) : villageOk (vDrink v o n).1 = true := by
 unfold vDrink
 split
 ·exact h
 ·exact vEnter_keeps h _
theorem vSell_keeps {v : Vg} (h : villageOk v = true) (f t a b : Int) : villageOk (vSell v f t a b).1 = true := by
 unfold vSell
 rw [if_pos h]
 exact vg_made (vg_parts h).1 (sell_rights (vg_parts h).2)
theorem inh_rights {l : List T3} {o : Int} {hs : List Int} (hl : rightsOk l = true) : rightsOk (inhF l o hs).1 = true := by
 cases hg : inhG l o hs
 ·rw [inhF_no hg]; exact hl
 cases ht : inhTo l o hs with
 |none => rw [inhF_none ht]; exact hl
 |some r =>
  rw [inhF_some hg ht]
  split
  ·assumption
  ·exact hl
theorem vPass_keeps {v : Vg} (h : villageOk v = true) (o : Int) (hl : List Int) : villageOk (vPass v o hl).1 = true := by
 unfold vPass
 rw [if_pos h]
 exact vg_made (vg_parts h).1 (inh_rights (vg_parts h).2)
theorem doAct_keeps {v : Vg} (h : villageOk v = true) (k a b : Int) : villageOk (doAct v k a b).1 = true := by
 unfold doAct bi
 by_cases h0 : villageOk v = true ∧ actOk k a b = true
 ·rw [if_pos h0]
  by_cases h1 : k = 1
  ·rw [if_pos h1]; exact vEnter_keeps h _
  rw [if_neg h1]
  by_cases h2 : k = 2
  ·rw [if_pos h2]; exact vDrink_keeps h _ _
  rw [if_neg h2]
  by_cases h3 : k = 3
  ·rw [if_pos h3]; exact vEnter_keeps h _
  rw [if_neg h3]
  by_cases h4 : k = 4
  ·rw [if_pos h4]; exact vSell_keeps h _ _ _ _
  rw [if_neg h4]
  by_cases h5 : k = 5
  ·rw [if_pos h5]; exact vPass_keeps h _ _
  rw [if_neg h5]; exact h
 ·rw [if_neg h0]; exact h
theorem runL_keeps {v : Vg} (h : villageOk v = true) (l : List T3) : ∀ k, k ≤ l.length → villageOk (runL v (l.take k)).1 = true
 |0, _ => by simpa [runL_nil] using h
 |k + 1, hk => by
  have ha : l[k]? = some l[k] := List.getElem?_eq_getElem (by omega)
  rw [take_snocT ha, runL_snoc]
  exact doAct_keeps (runL_keeps h l k (by omega)) _ _ _
theorem run_keeps {v : Vg} (h : villageOk v = true) {l : List T3} (hl : l.length ≤ 40) : villageOk (runActs v l).1 = true ∧ (runActs v l).2.length = l.length := by
 unfold runActs
 rw [if_pos ⟨h, hl⟩]
 have h1 := runL_keeps h l l.length (Nat.le_refl _)
 have h2 := (runL_facts v l l.length (Nat.le_refl _)).1
 rw [List.take_length] at h1 h2
 exact ⟨h1, h2⟩
end
section
theorem rightAt_of_not {l : List T3} {o : Int} (h : hasO l o = false) : rightAt l o = -1 := by
 rcases rightAt_split l o with ⟨h1, _⟩ | ⟨p, e, s, h1, h2, _, _⟩
 ·exact h1
 ·rw [h1] at h; simp [hasO, h2] at h
theorem vg_ok {v : Vg} (h : villageOk v = true) : bookOk v.book = true ∧ rightsOk v.rights = true := by
 unfold villageOk at h
 simpa using h
theorem may_have {l : List T3} {o : Int} (hl : rightsOk l = true) (ho : hasO l o = true) : ∃ y z, 0 ≤ y ∧ 1 ≤ z ∧ fracOk y z = true ∧ 1 ≤ o ∧ o ≤ 999 ∧ ∀ b, bookOk b = true → mayDrink ⟨b, l⟩ o = max 0 (partOf y z (min 1000000 (b.start + b.rained)) - dby o b.evs) := by
 rcases rightAt_cases l o with ⟨h1, h2⟩ | ⟨k, t, h1, h2, h3, h4, h5⟩
 ·simp only [hasO, List.any_eq_true] at ho
  obtain ⟨e, he, hx⟩ := ho
  exact absurd (by simpa using hx) (h2 e he)
 ·have hf := (rights_facts hl).2.2 t (List.mem_of_getElem? h3)
  have hq := fracOk_iff hf.1
  refine ⟨t.y, t.z, by omega, by omega, hf.1, by omega, by omega, fun b hb => ?_⟩
  have hv : villageOk ⟨b, l⟩ = true := by unfold villageOk; rw [hb, hl]; rfl
  rw [may_some (v := ⟨b, l⟩) hv h1 h5]
  show max 0 (_ - drunkBy b o) = _
  rw [drunkBy_eq hb]
theorem may_not {v : Vg} {o : Int} (hv : villageOk v = true) (ho : hasO v.rights o = false) : mayDrink v o = 0 := may_none hv (rightAt_of_not ho)
end
end Go.Proofs.YtpmmjhpmheooeaaGreatDoor
