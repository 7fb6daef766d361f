/- Villages in plain Lean: what may be drunk, rain, leaks. -/
import Derived.Test.YtdmgdkeichlccaaDrink
import Derived.Test.YtdmgdkeichlccaaBooksPure
import Derived.Test.YtdmgdkeichlccaaKd
namespace Go.Proofs.Ytdmgdkeichlccaa
set_option linter.unusedSimpArgs false
set_option linter.unusedVariables false
theorem rightAt_of_not {l : List T3} {o : Int} (h : hasO l o = false) : rightAt l o = -1 := by
  rcases rightAt_split l o with ⟨h1, _⟩ | ⟨p, e, s, h1, h2, _, _⟩
  · exact h1
  · rw [h1] at h; simp [hasO, h2] at h
theorem vg_ok {v : Vg} (h : villageOk v = true) : bookOk v.book = true ∧ rightsOk v.rights = true := by
  unfold villageOk at h
  simpa using h
theorem may_have {l : List T3} {o : Int} (hl : rightsOk l = true) (ho : hasO l o = true) : ∃ y z, 0 ≤ y ∧ 1 ≤ z ∧ fracOk y z = true ∧ 1 ≤ o ∧ o ≤ 999 ∧ ∀ b, bookOk b = true → mayDrink ⟨b, l⟩ o = max 0 (partOf y z (min 1000000 (b.start + b.rained)) - dby o b.evs) := by
  rcases rightAt_cases l o with ⟨h1, h2⟩ | ⟨k, t, h1, h2, h3, h4, h5⟩
  · simp only [hasO, List.any_eq_true] at ho
    obtain ⟨e, he, hx⟩ := ho
    exact absurd (by simpa using hx) (h2 e he)
  · have hf := (rights_facts hl).2.2 t (List.mem_of_getElem? h3)
    have hq := fracOk_iff hf.1
    refine ⟨t.y, t.z, by omega, by omega, hf.1, by omega, by omega, fun b hb => ?_⟩
    have hv : villageOk ⟨b, l⟩ = true := by unfold villageOk; rw [hb, hl]; rfl
    rw [may_some (v := ⟨b, l⟩) hv h1 h5]
    show max 0 (_ - drunkBy b o) = _
    rw [drunkBy_eq hb]
theorem may_not {v : Vg} {o : Int} (hv : villageOk v = true) (ho : hasO v.rights o = false) : mayDrink v o = 0 := may_none hv (rightAt_of_not ho)
theorem enter_full {b : Bk} {e : T3} (h : ¬ b.evs.length < 40) : enter b e = (b, false) := by
  unfold enter enterOk
  simp [h]
theorem vg_drink {v : Vg} {o : Int} (hv : villageOk v = true) (ho : hasO v.rights o = true) :
    0 ≤ mayDrink v o ∧ (vDrink v o (mayDrink v o + 1)).2 = false ∧ (vDrink v o (mayDrink v o)).2 = (decide (mayDrink v o ≤ v.book.level) && decide (v.book.evs.length < 40)) ∧
    ((vDrink v o (mayDrink v o)).2 = true → mayDrink (vDrink v o (mayDrink v o)).1 o = 0 ∧ (vDrink v o (mayDrink v o)).1.book.level = v.book.level - mayDrink v o ∧ villageOk (vDrink v o (mayDrink v o)).1 = true) := by
  obtain ⟨hb, hr⟩ := vg_ok hv
  obtain ⟨y, z, hy, hz, hf, o1, o2, hm⟩ := may_have hr ho
  obtain ⟨M, hM⟩ : ∃ M, mayDrink v o = M := ⟨_, rfl⟩
  have hmv := hm v.book hb
  rw [show (⟨v.book, v.rights⟩ : Vg) = v from rfl, hM] at hmv
  have h0 : 0 ≤ M := by rw [hmv]; omega
  have hlv := book_level hb
  rw [hM]
  refine ⟨h0, by unfold vDrink; rw [hM, if_pos (by omega)], ?_⟩
  have hd : vDrink v o M = (⟨(enter v.book ⟨2, M, o⟩).1, v.rights⟩, (enter v.book ⟨2, M, o⟩).2) := by
    unfold vDrink; rw [hM, if_neg (by omega)]; unfold vEnter; rw [if_pos hv]
  rw [hd]
  by_cases hl : v.book.evs.length < 40
  · have he := enter_book hb ⟨2, M, o⟩ hl
    by_cases hml : M ≤ v.book.level
    · have hev := ev_drink (v := v.book.level) (room := v.book.room) (a := M) (o := o) hlv.1 hlv.2.1 hlv.2.2.1 hlv.2.2.2 h0 (by omega) ⟨o1, o2⟩
      rw [if_pos hml] at hev
      have hok := enter_ok hb ⟨2, M, o⟩ hl (by rw [hev])
      simp only [hev, if_true] at he
      rw [he] at hok ⊢
      refine ⟨by simp [hml, hl], fun _ => ⟨?_, rfl, by unfold villageOk; rw [hok, hr]; rfl⟩⟩
      rw [hm _ hok]
      simp only [dby_append]
      simp only [and_self, if_true, Int.add_zero]
      omega
    · have hno : (evOn v.book.level v.book.room 2 M o).2.2.2.2 = false := by
        by_cases h9 : M ≤ 1000000
        · rw [ev_drink hlv.1 hlv.2.1 hlv.2.2.1 hlv.2.2.2 h0 h9 ⟨o1, o2⟩, if_neg hml]
        · cases h8 : (evOn v.book.level v.book.room 2 M o).2.2.2.2
          · rfl
          · exact absurd (evOn_liters h8).2 h9
      simp only [hno] at he
      rw [he]
      exact ⟨by simp [hml], fun h => by simp at h⟩
  · rw [enter_full hl]
    exact ⟨by simp [hl], fun h => by simp at h⟩
theorem partOf_mono {y z a b : Int} (hf : fracOk y z = true) (h0 : 0 ≤ a) (hab : a ≤ b) (hb : b ≤ 1000000) : partOf y z a ≤ partOf y z b := by
  have hq := fracOk_iff hf
  unfold partOf
  rw [hf, inB_iff.2 ⟨h0, by omega⟩, inB_iff.2 ⟨by omega, hb⟩]
  simp only [Bool.and_self, if_true]
  exact Int.ediv_le_ediv (by omega) (Int.mul_le_mul_of_nonneg_right hab hq.1)
theorem vg_rain {v : Vg} {o w : Int} (hv : villageOk v = true) (ho : hasO v.rights o = true) (h0 : 0 ≤ w) (h1 : w ≤ 255) :
    (vEnter v ⟨1, w, 0⟩).2 = decide (v.book.evs.length < 40) ∧
    ((vEnter v ⟨1, w, 0⟩).2 = true → (vEnter v ⟨1, w, 0⟩).1.book.rained = v.book.rained + w ∧ mayDrink v o ≤ mayDrink (vEnter v ⟨1, w, 0⟩).1 o) := by
  obtain ⟨hb, hr⟩ := vg_ok hv
  obtain ⟨y, z, hy, hz, hf, o1, o2, hm⟩ := may_have hr ho
  have hlv := book_level hb
  have hbd := book_bd hb
  have hd : vEnter v ⟨1, w, 0⟩ = (⟨(enter v.book ⟨1, w, 0⟩).1, v.rights⟩, (enter v.book ⟨1, w, 0⟩).2) := by unfold vEnter; rw [if_pos hv]
  rw [hd]
  by_cases hl : v.book.evs.length < 40
  · have he := enter_book hb ⟨1, w, 0⟩ hl
    have hev := ev_rain (v := v.book.level) (room := v.book.room) (a := w) hlv.1 hlv.2.1 hlv.2.2.1 hlv.2.2.2 h0 (by omega)
    have hok := enter_ok hb ⟨1, w, 0⟩ hl (by rw [hev])
    simp only [hev, if_true] at he
    rw [he] at hok ⊢
    refine ⟨by simp [hl], fun _ => ⟨rfl, ?_⟩⟩
    have hmv := hm v.book hb
    rw [show (⟨v.book, v.rights⟩ : Vg) = v from rfl] at hmv
    rw [hmv, hm _ hok]
    simp only [dby_append]
    have := partOf_mono hf (show 0 ≤ min 1000000 (v.book.start + v.book.rained) by omega) (show min 1000000 (v.book.start + v.book.rained) ≤ min 1000000 (v.book.start + (v.book.rained + w)) by omega) (by omega)
    rw [if_neg (by omega)]
    omega
  · rw [enter_full hl]
    exact ⟨by simp [hl], fun h => by simp at h⟩
theorem vg_leak {v : Vg} (hv : villageOk v = true) :
    (vEnter v ⟨3, v.book.level, 0⟩).2 = decide (v.book.evs.length < 40) ∧ ((vEnter v ⟨3, v.book.level, 0⟩).2 = true → (vEnter v ⟨3, v.book.level, 0⟩).1.book.level = 0) := by
  obtain ⟨hb, hr⟩ := vg_ok hv
  have hlv := book_level hb
  have hd : vEnter v ⟨3, v.book.level, 0⟩ = (⟨(enter v.book ⟨3, v.book.level, 0⟩).1, v.rights⟩, (enter v.book ⟨3, v.book.level, 0⟩).2) := by unfold vEnter; rw [if_pos hv]
  rw [hd]
  by_cases hl : v.book.evs.length < 40
  · have he := enter_book hb ⟨3, v.book.level, 0⟩ hl
    have hev := ev_leak (v := v.book.level) (room := v.book.room) (a := v.book.level) hlv.1 hlv.2.1 hlv.2.2.1 hlv.2.2.2 hlv.1 (by omega)
    rw [if_pos (by omega)] at hev
    simp only [hev, if_true] at he
    rw [he]
    exact ⟨by simp [hl], fun _ => by show v.book.level - v.book.level = 0; omega⟩
  · rw [enter_full hl]
    exact ⟨by simp [hl], fun h => by simp at h⟩
end Go.Proofs.Ytdmgdkeichlccaa
