/- FnTop's plain law: what each act leaves. -/
import Derived.Test.YtdmgdkeichlccaaRunOk
import Derived.Test.YtdmgdkeichlccaaVillPure
import Derived.Test.YtdmgdkeichlccaaSame
namespace Go.Proofs.Ytdmgdkeichlccaa
set_option linter.unusedSimpArgs false
set_option linter.unusedVariables false
open Go.RowKit
theorem act_rng {k a b : Int} (h : actOk k a b = true) : (k = 1 ∨ k = 2 ∨ k = 3 ∨ k = 4 ∨ k = 5 ∨ k = 6) ∧ 0 ≤ a ∧ a ≤ 1000 ∧ 0 ≤ b ∧ b ≤ 1000 := by
  unfold actOk at h
  split at h
  · simp only [Bool.and_eq_true, inB_iff, beq_iff_eq] at h; omega
  split at h
  · simp only [Bool.and_eq_true, inB_iff] at h; omega
  split at h
  · simp only [Bool.and_eq_true, inB_iff] at h; omega
  split at h
  · simp only [Bool.and_eq_true, inB_iff] at h; omega
  split at h
  · simp only [Bool.and_eq_true, inB_iff, beq_iff_eq] at h; omega
  · cases h
theorem enter_facts {b : Bk} (h : bookOk b = true) (e : T3) :
    (enter b e).1.drunk = b.drunk + (if (enter b e).2 = true ∧ e.x = 2 then e.y else 0) ∧ ((enter b e).2 = true → (enter b e).1.evs = b.evs ++ [e]) := by
  by_cases hl : b.evs.length < 40
  · cases he : (evOn b.level b.room e.x e.y e.z).2.2.2.2
    · rw [enter_book h e hl, he]; simp
    · rw [enter_book h e hl, he]
      have hd := evOn_drunk he
      simp only [if_true, hd, true_and]
      exact fun _ => trivial
  · rw [enter_full hl]; simp
theorem rights_sum {l : List T3} (h : rightsOk l = true) : sumShares l = (1, 1, true) := by
  unfold rightsOk at h
  obtain ⟨⟨t, b, ok⟩, hs⟩ : ∃ r, sumShares l = r := ⟨_, rfl⟩
  rw [hs] at h ⊢
  simp only [Bool.and_eq_true, beq_iff_eq] at h
  obtain ⟨-, ⟨rfl, rfl⟩, rfl⟩ := h
  rfl
theorem same_self {l : List T3} (h : rightsOk l = true) : sameRights l l = true := by
  unfold sameRights; rw [h]; simp
theorem vEnter_book {v : Vg} (h : villageOk v = true) (e : T3) : vEnter v e = (⟨(enter v.book e).1, v.rights⟩, (enter v.book e).2) := by
  unfold vEnter; rw [if_pos h]
theorem drink_facts {v : Vg} (hv : villageOk v = true) (o n : Int) : (vDrink v o n).1.book.drunk = v.book.drunk + (if (vDrink v o n).2 = true then n else 0) ∧
    ((vDrink v o n).2 = true → n ≤ mayDrink v o ∧ drunkBy (vDrink v o n).1.book o = drunkBy v.book o + n) := by
  have hk := vDrink_keeps hv o n
  unfold vDrink at hk ⊢
  split
  · simp
  · rename_i hm
    rw [if_neg hm] at hk
    have hf := enter_facts (vg_parts hv).1 ⟨2, n, o⟩
    have hbk := (vg_parts hk).1
    rw [vEnter_book hv] at hbk ⊢
    refine ⟨by rw [hf.1]; simp, fun h1 => ⟨by omega, ?_⟩⟩
    rw [drunkBy_eq hbk, drunkBy_eq (vg_parts hv).1]
    simp only at h1 ⊢
    rw [hf.2 h1, dby_append]
    simp
theorem other_drunk {v : Vg} (hv : villageOk v = true) {x y z : Int} (hx : x ≠ 2) : (doAct v x y z).1.book.drunk = v.book.drunk := by
  unfold doAct bi
  by_cases h0 : villageOk v = true ∧ actOk x y z = true
  · rw [if_pos h0]
    by_cases h1 : x = 1
    · rw [if_pos h1, vEnter_book hv]
      show (enter v.book ⟨1, y, 0⟩).1.drunk = _
      rw [(enter_facts (vg_parts hv).1 ⟨1, y, 0⟩).1]; simp
    rw [if_neg h1, if_neg hx]
    by_cases h3 : x = 3
    · rw [if_pos h3, vEnter_book hv]
      show (enter v.book ⟨3, y, 0⟩).1.drunk = _
      rw [(enter_facts (vg_parts hv).1 ⟨3, y, 0⟩).1]; simp
    rw [if_neg h3]
    by_cases h4 : x = 4
    · rw [if_pos h4]; unfold vSell; rw [if_pos hv]
    rw [if_neg h4]
    by_cases h5 : x = 5
    · rw [if_pos h5]; unfold vPass; rw [if_pos hv]
    rw [if_neg h5]
  · rw [if_neg h0]
theorem rights_level {v : Vg} (hv : villageOk v = true) {x y z : Int} (hx : x = 4 ∨ x = 5) : (doAct v x y z).1.book.level = v.book.level := by
  unfold doAct bi
  by_cases h0 : villageOk v = true ∧ actOk x y z = true
  · rw [if_pos h0, if_neg (by omega), if_neg (by omega), if_neg (by omega)]
    by_cases h4 : x = 4
    · rw [if_pos h4]; unfold vSell; rw [if_pos hv]
    rw [if_neg h4, if_pos (by omega)]
    unfold vPass; rw [if_pos hv]
  · rw [if_neg h0]
theorem may_number {v : Vg} (hv : villageOk v = true) {y z : Int} (ha : actOk 6 y z = true) : (doAct v 6 y z).2 = mayDrink v y := by
  unfold doAct
  rw [if_pos ⟨hv, ha⟩]; rfl
theorem act_drink {v : Vg} (hv : villageOk v = true) {y z : Int} (ha : actOk 2 y z = true) (h1 : (doAct v 2 y z).2 = 1) :
    z ≤ mayDrink v y ∧ (doAct v 2 y z).1.book.drunk = v.book.drunk + z ∧ drunkBy (doAct v 2 y z).1.book y = drunkBy v.book y + z := by
  have hd : doAct v 2 y z = bi (vDrink v y z) := by unfold doAct; rw [if_pos ⟨hv, ha⟩]; rfl
  rw [hd] at h1 ⊢
  unfold bi at h1 ⊢
  have hok : (vDrink v y z).2 = true := by
    cases h : (vDrink v y z).2
    · rw [h] at h1; simp at h1
    · rfl
  have hf := drink_facts hv y z
  rw [hok] at hf
  exact ⟨(hf.2 rfl).1, by simpa using hf.1, (hf.2 rfl).2⟩
/-- All that the law asks of one act. -/
theorem act_law {v : Vg} (hv : villageOk v = true) {x y z : Int} (ha : actOk x y z = true) :
    villageOk (doAct v x y z).1 = true ∧ (doAct v x y z).1.book.start + (doAct v x y z).1.book.rained = (doAct v x y z).1.book.level + (doAct v x y z).1.book.drunk + (doAct v x y z).1.book.lost ∧
    sumShares (doAct v x y z).1.rights = (1, 1, true) ∧ sameRights (doAct v x y z).1.rights (doAct v x y z).1.rights = true ∧
    ((doAct v x y z).2 = 1 → x = 2 → z ≤ mayDrink v y ∧ (doAct v x y z).1.book.drunk = v.book.drunk + z ∧ drunkBy (doAct v x y z).1.book y = drunkBy v.book y + z) ∧
    (x = 6 → (doAct v x y z).2 = mayDrink v y) ∧ (x ≠ 2 → (doAct v x y z).1.book.drunk = v.book.drunk) ∧ (x = 4 ∨ x = 5 → (doAct v x y z).1.book.level = v.book.level) := by
  have hk := doAct_keeps hv x y z
  exact ⟨hk, book_balance (vg_parts hk).1, rights_sum (vg_parts hk).2, same_self (vg_parts hk).2, fun h1 h2 => by subst h2; exact act_drink hv ha h1, fun h => by subst h; exact may_number hv ha, fun h => other_drunk hv h, fun h => rights_level hv h⟩
theorem CountOwners_any (A : Option Addr) (c : Nat) (l : List T3) (w : World) (h : RdT w w.heap.size A c l) (hr : rightsOk l = true) :
    Calls Try.prog 14 #[.slice A l.length c] w fun e w' => e = .returned (.int .i64 l.length) ∧ Below w.heap.size w w' := by
  have H1 := Lib.hid (RightsOk_any A c l w h)
  rw [hr] at H1
  have hB := Below.refl w.heap.size w
  clear hr
  go_enter Try.func14, Try.ntmps14
  go_wp2_with fail
  refine H1.out.mono ?_
  rintro e w1 ⟨rfl, hb⟩
  replace hB := hB.trans (Below.mono hb hB.size)
  have hz_w1 : w.heap.size ≤ w1.heap.size := Below.size hb
  clear hb
  go_wp2_with fail
  go_ret
  exact ⟨rfl, hB⟩
end Go.Proofs.Ytdmgdkeichlccaa
