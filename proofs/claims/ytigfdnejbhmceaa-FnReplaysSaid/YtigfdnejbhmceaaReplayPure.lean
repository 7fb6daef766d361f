/- FnReplays' plain law: a list of numbers with one turned is no replay. -/
import Derived.Test.YtigfdnejbhmceaaRunOk
import Derived.Test.YtigfdnejbhmceaaVillPure
import Derived.Test.YtigfdnejbhmceaaIsReplay
namespace Go.Proofs.Ytigfdnejbhmceaa
set_option linter.unusedSimpArgs false
set_option linter.unusedVariables false
theorem may_le {v : Vg} (hv : villageOk v = true) (o : Int) : 0 ≤ mayDrink v o ∧ mayDrink v o ≤ 100000000000 := by
  cases ho : hasO v.rights o
  · rw [may_not hv ho]; omega
  obtain ⟨hb, hr⟩ := vg_ok hv
  obtain ⟨y, z, hy, hz, hf, o1, o2, hm⟩ := may_have hr ho
  have hmv := hm v.book hb
  rw [show (⟨v.book, v.rights⟩ : Vg) = v from rfl] at hmv
  have hq := fracOk_iff hf
  have hd := dby_bd o v.book.evs (book_liters hb)
  rw [hmv]
  have hp : partOf y z (min 1000000 (v.book.start + v.book.rained)) ≤ 100000000000 := by
    unfold partOf
    split
    · rename_i h9
      simp only [Bool.and_eq_true] at h9
      have h8 := inB_iff.1 h9.2
      obtain ⟨a, ha⟩ : ∃ a, a = min 1000000 (v.book.start + v.book.rained) := ⟨_, rfl⟩
      rw [← ha] at h8 ⊢
      have h7 : a * y ≤ 1000000 * 10000 := Int.mul_le_mul h8.2 hq.2.1 hy (by omega)
      have h6 : 0 ≤ a * y := Int.mul_nonneg h8.1 hy
      have h5 := Int.ediv_le_self z h6
      omega
    · omega
  omega
theorem num_bd {v : Vg} (hv : villageOk v = true) (x y z : Int) : -1 ≤ (doAct v x y z).2 ∧ (doAct v x y z).2 ≤ 100000000000 := by
  have hb : ∀ r : Vg × Bool, -1 ≤ (bi r).2 ∧ (bi r).2 ≤ 100000000000 := fun r => by
    unfold bi; simp only; split <;> omega
  have hm := may_le hv y
  unfold doAct
  by_cases h0 : villageOk v = true ∧ actOk x y z = true
  · rw [if_pos h0]
    by_cases h1 : x = 1
    · rw [if_pos h1]; exact hb _
    rw [if_neg h1]
    by_cases h2 : x = 2
    · rw [if_pos h2]; exact hb _
    rw [if_neg h2]
    by_cases h3 : x = 3
    · rw [if_pos h3]; exact hb _
    rw [if_neg h3]
    by_cases h4 : x = 4
    · rw [if_pos h4]; exact hb _
    rw [if_neg h4]
    by_cases h5 : x = 5
    · rw [if_pos h5]; exact hb _
    rw [if_neg h5]
    exact ⟨by show -1 ≤ mayDrink v y; omega, hm.2⟩
  · rw [if_neg h0]
    exact ⟨by show (-1 : Int) ≤ -1; omega, by show (-1 : Int) ≤ _; omega⟩
theorem nums_bd {v : Vg} (hv : villageOk v = true) (l : List T3) : ∀ k, k ≤ l.length → ∀ n ∈ (runL v (l.take k)).2, -1 ≤ n ∧ n ≤ 100000000000
  | 0, _, n, hn => by simp [runL_nil] at hn
  | k + 1, hk, n, hn => by
    have ha : l[k]? = some l[k] := List.getElem?_eq_getElem (by omega)
    rw [take_snocT ha, runL_snoc] at hn
    simp only at hn
    rcases List.mem_append.1 hn with hn | hn
    · exact nums_bd hv l k (by omega) n hn
    · simp only [List.mem_cons, List.not_mem_nil, or_false] at hn
      rw [hn]
      exact num_bd (runL_keeps hv l k (by omega)) _ _ _
theorem run_nums {v : Vg} (hv : villageOk v = true) {l : List T3} (hl : l.length ≤ 40) : ∀ n ∈ (runActs v l).2, -1 ≤ n ∧ n ≤ 100000000000 := by
  unfold runActs
  rw [if_pos ⟨hv, hl⟩]
  have h1 := nums_bd hv l l.length (Nat.le_refl _)
  rwa [List.take_length] at h1
theorem replay_same {v : Vg} (hv : villageOk v = true) {l : List T3} (hl : l.length ≤ 40) : isReplay v l (runActs v l).2 = true := by
  unfold isReplay; rw [hv, decide_eq_true hl, decide_eq_true rfl]; rfl
theorem replay_no {v : Vg} {l : List T3} {m : List Int} (h : (runActs v l).2 ≠ m) : isReplay v l m = false := by
  unfold isReplay; rw [decide_eq_false h]; simp
theorem set_ne {l : List Int} {k : Nat} {x : Int} (h : l[k]? = some x) : l ≠ l.set k (x + 1) := fun e => by
  have hk := (List.getElem?_eq_some_iff.1 h).1
  have h2 : (l.set k (x + 1))[k]? = some (x + 1) := List.getElem?_set_self hk
  rw [← e, h] at h2
  have := Option.some.inj h2
  omega
end Go.Proofs.Ytigfdnejbhmceaa
