/- The queue's law in plain Lean. -/
import Derived.Test.YtljidaniidfdoaaTwo
import Derived.Test.YtljidaniidfdoaaLast2
import Derived.Test.YtljidaniidfdoaaSwap
namespace Go.Proofs.Ytljidaniidfdoaa
open Go.RowKit
set_option maxRecDepth 20000
/-- The waits of a queue of times. -/
def pw : Int → List Int → Int
  | _, [] => 0
  | now, t :: l => now + pw (now + t) l
theorem pw_cons (now t : Int) (l : List Int) : pw now (t :: l) = now + pw (now + t) l := rfl
theorem pw_nonneg : ∀ (l : List Int) (now : Int), 0 ≤ now → (∀ x ∈ l, 0 ≤ x) → 0 ≤ pw now l
  | [], _, _, _ => Int.le_refl _
  | t :: l, now, h0, h => by
    have := h t (by simp)
    have := pw_nonneg l (now + t) (by omega) (fun x hx => h x (by simp [hx]))
    rw [pw_cons]; omega
theorem pw_swap (a b : Int) (s : List Int) : ∀ (p : List Int) (now : Int), pw now (p ++ a :: b :: s) - pw now (p ++ b :: a :: s) = a - b
  | [], now => by
    simp only [List.nil_append, pw_cons]
    rw [show now + a + b = now + b + a by omega]; omega
  | t :: p, now => by
    have := pw_swap a b s p (now + t)
    simp only [List.cons_append, pw_cons]; omega
theorem pw_left (x : Int) (s : List Int) : ∀ (ys : List Int) (now : Int), (∀ y ∈ ys, x ≤ y) → pw now (x :: ys ++ s) ≤ pw now (ys ++ x :: s)
  | [], _, _ => Int.le_refl _
  | y :: ys, now, h => by
    have h1 := pw_left x s ys (now + y) (fun z hz => h z (by simp [hz]))
    have h2 := h y (by simp)
    simp only [List.cons_append, pw_cons] at h1 ⊢
    rw [show now + x + y = now + y + x by omega]; omega
theorem pw_pre (s s' : List Int) (h : ∀ now, pw now s ≤ pw now s') : ∀ (p : List Int) (now : Int), pw now (p ++ s) ≤ pw now (p ++ s')
  | [], now => h now
  | t :: p, now => by
    have := pw_pre s s' h p (now + t)
    simp only [List.cons_append, pw_cons]; omega
theorem pw_ins (pre s : List Int) (x : Int) (now : Int) : pw now (insr ltI pre x ++ s) ≤ pw now (pre ++ x :: s) := by
  have hp := (posI_spec pre x pre.length (Nat.le_refl _)).1
  have hle := posGo_le ltI pre x pre.length
  unfold insr putAt
  generalize posGo ltI pre x pre.length = q at *
  have e : pre ++ x :: s = pre.take q ++ (pre.drop q ++ x :: s) := by rw [← List.append_assoc, List.take_append_drop]
  rw [e, List.append_assoc]
  refine pw_pre _ _ (fun now => ?_) _ _
  rw [List.cons_append, ← List.cons_append]
  refine pw_left x s (pre.drop q) now ?_
  intro y hy
  obtain ⟨j, hj, rfl⟩ := List.mem_iff_getElem.1 hy
  rw [List.length_drop] at hj
  rw [List.getElem_drop]
  have := hp (q + j) pre[q + j] (by omega) (by omega) (List.getElem?_eq_getElem (by omega))
  omega
theorem pw_sort : ∀ (l acc : List Int) (now : Int), pw now (l.foldl (insr ltI) acc) ≤ pw now (acc ++ l)
  | [], acc, now => by simp
  | x :: l, acc, now => by
    have h1 := pw_sort l (insr ltI acc x) now
    have h2 := pw_ins acc l x now
    exact Int.le_trans h1 h2
/-! ### orders -/
theorem posGo_map (t : List Int) (pre : List Int) (x : Int) : ∀ p, p ≤ pre.length → posGo (ltT t) pre x p = posGo ltI (pre.map fun i => t.getD i.toNat 0) (t.getD x.toNat 0) p
  | 0, _ => rfl
  | p + 1, hp => by
    rw [posGo_succ, posGo_succ, posGo_map t pre x p (by omega)]
    have e : (pre.map fun i => t.getD i.toNat 0).getD p 0 = t.getD (pre.getD p 0).toNat 0 := by
      rw [List.getD_eq_getElem?_getD, List.getElem?_map, List.getElem?_eq_getElem (show p < pre.length by omega)]
      rw [List.getD_eq_getElem?_getD (l := pre), List.getElem?_eq_getElem (show p < pre.length by omega)]
      rfl
    rw [e]; rfl
theorem insr_map (t pre : List Int) (x : Int) : (insr (ltT t) pre x).map (fun i => t.getD i.toNat 0) = insr ltI (pre.map fun i => t.getD i.toNat 0) (t.getD x.toNat 0) := by
  unfold insr putAt
  rw [List.map_append, List.map_cons, List.map_take, List.map_drop, posGo_map t pre x _ (Nat.le_refl _), List.length_map]
theorem insAll_map (t : List Int) : ∀ (l acc : List Int), (l.foldl (insr (ltT t)) acc).map (fun i => t.getD i.toNat 0) = (l.map fun i => t.getD i.toNat 0).foldl (insr ltI) (acc.map fun i => t.getD i.toNat 0)
  | [], _ => rfl
  | x :: l, acc => by
    rw [List.foldl_cons, insAll_map t l, insr_map]; rfl
theorem upto_map (t : List Int) : (upto t.length).map (fun i => t.getD i.toNat 0) = t := by
  apply List.ext_getElem?
  intro i
  rw [List.getElem?_map]
  by_cases h : i < t.length
  · rw [upto_get h, List.getElem?_eq_getElem h]
    simp [List.getD_eq_getElem?_getD, List.getElem?_eq_getElem h]
  · rw [List.getElem?_eq_none (by rw [upto_len]; omega), List.getElem?_eq_none (by omega)]; rfl
theorem best_times {t : List Int} (h : queueOk t = true) : (bestQueue t).map (fun i => t.getD i.toNat 0) = t.mergeSort leI := by
  unfold bestQueue
  rw [if_pos h]
  have := insAll_map t (upto t.length) []
  rw [upto_map] at this
  rw [← insAll_sort]
  exact this
/-- The wait of an order without repeats. -/
theorem waitGo_pw (t : List Int) : ∀ (o : List Int) (seen : List Bool) (now n : Int), o.Nodup → (∀ i ∈ o, 0 ≤ i ∧ i < t.length ∧ seen.getD i.toNat false = false) → waitGo t o seen now n = n + pw now (o.map fun i => t.getD i.toNat 0)
  | [], _, _, n, _, _ => by simp [waitGo, pw]
  | i :: o, seen, now, n, hd, h => by
    obtain ⟨h1, h2, h3⟩ := h i (by simp)
    rw [List.nodup_cons] at hd
    rw [waitGo_cons, inB_iff.2 ⟨h1, by omega⟩, h3, Bool.not_false, Bool.and_self, if_pos rfl, waitGo_pw t o _ _ _ hd.2 (fun j hj => ?_)]
    · rw [List.map_cons, pw_cons]; omega
    · obtain ⟨g1, g2, g3⟩ := h j (by simp [hj])
      refine ⟨g1, g2, ?_⟩
      have hne : i ≠ j := fun e => hd.1 (e ▸ hj)
      rw [List.getD_eq_getElem?_getD, List.getElem?_set, if_neg (by omega), ← List.getD_eq_getElem?_getD]
      exact g3
theorem wait_pw {t o : List Int} (h : queueOk t = true) (ho : o.Perm (upto t.length)) : waitOf t o = pw 0 (o.map fun i => t.getD i.toNat 0) := by
  rw [waitOf_yes h (by rw [ho.length_eq, upto_len]), waitGo_pw t o _ _ _ (ho.nodup_iff.2 (upto_nodup _)) (fun i hi => ?_)]
  · omega
  · obtain ⟨k, rfl, hk⟩ := upto_mem (ho.mem_iff.1 hi)
    refine ⟨by omega, by omega, ?_⟩
    rw [List.getD_eq_getElem?_getD, List.getElem?_replicate]
    simp [hk]
theorem swapped_split (p s : List Int) (a b : Int) : swapped (p ++ a :: b :: s) p.length = p ++ b :: a :: s := by
  unfold swapped
  have e1 : (p ++ a :: b :: s).getD (p.length + 1) 0 = b := by
    rw [List.getD_eq_getElem?_getD, List.getElem?_append_right (by omega), show p.length + 1 - p.length = 1 by omega]; rfl
  have e2 : (p ++ a :: b :: s).getD p.length 0 = a := by
    rw [List.getD_eq_getElem?_getD, List.getElem?_append_right (by omega), Nat.sub_self]; rfl
  rw [e1, e2, List.set_append_right _ _ (by omega), Nat.sub_self, List.set_cons_zero, List.set_append_right _ _ (by omega), show p.length + 1 - p.length = 1 by omega]
  rfl
theorem split2 {o : List Int} {k : Nat} (hk : k + 1 < o.length) : ∃ (p s : List Int) (a b : Int), o = p ++ a :: b :: s ∧ p.length = k ∧ o[k]? = some a ∧ o[k + 1]? = some b := by
  refine ⟨o.take k, o.drop (k + 2), o[k], o[k + 1], ?_, by rw [List.length_take]; omega, List.getElem?_eq_getElem _, List.getElem?_eq_getElem _⟩
  conv => lhs; rw [← List.take_append_drop k o, List.drop_eq_getElem_cons (show k < o.length by omega), List.drop_eq_getElem_cons hk]
theorem swap_saves {t o : List Int} (h : queueOk t = true) (h0 : ∀ x ∈ t, 0 ≤ x) (ho : o.Perm (upto t.length)) {k : Nat} (hk : k + 1 < o.length) : ∃ a b, o[k]? = some a ∧ o[k + 1]? = some b ∧ swapSaves t o k = t.getD a.toNat 0 - t.getD b.toNat 0 := by
  obtain ⟨p, s, a, b, he, hp, ha, hb⟩ := split2 hk
  refine ⟨a, b, ha, hb, ?_⟩
  have hw := wait_pw h ho
  have hn : 0 ≤ waitOf t o := by
    rw [hw]
    refine pw_nonneg _ _ (Int.le_refl _) ?_
    intro x hx
    obtain ⟨i, hi, rfl⟩ := List.mem_map.1 hx
    obtain ⟨j, rfl, hj⟩ := upto_mem (ho.mem_iff.1 hi)
    rw [Int.toNat_natCast, List.getD_eq_getElem?_getD, List.getElem?_eq_getElem hj]
    exact h0 _ (List.getElem_mem hj)
  have hq : (swapped o k).Perm (upto t.length) := by
    rw [he, ← hp, swapped_split]
    refine List.Perm.trans ?_ (he ▸ ho)
    exact List.Perm.append_left p (List.Perm.swap a b s)
  unfold swapSaves
  rw [if_pos ⟨hn, inB_iff.2 ⟨by omega, by omega⟩⟩, Int.toNat_natCast, hw, wait_pw h hq, he, ← hp, swapped_split]
  simp only [List.map_append, List.map_cons]
  exact pw_swap _ _ _ _ _
theorem best_swap {t : List Int} (h : queueOk t = true) (h0 : ∀ x ∈ t, 0 ≤ x) {k : Nat} (hk : k + 1 < (bestQueue t).length) : swapSaves t (bestQueue t) k ≤ 0 := by
  obtain ⟨a, b, ha, hb, he⟩ := swap_saves h h0 (bestQueue_perm h) hk
  have hs := sort_asc t
  rw [← best_times h] at hs
  have := asc_le hs (Nat.le_succ k) (x := t.getD a.toNat 0) (y := t.getD b.toNat 0) (by rw [List.getElem?_map, ha]; rfl) (by rw [List.getElem?_map, hb]; rfl)
  omega
theorem best_wait {t : List Int} (h : queueOk t = true) (h0 : ∀ x ∈ t, 0 ≤ x) : 0 ≤ waitOf t (bestQueue t) ∧ waitOf t (bestQueue t) ≤ waitOf t (upto t.length) := by
  rw [wait_pw h (bestQueue_perm h), wait_pw h (List.Perm.refl _), upto_map, best_times h, ← insAll_sort]
  refine ⟨pw_nonneg _ _ (Int.le_refl _) (fun x hx => h0 x ((insAll_mem _ _ _).1 hx)), pw_sort t [] 0⟩
theorem own_swap {t : List Int} (h : queueOk t = true) (h0 : ∀ x ∈ t, 0 ≤ x) (hl : 1 < t.length) : swapSaves t (upto t.length) 0 = t.getD 0 0 - t.getD 1 0 := by
  obtain ⟨a, b, ha, hb, he⟩ := swap_saves h h0 (List.Perm.refl _) (k := 0) (by rw [upto_len]; omega)
  rw [upto_get (by omega)] at ha
  rw [upto_get (by omega)] at hb
  obtain rfl := Option.some.inj ha
  obtain rfl := Option.some.inj hb
  exact he
/-! ### two wells -/
/-- What stands at wells of number u. -/
def part (t out : List Int) (u : Int) : List Int → Int
  | [] => 0
  | i :: o => (if out.getD i.toNat 0 = u then t.getD i.toNat 0 else 0) + part t out u o
theorem part_cons (t out : List Int) (u i : Int) (o : List Int) : part t out u (i :: o) = (if out.getD i.toNat 0 = u then t.getD i.toNat 0 else 0) + part t out u o := rfl
theorem part_perm (t out : List Int) (u : Int) {o o' : List Int} (h : o.Perm o') : part t out u o = part t out u o' := by
  induction h with
  | nil => rfl
  | cons x _ ih => rw [part_cons, part_cons, ih]
  | swap x y l => simp only [part_cons]; omega
  | trans _ _ h1 h2 => exact h1.trans h2
/-- What the two wells' walk leaves: r, from f0 and f1 on. -/
def TwoP (t : List Int) (M : Int) (o out : List Int) (f0 f1 : Int) (r : List Int × Int × Int) : Prop :=
  r.2.1 = f0 + part t r.1 0 o ∧ r.2.2 = f1 + part t r.1 1 o ∧ (∀ i ∈ o, r.1.getD i.toNat 0 = 0 ∨ r.1.getD i.toNat 0 = 1) ∧ (∀ j : Nat, (j : Int) ∉ o → r.1.getD j 0 = out.getD j 0) ∧ r.2.1 - r.2.2 ≤ M ∧ r.2.2 - r.2.1 ≤ M
theorem two_spec (t : List Int) (M : Int) (hM : ∀ i : Nat, 0 ≤ t.getD i 0 ∧ t.getD i 0 ≤ M) : ∀ (o out : List Int) (f0 f1 : Int), o.Nodup → (∀ i ∈ o, 0 ≤ i ∧ i < out.length) → 0 ≤ M → f0 - f1 ≤ M → f1 - f0 ≤ M → TwoP t M o out f0 f1 (twoGo t o out f0 f1)
  | [], out, f0, f1, _, _, _, h1, h2 => ⟨by simp [twoGo, part], by simp [twoGo, part], by simp, fun _ _ => rfl, h1, h2⟩
  | i :: o, out, f0, f1, hd, hr, h0, h1, h2 => by
    rw [List.nodup_cons] at hd
    have hi := hr i (by simp)
    have hm := hM i.toNat
    have key : ∀ (u g0 g1 : Int), g0 - g1 ≤ M → g1 - g0 ≤ M → (u = 0 ∨ u = 1) → twoGo t (i :: o) out f0 f1 = twoGo t o (out.set i.toNat u) g0 g1 → g0 = f0 + (if u = 0 then t.getD i.toNat 0 else 0) → g1 = f1 + (if u = 1 then t.getD i.toNat 0 else 0) → TwoP t M (i :: o) out f0 f1 (twoGo t (i :: o) out f0 f1) := by
      intro u g0 g1 k1 k2 ku e e0 e1
      obtain ⟨r1, r2, r3, r4, r5, r6⟩ := two_spec t M hM o (out.set i.toNat u) g0 g1 hd.2 (fun j hj => by have := hr j (by simp [hj]); rw [List.length_set]; exact this) h0 k1 k2
      have hiv : (twoGo t o (out.set i.toNat u) g0 g1).1.getD i.toNat 0 = u := by
        rw [r4 i.toNat (by rw [Int.toNat_of_nonneg hi.1]; exact hd.1), List.getD_eq_getElem?_getD, List.getElem?_set, if_pos rfl, if_pos (by omega)]; rfl
      rw [e]
      refine ⟨?_, ?_, ?_, ?_, r5, r6⟩
      · rw [r1, part_cons, hiv, e0]; omega
      · rw [r2, part_cons, hiv, e1]; omega
      · intro j hj
        rcases List.mem_cons.1 hj with rfl | hj
        · rw [hiv]; exact ku
        · exact r3 j hj
      · intro j hj
        rw [List.mem_cons, not_or] at hj
        rw [r4 j hj.2, List.getD_eq_getElem?_getD, List.getElem?_set, if_neg (by omega), ← List.getD_eq_getElem?_getD]
    by_cases hlt : f1 < f0
    · exact key 1 f0 (f1 + t.getD i.toNat 0) (by omega) (by omega) (.inr rfl) (by rw [twoGo_cons, if_pos hlt]) (by simp) (by simp)
    · exact key 0 (f0 + t.getD i.toNat 0) f1 (by omega) (by omega) (.inl rfl) (by rw [twoGo_cons, if_neg hlt]) (by simp) (by simp)
/-! ### sums over the first k -/
def loadK (t out : List Int) (u : Int) (k : Nat) : Int := part t out u (upto k)
theorem part_snoc (t out : List Int) (u i : Int) : ∀ o : List Int, part t out u (o ++ [i]) = part t out u o + (if out.getD i.toNat 0 = u then t.getD i.toNat 0 else 0)
  | [] => by simp [part]
  | j :: o => by rw [List.cons_append, part_cons, part_cons, part_snoc t out u i o]; omega
theorem loadK_succ (t out : List Int) (u : Int) (k : Nat) : loadK t out u (k + 1) = loadK t out u k + (if out.getD k 0 = u then t.getD k 0 else 0) := by
  unfold loadK
  rw [upto_succ, part_snoc, Int.toNat_natCast]
def mostK (t : List Int) : Nat → Int
  | 0 => 0
  | k + 1 => max (mostK t k) (t.getD k 0)
def allK (t : List Int) : Nat → Int
  | 0 => 0
  | k + 1 => allK t k + t.getD k 0
theorem allK_sum (t : List Int) : ∀ k, k ≤ t.length → allK t k = sumI (t.take k)
  | 0, _ => rfl
  | k + 1, h => by
    have hx : t[k]? = some t[k] := List.getElem?_eq_getElem (by omega)
    rw [take_snocL _ _ _ hx, sumI_snoc, ← allK_sum t k (by omega)]
    simp only [allK]
    rw [List.getD_eq_getElem?_getD, hx]; rfl
theorem mostK_ge (t : List Int) : ∀ n k, k < n → t.getD k 0 ≤ mostK t n
  | n + 1, k, h => by
    simp only [mostK]
    rcases Nat.lt_succ_iff_lt_or_eq.1 h with h1 | rfl
    · have := mostK_ge t n k h1; omega
    · omega
theorem mostK_nonneg (t : List Int) : ∀ n, 0 ≤ mostK t n
  | 0 => Int.le_refl _
  | n + 1 => by have := mostK_nonneg t n; simp only [mostK]; omega
theorem mostK_bd (t : List Int) (h : ∀ i : Nat, t.getD i 0 ≤ 100) : ∀ n, mostK t n ≤ 100
  | 0 => by simp [mostK]
  | n + 1 => by have := mostK_bd t h n; have := h n; simp only [mostK]; omega
theorem mostK_is (t : List Int) : ∀ n, mostK t n = 0 ∨ ∃ k, k < n ∧ mostK t n = t.getD k 0
  | 0 => .inl rfl
  | n + 1 => by
    simp only [mostK]
    rcases Int.le_total (mostK t n) (t.getD n 0) with h | h
    · exact .inr ⟨n, by omega, by omega⟩
    · rcases mostK_is t n with h1 | ⟨k, h1, h2⟩
      · exact .inl (by omega)
      · exact .inr ⟨k, by omega, by omega⟩
theorem load_all (t out : List Int) (h : ∀ k : Nat, out.getD k 0 = 0 ∨ out.getD k 0 = 1) : ∀ k, loadK t out 0 k + loadK t out 1 k = allK t k
  | 0 => rfl
  | k + 1 => by
    have := load_all t out h k
    rw [loadK_succ, loadK_succ]
    simp only [allK]
    rcases h k with h | h <;> rw [h] <;> simp <;> omega
theorem load_nonneg (t out : List Int) (u : Int) (h : ∀ i : Nat, 0 ≤ t.getD i 0 ∧ t.getD i 0 ≤ 100) : ∀ k, 0 ≤ loadK t out u k ∧ loadK t out u k ≤ 100 * k
  | 0 => ⟨Int.le_refl _, by simp [loadK, upto, part]⟩
  | k + 1 => by
    have := load_nonneg t out u h k
    have := h k
    rw [loadK_succ]
    split <;> omega
/-- A set of bits for any choice. -/
def setOf (f : Nat → Bool) : Nat → Nat
  | 0 => 0
  | n + 1 => setOf f n + (if f n then 2 ^ n else 0)
theorem setOf_lt (f : Nat → Bool) : ∀ n, setOf f n < 2 ^ n
  | 0 => by simp [setOf]
  | n + 1 => by
    have := setOf_lt f n
    rw [Nat.pow_succ]
    simp only [setOf]
    split <;> omega
theorem setOf_succ (f : Nat → Bool) (n : Nat) : setOf f (n + 1) = setOf f n + (if f n then 2 ^ n else 0) := rfl
theorem setOf_mod (f : Nat → Bool) : ∀ n k, k < n → (setOf f n / 2 ^ k % 2 = 1 ↔ f k = true)
  | n + 1, k, h => by
    have hl := setOf_lt f n
    have hp : 0 < 2 ^ n := Nat.pow_pos (by decide)
    rw [setOf_succ]
    rcases Nat.lt_succ_iff_lt_or_eq.1 h with h1 | rfl
    · rw [← setOf_mod f n k h1]
      by_cases hfn : f n = true
      case neg => rw [if_neg hfn, Nat.add_zero]
      · obtain ⟨d, hd⟩ : ∃ d, n = k + 1 + d := ⟨n - (k + 1), by omega⟩
        have e : 2 ^ n = 2 ^ k * (2 * 2 ^ d) := by rw [hd, Nat.pow_add, Nat.pow_succ, Nat.mul_assoc]
        rw [if_pos hfn, e, Nat.add_mul_div_left _ _ (Nat.pow_pos (by decide)), Nat.add_mul_mod_self_left]
    · by_cases hf : f k = true
      · rw [if_pos hf, Nat.add_div_right _ hp, Nat.div_eq_of_lt hl, hf]; simp
      · rw [if_neg hf, Nat.add_zero, Nat.div_eq_of_lt hl]; simp [hf]
theorem setOf_bit (f : Nat → Bool) (n k : Nat) (h : k < n) : bitI (setOf f n) k = f k := by
  have := setOf_mod f n k h
  unfold bitI
  cases hf : f k
  · rw [hf] at this; simpa using this
  · rw [hf] at this; simpa using this
theorem pick_load (t out : List Int) (s : Nat) : ∀ k, (∀ j, j < k → bitI s j = decide (out.getD j 0 = 1)) → pick t s k = loadK t out 1 k
  | 0, _ => rfl
  | k + 1, h => by
    rw [pick_succ, loadK_succ, pick_load t out s k (fun j hj => h j (by omega)), h k (by omega)]
    by_cases h1 : out.getD k 0 = 1 <;> simp [h1]
theorem pick_le (t : List Int) (s : Nat) (h : ∀ i : Nat, 0 ≤ t.getD i 0) : ∀ k, 0 ≤ pick t s k ∧ pick t s k ≤ allK t k ∧ ∀ j, j < k → t.getD j 0 ≤ max (pick t s k) (allK t k - pick t s k)
  | 0 => ⟨Int.le_refl _, Int.le_refl _, fun j hj => absurd hj (by omega)⟩
  | k + 1 => by
    obtain ⟨h1, h2, h3⟩ := pick_le t s h k
    have h4 := h k
    rw [pick_succ]
    simp only [allK]
    cases hb : bitI s k
    · simp only [Bool.false_eq_true, if_false]
      refine ⟨by omega, by omega, fun j hj => ?_⟩
      rcases Nat.lt_succ_iff_lt_or_eq.1 hj with h5 | rfl
      · have := h3 j h5; omega
      · omega
    · simp only [if_true]
      refine ⟨by omega, by omega, fun j hj => ?_⟩
      rcases Nat.lt_succ_iff_lt_or_eq.1 hj with h5 | rfl
      · have := h3 j h5; omega
      · omega
theorem last_le (t : List Int) : ∀ (f s : Nat) (b : Int), lastGo t f s b ≤ b ∧ ∀ i, i < f → lastGo t f s b ≤ max (pick t (s + i) t.length) (sumI t - pick t (s + i) t.length)
  | 0, _, b => ⟨Int.le_refl _, fun i hi => absurd hi (by omega)⟩
  | f + 1, s, b => by
    rw [lastGo_succ]
    obtain ⟨h1, h2⟩ := last_le t f (s + 1) (min b (max (pick t s t.length) (sumI t - pick t s t.length)))
    refine ⟨by omega, fun i hi => ?_⟩
    rcases i with _ | i
    · have e0 : s + 0 = s := rfl
      rw [e0]; omega
    · have := h2 i (by omega)
      rw [show s + 1 + i = s + (i + 1) by omega] at this
      exact this
theorem last_ge (t : List Int) (c : Int) (h : ∀ s : Nat, c ≤ max (pick t s t.length) (sumI t - pick t s t.length)) : ∀ (f s : Nat) (b : Int), c ≤ b → c ≤ lastGo t f s b
  | 0, _, b, hb => hb
  | f + 1, s, b, hb => by
    rw [lastGo_succ]
    exact last_ge t c h f (s + 1) _ (by have := h s; omega)
/-- What the law asks of two wells. -/
theorem two_law {t : List Int} (h : queueOk t = true) : ∃ (w : List Int) (e : Int), twoWells t = (w, e) ∧ w.length = t.length ∧ (∀ k : Nat, w.getD k 0 = 0 ∨ w.getD k 0 = 1) ∧ e = max (loadK t w 0 t.length) (loadK t w 1 t.length) ∧ lastDone t ≤ e ∧ allK t t.length ≤ 2 * lastDone t ∧ mostK t t.length ≤ lastDone t ∧ e ≤ allK t t.length ∧ 2 * e ≤ allK t t.length + mostK t t.length := by
  obtain ⟨hall, h12⟩ := queueOk_iff h
  have hr : ∀ i : Nat, 0 ≤ t.getD i 0 ∧ t.getD i 0 ≤ mostK t t.length := fun i => by
    by_cases hi : i < t.length
    · have := allIn_mem hall (List.getElem?_eq_getElem hi)
      have h2 := mostK_ge t t.length i hi
      rw [List.getD_eq_getElem?_getD, List.getElem?_eq_getElem hi] at *
      exact ⟨by show 0 ≤ t[i]; omega, h2⟩
    · rw [List.getD_eq_getElem?_getD, List.getElem?_eq_none (by omega)]
      exact ⟨Int.le_refl _, mostK_nonneg t _⟩
  have hbp := bestQueue_perm h
  have hsp := two_spec t (mostK t t.length) hr (bestQueue t) (List.replicate t.length 0) 0 0 (bestQueue_nodup h) (fun i hi => by obtain ⟨k, rfl, hk⟩ := bestQueue_mem hi; rw [List.length_replicate]; omega) (mostK_nonneg t _) (by have := mostK_nonneg t t.length; omega) (by have := mostK_nonneg t t.length; omega)
  obtain ⟨s1, s2, s3, s4, s5, s6⟩ := hsp
  have hw : (twoGo t (bestQueue t) (List.replicate t.length 0) 0 0).1.length = t.length := by rw [twoGo_len, List.length_replicate]
  obtain ⟨w, g0, g1, hE⟩ : ∃ w g0 g1, twoGo t (bestQueue t) (List.replicate t.length 0) 0 0 = (w, g0, g1) := ⟨_, _, _, rfl⟩
  rw [hE] at s1 s2 s3 s4 s5 s6 hw
  simp only at s1 s2 s3 s4 s5 s6 hw
  have hbit : ∀ k : Nat, w.getD k 0 = 0 ∨ w.getD k 0 = 1 := fun k => by
    by_cases hk : (k : Int) ∈ bestQueue t
    · simpa using s3 _ hk
    · rw [s4 k hk]; left; simp [List.getD_eq_getElem?_getD, List.getElem?_replicate]; split <;> rfl
  have e0 : g0 = loadK t w 0 t.length := by rw [s1, part_perm t w 0 hbp]; unfold loadK; omega
  have e1 : g1 = loadK t w 1 t.length := by rw [s2, part_perm t w 1 hbp]; unfold loadK; omega
  have hsum := load_all t w hbit t.length
  have hall2 : allK t t.length = sumI t := by rw [allK_sum t _ (Nat.le_refl _), List.take_length]
  have hn0 : ∀ i : Nat, 0 ≤ t.getD i 0 := fun i => (hr i).1
  have hnn : ∀ (u : Int) k, 0 ≤ loadK t w u k := by
    intro u k
    induction k with
    | zero => exact Int.le_refl _
    | succ k ih => rw [loadK_succ]; have := hn0 k; split <;> omega
  have p0 := hnn 0 t.length
  have p1 := hnn 1 t.length
  refine ⟨w, max g0 g1, ?_, hw, hbit, by rw [e0, e1], ?_, ?_, ?_, by omega, by omega⟩
  · unfold twoWells; rw [if_pos h, hE]
  · unfold lastDone
    rw [if_pos h]
    have := (last_le t (2 ^ t.length) 0 (sumI t)).2 (setOf (fun k => decide (w.getD k 0 = 1)) t.length) (setOf_lt _ _)
    rw [Nat.zero_add, pick_load t w _ t.length (fun j hj => setOf_bit _ _ j hj)] at this
    omega
  · unfold lastDone
    rw [if_pos h]
    have hp := fun s : Nat => pick_le t s hn0 t.length
    -- twice the best is at least all
    have key : ∀ (f s : Nat) (b : Int), sumI t ≤ 2 * b → sumI t ≤ 2 * lastGo t f s b := by
      intro f
      induction f with
      | zero => intro s b hb; exact hb
      | succ f ih => intro s b hb; rw [lastGo_succ]; exact ih _ _ (by omega)
    have h9 := (hp 0)
    have := key (2 ^ t.length) 0 (sumI t) (by omega)
    rw [hall2]
    exact this
  · unfold lastDone
    rw [if_pos h]
    refine last_ge t _ (fun s => ?_) _ _ _ ?_
    · obtain ⟨h1, h2, h3⟩ := pick_le t s hn0 t.length
      rcases mostK_is t t.length with h4 | ⟨k, h4, h5⟩
      · omega
      · have := h3 k h4; omega
    · obtain ⟨h1, h2, h3⟩ := pick_le t 0 hn0 t.length
      rcases mostK_is t t.length with h4 | ⟨k, h4, h5⟩
      · omega
      · have := h3 k h4; omega
theorem wait_more {t o : List Int} (h : o.length = t.length + 1) : waitOf t o = -1 := waitOf_no (.inr (by omega))
end Go.Proofs.Ytljidaniidfdoaa
