/- The n least numbers, chosen one after another, are the first n of a stable sort: plain lists. -/
import Derived.Test.YtonlfkofiljboaaSrt
namespace Go.Proofs.Ytonlfkofiljboaa
open Go.RowKit
/-- a stands ahead of b: the greater number first, then the lesser index. -/
def bef (rs : List Int) (a b : Int) : Prop := rs.getD b.toNat 0 < rs.getD a.toNat 0 ∨ (rs.getD b.toNat 0 = rs.getD a.toNat 0 ∧ a < b)
def ltR (rs : List Int) (x y : Int) : Bool := decide (rs.getD y.toNat 0 < rs.getD x.toNat 0)
theorem bef_trans {rs : List Int} {a b c : Int} (h1 : bef rs a b) (h2 : bef rs b c) : bef rs a c := by
  unfold bef at *; omega
theorem bef_irrefl {rs : List Int} {a : Int} : ¬ bef rs a a := by unfold bef; omega
theorem bef_total {rs : List Int} {a b : Int} (h : a ≠ b) : bef rs a b ∨ bef rs b a := by unfold bef; omega
theorem posR_spec (rs pre : List Int) (x : Int) : ∀ n, n ≤ pre.length → (∀ j y, posGo (ltR rs) pre x n ≤ j → j < n → pre[j]? = some y → rs.getD y.toNat 0 < rs.getD x.toNat 0) ∧ (posGo (ltR rs) pre x n = 0 ∨ ∃ q y, posGo (ltR rs) pre x n = q + 1 ∧ pre[q]? = some y ∧ rs.getD x.toNat 0 ≤ rs.getD y.toNat 0)
  | 0, _ => ⟨fun j y _ h _ => by omega, .inl rfl⟩
  | n + 1, h => by
    rw [posGo_succ]
    have hg : pre[n]? = some (pre.getD n 0) := by simp [List.getD, List.getElem?_eq_getElem (show n < pre.length by omega)]
    have ih := posR_spec rs pre x n (by omega)
    split
    case isTrue hl =>
      unfold ltR at hl
      simp only [decide_eq_true_eq] at hl
      refine ⟨fun j y h1 h2 h3 => ?_, ih.2⟩
      rcases Nat.lt_or_ge j n with h4 | h4
      · exact ih.1 j y h1 h4 h3
      · have e : j = n := by omega
        subst e
        rw [hg] at h3
        obtain rfl := Option.some.inj h3
        exact hl
    case isFalse hl =>
      unfold ltR at hl
      simp only [decide_eq_true_eq] at hl
      exact ⟨fun j y h1 h2 _ => by omega, .inr ⟨n, _, rfl, hg, by omega⟩⟩
theorem pw_get {r : Int → Int → Prop} {l : List Int} (h : l.Pairwise r) {i j : Nat} {x y : Int} (hij : i < j) (hx : l[i]? = some x) (hy : l[j]? = some y) : r x y := by
  obtain ⟨hi, rfl⟩ := List.getElem?_eq_some_iff.1 hx
  obtain ⟨hj, rfl⟩ := List.getElem?_eq_some_iff.1 hy
  exact List.pairwise_iff_getElem.1 h i j hi hj hij
theorem insrR (rs pre : List Int) (x : Int) (h : pre.Pairwise (bef rs)) (hx : ∀ y ∈ pre, y < x) : (insr (ltR rs) pre x).Pairwise (bef rs) := by
  obtain ⟨h1, h2⟩ := posR_spec rs pre x pre.length (Nat.le_refl _)
  have hp := posGo_le (ltR rs) pre x pre.length
  unfold insr
  generalize hq : posGo (ltR rs) pre x pre.length = p at *
  unfold putAt
  rw [List.pairwise_append, List.pairwise_cons]
  have hlo : ∀ y ∈ pre.take p, bef rs y x := fun y hy => by
    obtain ⟨i, hi⟩ := List.mem_iff_getElem?.1 hy
    have hip : i < p := by
      have := (List.getElem?_eq_some_iff.1 hi).1
      rw [List.length_take] at this; omega
    rw [List.getElem?_take_of_lt hip] at hi
    rcases h2 with h2 | ⟨q, z, h2, h3, h4⟩
    · omega
    · have hz := hx z (List.mem_of_getElem? h3)
      have hbz : bef rs z x := by unfold bef; omega
      rcases Nat.lt_or_ge i q with h5 | h5
      · exact bef_trans (pw_get h h5 hi h3) hbz
      · have e : i = q := by omega
        subst e
        rw [hi] at h3
        obtain rfl := Option.some.inj h3
        exact hbz
  have hhi : ∀ y ∈ pre.drop p, bef rs x y := fun y hy => by
    obtain ⟨i, hi⟩ := List.mem_iff_getElem?.1 hy
    rw [List.getElem?_drop] at hi
    exact .inl (h1 (p + i) y (by omega) (List.getElem?_eq_some_iff.1 hi).1 hi)
  refine ⟨h.sublist (List.take_sublist ..), ⟨hhi, h.sublist (List.drop_sublist ..)⟩, fun a ha b hb => ?_⟩
  rcases List.mem_cons.1 hb with rfl | hb
  · exact hlo a ha
  · exact bef_trans (hlo a ha) (hhi b hb)
/-- The order of the numbers 0 .. n-1: the greatest first. -/
def ordR (rs : List Int) (n : Nat) : List Int := insAll (ltR rs) (upto n)
theorem ordR_succ (rs : List Int) (n : Nat) : ordR rs (n + 1) = insr (ltR rs) (ordR rs n) n := by unfold ordR; rw [upto_succ, insFold_snoc]
theorem ordR_mem {rs : List Int} {n : Nat} {x : Int} : x ∈ ordR rs n ↔ x ∈ upto n := insAll_mem _ _ _
theorem ordR_len (rs : List Int) (n : Nat) : (ordR rs n).length = n := by unfold ordR; rw [insAll_length, upto_len]
theorem ordR_pw (rs : List Int) : ∀ n, (ordR rs n).Pairwise (bef rs)
  | 0 => List.Pairwise.nil
  | n + 1 => by
    rw [ordR_succ]
    refine insrR rs _ _ (ordR_pw rs n) fun y hy => ?_
    obtain ⟨k, rfl, hk⟩ := upto_mem (ordR_mem.1 hy)
    omega
theorem mem_upto {n k : Nat} : (k : Int) ∈ upto n ↔ k < n := by
  constructor
  · intro h
    obtain ⟨j, h1, h2⟩ := upto_mem h
    omega
  · intro h
    exact List.mem_of_getElem? (upto_get h)
theorem ordR_at {rs : List Int} {n m : Nat} (h : m < n) : ∃ k : Nat, (ordR rs n)[m]? = some (k : Int) ∧ k < n := by
  have hm : m < (ordR rs n).length := by rw [ordR_len]; exact h
  obtain ⟨k, h1, h2⟩ := upto_mem (ordR_mem.1 (List.getElem_mem hm))
  exact ⟨k, by rw [List.getElem?_eq_getElem hm, h1], h2⟩
/-- Which numbers stand among the first m of the order. -/
def chosen (rs : List Int) (n m : Nat) : List Bool := (List.range n).map fun k : Nat => decide ((k : Int) ∈ (ordR rs n).take m)
theorem chosen_len (rs : List Int) (n m : Nat) : (chosen rs n m).length = n := by simp [chosen]
theorem chosen_get {rs : List Int} {n m k : Nat} (h : k < n) : (chosen rs n m)[k]? = some (decide ((k : Int) ∈ (ordR rs n).take m)) := by simp [chosen, h]
theorem chosen_zero (rs : List Int) (n : Nat) : chosen rs n 0 = List.replicate n false := by
  apply List.ext_getElem?
  intro k
  rcases Nat.lt_or_ge k n with h | h
  · rw [chosen_get h]; simp [h]
  · rw [List.getElem?_eq_none (by rw [chosen_len]; exact h), List.getElem?_eq_none (by simp; exact h)]
theorem chosen_next {rs : List Int} {n m b : Nat} (h : (ordR rs n)[m]? = some (b : Int)) : (chosen rs n m).set b true = chosen rs n (m + 1) := by
  have hb : b < n := mem_upto.1 (ordR_mem.1 (List.mem_of_getElem? h))
  apply List.ext_getElem?
  intro k
  rcases Nat.lt_or_ge k n with hk | hk
  · rw [List.getElem?_set, chosen_len, chosen_get hk, chosen_get hk, take_snocI _ _ _ h]
    by_cases e : b = k
    · subst e; simp [hb]
    · have e' : ¬ (k : Int) = (b : Int) := by omega
      simp [e, e']
  · rw [List.getElem?_eq_none (by rw [List.length_set, chosen_len]; exact hk), List.getElem?_eq_none (by rw [chosen_len]; exact hk)]
/-- The best of the first k among those not yet chosen: -1 if there is none. -/
def bestOf (ps : List Int) (used : List Bool) : Nat → Int
  | 0 => -1
  | k + 1 => if used.getD k false = false ∧ (bestOf ps used k < 0 ∨ ps.getD k 0 < ps.getD (bestOf ps used k).toNat 0) then (k : Int) else bestOf ps used k
theorem bestOf_succ (ps : List Int) (used : List Bool) (k : Nat) : bestOf ps used (k + 1) = if used.getD k false = false ∧ (bestOf ps used k < 0 ∨ ps.getD k 0 < ps.getD (bestOf ps used k).toNat 0) then (k : Int) else bestOf ps used k := rfl
theorem bestOf_spec (ps : List Int) (used : List Bool) : ∀ n, (bestOf ps used n = -1 ∧ ∀ j, j < n → used.getD j false = true) ∨
    ∃ b : Nat, bestOf ps used n = (b : Int) ∧ b < n ∧ used.getD b false = false ∧ (∀ j, j < n → used.getD j false = false → j ≠ b → ps.getD b 0 < ps.getD j 0 ∨ (ps.getD b 0 = ps.getD j 0 ∧ b < j))
  | 0 => .inl ⟨rfl, fun j h => by omega⟩
  | n + 1 => by
    rw [bestOf_succ]
    rcases bestOf_spec ps used n with ⟨h1, h2⟩ | ⟨b, h1, h2, h3, h4⟩
    · rw [h1]
      cases hu : used.getD n false
      · rw [if_pos ⟨rfl, .inl (by omega)⟩]
        refine .inr ⟨n, rfl, by omega, hu, fun j hj hjf hne => ?_⟩
        have := h2 j (by omega)
        rw [hjf] at this; cases this
      · rw [if_neg (by simp)]
        refine .inl ⟨rfl, fun j hj => ?_⟩
        rcases Nat.lt_or_ge j n with h5 | h5
        · exact h2 j h5
        · have e : j = n := by omega
          rw [e]; exact hu
    · rw [h1, Int.toNat_natCast]
      split
      case isTrue hc =>
        obtain ⟨hu, hc⟩ := hc
        have hlt : ps.getD n 0 < ps.getD b 0 := by rcases hc with hc | hc <;> omega
        refine .inr ⟨n, rfl, by omega, hu, fun j hj hjf hne => ?_⟩
        by_cases hjb : j = b
        · subst hjb; exact .inl hlt
        · have := h4 j (by omega) hjf hjb
          omega
      case isFalse hc =>
        refine .inr ⟨b, rfl, by omega, h3, fun j hj hjf hne => ?_⟩
        rcases Nat.lt_or_ge j n with h5 | h5
        · exact h4 j h5 hjf hne
        · have e : j = n := by omega
          subst e
          have : ¬ ps.getD j 0 < ps.getD b 0 := fun h => hc ⟨hjf, .inr h⟩
          omega
theorem getD_bool {l : List Bool} {k : Nat} {x : Bool} (h : l[k]? = some x) : l.getD k false = x := by rw [List.getD_eq_getElem?_getD, h]; rfl
/-- The next chosen is the next of the order. -/
theorem best_next {rs ps : List Int} {n m : Nat} (hps : ∀ k, k < n → ps.getD k 0 = - rs.getD k 0) (hm : m < n) : ∃ b : Nat, bestOf ps (chosen rs n m) n = (b : Int) ∧ b < n ∧ (ordR rs n)[m]? = some (b : Int) := by
  obtain ⟨c, hc, hcn⟩ := ordR_at (rs := rs) hm
  have hpw := ordR_pw rs n
  have hnot : ¬ (c : Int) ∈ (ordR rs n).take m := fun h => by
    obtain ⟨i, hi⟩ := List.mem_iff_getElem?.1 h
    have him : i < m := by
      have := (List.getElem?_eq_some_iff.1 hi).1
      rw [List.length_take] at this; omega
    rw [List.getElem?_take_of_lt him] at hi
    exact bef_irrefl (pw_get hpw him hi hc)
  have hcu : (chosen rs n m).getD c false = false := by rw [getD_bool (chosen_get hcn)]; simpa using hnot
  rcases bestOf_spec ps (chosen rs n m) n with ⟨_, h2⟩ | ⟨b, h1, h2, h3, h4⟩
  · have := h2 c hcn
    rw [hcu] at this; cases this
  · refine ⟨b, h1, h2, ?_⟩
    by_cases hbc : c = b
    · subst hbc; exact hc
    · exfalso
      have h5 := h4 c hcn hcu hbc
      rw [hps b h2, hps c hcn] at h5
      have hb1 : bef rs b c := by unfold bef; rw [Int.toNat_natCast, Int.toNat_natCast]; omega
      -- b is not among the first m, so it stands at m or behind it
      rw [getD_bool (chosen_get h2)] at h3
      have h3' : ¬ (b : Int) ∈ (ordR rs n).take m := by simpa using h3
      obtain ⟨i, hi⟩ := List.mem_iff_getElem?.1 (ordR_mem.2 (mem_upto.2 h2) : (b : Int) ∈ ordR rs n)
      have him : m ≤ i := by
        rcases Nat.lt_or_ge i m with h6 | h6
        · exact absurd (List.mem_of_getElem? (by rw [List.getElem?_take_of_lt h6]; exact hi)) h3'
        · exact h6
      rcases Nat.lt_or_ge m i with h6 | h6
      · exact bef_irrefl (bef_trans hb1 (pw_get hpw h6 hc hi))
      · have e : m = i := by omega
        subst e
        rw [hc] at hi
        have := Option.some.inj hi
        omega
/-- The chosen indices, from the least on. -/
def picks : List Bool → Nat → List Int
  | [], _ => []
  | u :: l, k => if u then (k : Int) :: picks l (k + 1) else picks l (k + 1)
theorem picks_cons (u : Bool) (l : List Bool) (k : Nat) : picks (u :: l) k = if u then (k : Int) :: picks l (k + 1) else picks l (k + 1) := rfl
theorem picks_len : ∀ (l : List Bool) (k : Nat), (picks l k).length ≤ l.length
  | [], _ => Nat.le_refl _
  | u :: l, k => by
    rw [picks_cons]
    have := picks_len l (k + 1)
    split <;> simp only [List.length_cons] <;> omega
theorem picks_ge : ∀ (l : List Bool) (k : Nat) (x : Int), x ∈ picks l k → ∃ j, x = ((k + j : Nat) : Int) ∧ l[j]? = some true
  | [], k, x, h => by cases h
  | u :: l, k, x, h => by
    rw [picks_cons] at h
    have tl : x ∈ picks l (k + 1) → ∃ j, x = ((k + j : Nat) : Int) ∧ (u :: l)[j]? = some true := fun h => by
      obtain ⟨j, h1, h2⟩ := picks_ge l (k + 1) x h
      exact ⟨j + 1, by rw [h1]; omega, by simpa using h2⟩
    cases u with
    | true =>
      rw [if_pos rfl] at h
      rcases List.mem_cons.1 h with rfl | h
      · exact ⟨0, by simp, rfl⟩
      · exact tl h
    | false => rw [if_neg (by simp)] at h; exact tl h
theorem picks_mem : ∀ (l : List Bool) (k j : Nat), l[j]? = some true → ((k + j : Nat) : Int) ∈ picks l k
  | [], k, j, h => by simp at h
  | u :: l, k, 0, h => by
    simp at h; subst h
    rw [picks_cons, if_pos rfl]
    exact List.mem_cons_self ..
  | u :: l, k, j + 1, h => by
    rw [picks_cons]
    have := picks_mem l (k + 1) j (by simpa using h)
    have e : k + 1 + j = k + (j + 1) := by omega
    rw [e] at this
    split
    · exact List.mem_cons_of_mem _ this
    · exact this
theorem picks_asc : ∀ (l : List Bool) (k : Nat), (picks l k).Pairwise (fun a b => a < b)
  | [], _ => List.Pairwise.nil
  | u :: l, k => by
    rw [picks_cons]
    split
    · refine List.pairwise_cons.2 ⟨fun y hy => ?_, picks_asc l (k + 1)⟩
      obtain ⟨j, rfl, _⟩ := picks_ge l (k + 1) y hy
      omega
    · exact picks_asc l (k + 1)
theorem nodup_bef {rs l : List Int} (h : l.Pairwise (bef rs)) : l.Nodup := h.imp fun hab e => by subst e; exact bef_irrefl hab
/-- The first m of the order, sorted, are the chosen ones. -/
theorem picks_chosen (rs : List Int) (n m : Nat) : picks (chosen rs n m) 0 = ((ordR rs n).take m).mergeSort leI := by
  have h1 : (picks (chosen rs n m) 0).Nodup := (picks_asc _ 0).imp fun hab e => by omega
  have h2 : ((ordR rs n).take m).Nodup := nodup_bef ((ordR_pw rs n).sublist (List.take_sublist ..))
  have hp : (picks (chosen rs n m) 0).Perm ((ordR rs n).take m) := by
    refine (List.perm_ext_iff_of_nodup h1 h2).2 fun x => ?_
    constructor
    · intro hx
      obtain ⟨j, rfl, hj⟩ := picks_ge _ _ _ hx
      have hjn : j < n := by have := (List.getElem?_eq_some_iff.1 hj).1; rwa [chosen_len] at this
      rw [chosen_get hjn] at hj
      simpa using hj
    · intro hx
      obtain ⟨j, rfl, hjn⟩ := upto_mem (ordR_mem.1 (List.mem_of_mem_take hx))
      have := picks_mem (chosen rs n m) 0 j (by rw [chosen_get hjn]; simpa using hx)
      simpa using this
  refine asc_unique (hp.trans (List.mergeSort_perm _ leI).symm) (asc_iff.2 ((picks_asc _ 0).imp fun h => Int.le_of_lt h)) (sort_asc _)
end Go.Proofs.Ytonlfkofiljboaa
