/- One right out of a text, in plain Lean: the two ways to read it agree. -/
import Derived.Test.YtpmmjhpmheooeaaDoorRightText
import Derived.Test.YtpmmjhpmheooeaaDoorPUPure
import Derived.Lib.IndexMore
namespace Go.Proofs.YtpmmjhpmheooeaaDoor
set_option linter.unusedSimpArgs false
set_option linter.unusedVariables false
open Go.RowKit
set_option maxRecDepth 20000
/-- The pieces of a text between the bytes c. -/
def spl (c : UInt8) (cur : List UInt8) : List UInt8 → List (List UInt8)
  | [] => [cur]
  | b :: r => if b = c then cur :: spl c [] r else spl c (cur ++ [b]) r
theorem spl_nil (c : UInt8) (cur : List UInt8) : spl c cur [] = [cur] := rfl
theorem spl_hit (c : UInt8) (cur r : List UInt8) : spl c cur (c :: r) = cur :: spl c [] r := by rw [spl, if_pos rfl]
theorem spl_miss {c b : UInt8} (h : b ≠ c) (cur r : List UInt8) : spl c cur (b :: r) = spl c (cur ++ [b]) r := by rw [spl, if_neg h]
theorem spl_none (c : UInt8) : ∀ (a cur : List UInt8), (∀ b ∈ a, b ≠ c) → spl c cur a = [cur ++ a]
  | [], cur, _ => by simp [spl]
  | b :: a, cur, h => by
    rw [spl_miss (h b List.mem_cons_self), spl_none c a _ (fun x hx => h x (List.mem_cons_of_mem _ hx))]; simp
theorem spl_cut (c : UInt8) (r : List UInt8) : ∀ (a cur : List UInt8), (∀ b ∈ a, b ≠ c) → spl c cur (a ++ c :: r) = (cur ++ a) :: spl c [] r
  | [], cur, _ => by simp [spl_hit]
  | b :: a, cur, h => by
    rw [List.cons_append, spl_miss (h b List.mem_cons_self), spl_cut c r a _ (fun x hx => h x (List.mem_cons_of_mem _ hx))]; simp
theorem spl_ne (c : UInt8) : ∀ (s cur : List UInt8), spl c cur s ≠ []
  | [], cur => by simp [spl]
  | b :: s, cur => by
    rw [spl]; split
    · simp
    · exact spl_ne c s _
theorem index_no (c : UInt8) : ∀ (a : List UInt8), (∀ b ∈ a, b ≠ c) → Lib.index a [c] = -1
  | [], _ => by simp [Lib.index]
  | b :: a, h => by
    have hb : c ≠ b := fun e => h b List.mem_cons_self e.symm
    have := index_no c a (fun x hx => h x (List.mem_cons_of_mem _ hx))
    rw [Lib.index, this]
    simp [List.isPrefixOf, hb]
theorem index_yes (c : UInt8) (r : List UInt8) : ∀ (a : List UInt8), (∀ b ∈ a, b ≠ c) → Lib.index (a ++ c :: r) [c] = a.length
  | [], _ => by simp [Lib.index, List.isPrefixOf]
  | b :: a, h => by
    have hb : c ≠ b := fun e => h b List.mem_cons_self e.symm
    have := index_yes c r a (fun x hx => h x (List.mem_cons_of_mem _ hx))
    rw [List.cons_append, Lib.index, this]
    have h1 : ([c].isPrefixOf (b :: (a ++ c :: r))) = false := by simp [List.isPrefixOf, hb]
    have h2 : (((a.length : Nat) : Int) == -1) = false := by simp
    rw [h1, h2]
    simp
theorem cut_no {c : UInt8} {a : List UInt8} (h : ∀ b ∈ a, b ≠ c) : Lib.cut a [c] = (a, [], false) := by
  unfold Lib.cut; rw [index_no c a h]; simp
theorem cut_yes {c : UInt8} {a r : List UInt8} (h : ∀ b ∈ a, b ≠ c) : Lib.cut (a ++ c :: r) [c] = (a, r, true) := by
  unfold Lib.cut; rw [index_yes c r a h]
  rw [if_pos (by omega)]
  simp
theorem itoa_noc {n : Nat} {c : UInt8} (hc : dig c = false) : ∀ b ∈ Lib.itoa n, b ≠ c := by
  intro b hb e
  subst e
  rw [itoa_nat] at hb
  have := List.all_eq_true.1 (dec_digs n n (Nat.le_refl _)) b hb
  rw [hc] at this; cases this
def rrBot (t : List UInt8) : List UInt8 := if (Lib.cut (Lib.cut t [58]).2.1 [47]).2.2 then (Lib.cut (Lib.cut t [58]).2.1 [47]).2.1 else [49]
def rrTop (t : List UInt8) : List UInt8 := (Lib.cut (Lib.cut t [58]).2.1 [47]).1
def rrOwn (t : List UInt8) : List UInt8 := (Lib.cut t [58]).1
def rrI (t : List UInt8) : Bool := (Lib.cut t [58]).2.2 && (puOk (rrOwn t) && puOk (rrTop t) && puOk (rrBot t)) && decide (t ≠ []) && decide (rightText (puVal (rrOwn t)) (puVal (rrTop t)) (puVal (rrBot t)) = t)
/-- What reading a text yields. -/
def rrX (t : List UInt8) : T3 := if rrI t then ⟨puVal (rrOwn t), puVal (rrTop t), puVal (rrBot t)⟩ else ⟨0, 0, 0⟩
theorem right_parts {o x y : Int} (h : rightText o x y ≠ []) : ∃ on xn yn : Nat, o = on ∧ x = xn ∧ y = yn ∧ on ≤ 999 ∧ xn ≤ 10000 ∧ 1 ≤ yn ∧ yn ≤ 10000 ∧ rightText o x y = Lib.itoa on ++ 58 :: (if yn = 1 then Lib.itoa xn else Lib.itoa xn ++ 47 :: Lib.itoa yn) := by
  unfold rightText at h ⊢
  by_cases hk : (inB o 1 999 && fracOk x y) = true
  · rw [if_pos hk]
    have h1 : inB o 1 999 = true := by revert hk; cases inB o 1 999 <;> simp
    have h2 : fracOk x y = true := by revert hk; cases fracOk x y <;> simp
    have h3 := inB_iff.1 h1
    have h4 := fracOk_iff h2
    refine ⟨o.toNat, x.toNat, y.toNat, by omega, by omega, by omega, by omega, by omega, by omega, by omega, ?_⟩
    have e1 : ((o.toNat : Nat) : Int) = o := by omega
    have e2 : ((x.toNat : Nat) : Int) = x := by omega
    have e3 : ((y.toNat : Nat) : Int) = y := by omega
    rw [e1, e2, e3]
    unfold fracText
    rw [if_pos h2]
    by_cases hy : y = 1
    · rw [if_pos hy, if_pos (by omega)]
    · rw [if_neg hy, if_neg (by omega)]
  · rw [if_neg hk] at h; exact absurd rfl h
theorem one_ok : puOk [49] = true ∧ puVal [49] = 1 := by
  have h := pu_itoa (n := 1) (by omega)
  have e : Lib.itoa ((1 : Nat) : Int) = [49] := by rw [itoa_nat, dec_small (by omega)]; rfl
  rw [e] at h
  exact h
theorem d58 : dig 58 = false := by decide
theorem d47 : dig 47 = false := by decide
theorem d47c : (47 : UInt8) ≠ 58 := by decide
theorem frac_noc (xn yn : Nat) : ∀ b ∈ (if yn = 1 then Lib.itoa xn else Lib.itoa xn ++ 47 :: Lib.itoa yn), b ≠ (58 : UInt8) := by
  intro b hb
  split at hb
  · exact itoa_noc d58 b hb
  · rcases List.mem_append.1 hb with h | h
    · exact itoa_noc d58 b h
    · rcases List.mem_cons.1 h with rfl | h
      · exact d47c
      · exact itoa_noc d58 b h
theorem rrI_of {o x y : Int} {t : List UInt8} (h : rightText o x y = t) (h0 : t ≠ []) : rrI t = true ∧ rrX t = ⟨o, x, y⟩ := by
  subst h
  obtain ⟨on, xn, yn, rfl, rfl, rfl, b1, b2, b3, b4, e⟩ := right_parts h0
  have c1 : Lib.cut (rightText on xn yn) [58] = (Lib.itoa on, (if yn = 1 then Lib.itoa xn else Lib.itoa xn ++ 47 :: Lib.itoa yn), true) := by rw [e]; exact cut_yes (itoa_noc d58)
  have p1 := pu_itoa (n := on) (by omega)
  have p2 := pu_itoa (n := xn) (by omega)
  have p3 := pu_itoa (n := yn) (by omega)
  have hown : rrOwn (rightText on xn yn) = Lib.itoa on := by unfold rrOwn; rw [c1]
  have htop : rrTop (rightText on xn yn) = Lib.itoa xn := by
    unfold rrTop; rw [c1]
    by_cases hy : yn = 1
    · rw [if_pos hy]; show (Lib.cut (Lib.itoa xn) [47]).1 = _; rw [cut_no (itoa_noc d47)]
    · rw [if_neg hy]; show (Lib.cut (Lib.itoa xn ++ 47 :: Lib.itoa yn) [47]).1 = _; rw [cut_yes (itoa_noc d47)]
  have hbot : puOk (rrBot (rightText on xn yn)) = true ∧ puVal (rrBot (rightText on xn yn)) = yn := by
    unfold rrBot; rw [c1]
    by_cases hy : yn = 1
    · subst hy
      rw [if_pos rfl]
      simp only [cut_no (itoa_noc d47)]
      exact one_ok
    · rw [if_neg hy]
      simp only [cut_yes (itoa_noc d47)]
      exact p3
  have hI : rrI (rightText on xn yn) = true := by
    unfold rrI
    rw [hown, htop, hbot.1, hbot.2, p1.1, p1.2, p2.1, p2.2, c1, decide_eq_true h0]
    simp
  exact ⟨hI, by unfold rrX; rw [if_pos hI, hown, htop, hbot.2, p1.2, p2.2]⟩
theorem rrI_to {t : List UInt8} (h : rrI t = true) : rightText (rrX t).x (rrX t).y (rrX t).z = t ∧ t ≠ [] := by
  unfold rrX
  rw [if_pos h]
  unfold rrI at h
  simp only [Bool.and_eq_true, decide_eq_true_eq] at h
  exact ⟨h.2, h.1.2⟩
theorem right_short {o x y : Int} : (rightText o x y).length ≤ 20 := by
  by_cases h : rightText o x y = []
  · rw [h]; simp
  · obtain ⟨on, xn, yn, rfl, rfl, rfl, b1, b2, b3, b4, e⟩ := right_parts h
    have l1 := dec_len 2 on (by omega)
    have l2 := dec_len 4 xn (by omega)
    have l3 := dec_len 4 yn (by omega)
    rw [e, List.length_append, List.length_cons, itoa_nat, itoa_nat, itoa_nat]
    split
    · omega
    · rw [List.length_append, List.length_cons]; omega
/-- The reference's way. -/
def rsA (t : List UInt8) : List (List UInt8) := spl 58 [] t
def rsB (t : List UInt8) : List (List UInt8) := spl 47 [] ((rsA t).getD 1 [])
def rsLast (t : List UInt8) : Nat × Bool := if (rsB t).length = 2 then (puVal ((rsB t).getD 1 []), puOk ((rsB t).getD 1 [])) else (1, decide ((rsB t).length = 1))
def rsI (t : List UInt8) : Bool := decide (t.length ≤ 20) && decide ((rsA t).length = 2) && (puOk ((rsA t).getD 0 []) && puOk ((rsB t).getD 0 []) && (rsLast t).2) && decide (rightText (puVal ((rsA t).getD 0 [])) (puVal ((rsB t).getD 0 [])) (rsLast t).1 = t)
def rsX (t : List UInt8) : T3 := if rsI t then ⟨puVal ((rsA t).getD 0 []), puVal ((rsB t).getD 0 []), (rsLast t).1⟩ else ⟨0, 0, 0⟩
theorem rsI_to {t : List UInt8} (h : rsI t = true) : rightText (rsX t).x (rsX t).y (rsX t).z = t ∧ t ≠ [] := by
  unfold rsX
  rw [if_pos h]
  unfold rsI at h
  simp only [Bool.and_eq_true, decide_eq_true_eq] at h
  refine ⟨h.2, fun e => ?_⟩
  have := h.1.1.2
  rw [e] at this
  cases this
theorem rsI_of {o x y : Int} {t : List UInt8} (h : rightText o x y = t) (h0 : t ≠ []) : rsI t = true ∧ rsX t = ⟨o, x, y⟩ := by
  subst h
  have hsh := right_short (o := o) (x := x) (y := y)
  obtain ⟨on, xn, yn, rfl, rfl, rfl, b1, b2, b3, b4, e⟩ := right_parts h0
  have p1 := pu_itoa (n := on) (by omega)
  have p2 := pu_itoa (n := xn) (by omega)
  have p3 := pu_itoa (n := yn) (by omega)
  have a1 : rsA (rightText on xn yn) = [Lib.itoa on, (if yn = 1 then Lib.itoa xn else Lib.itoa xn ++ 47 :: Lib.itoa yn)] := by
    unfold rsA; rw [e, spl_cut _ _ _ _ (itoa_noc d58), spl_none _ _ _ (frac_noc xn yn)]; simp
  have hB : rsB (rightText on xn yn) = if yn = 1 then [Lib.itoa xn] else [Lib.itoa xn, Lib.itoa yn] := by
    unfold rsB; rw [a1]
    show spl 47 [] (if yn = 1 then Lib.itoa xn else Lib.itoa xn ++ 47 :: Lib.itoa yn) = _
    by_cases hy : yn = 1
    · rw [if_pos hy, if_pos hy, spl_none _ _ _ (itoa_noc d47)]; simp
    · rw [if_neg hy, if_neg hy, spl_cut _ _ _ _ (itoa_noc d47), spl_none _ _ _ (itoa_noc d47)]; simp
  have h0' : (rsB (rightText on xn yn)).getD 0 [] = Lib.itoa xn := by rw [hB]; split <;> rfl
  have hl : rsLast (rightText on xn yn) = (yn, true) := by
    unfold rsLast; rw [hB]
    by_cases hy : yn = 1
    · subst hy; rfl
    · rw [if_neg hy]
      show (puVal (Lib.itoa yn), puOk (Lib.itoa yn)) = _
      rw [p3.1, p3.2]
  have ha0 : (rsA (rightText on xn yn)).getD 0 [] = Lib.itoa on := by rw [a1]; rfl
  have ha2 : (rsA (rightText on xn yn)).length = 2 := by rw [a1]; rfl
  have hI : rsI (rightText on xn yn) = true := by
    unfold rsI
    rw [ha0, ha2, h0', hl, p1.1, p1.2, p2.1, p2.2, decide_eq_true hsh]
    simp
  exact ⟨hI, by unfold rsX; rw [if_pos hI, ha0, h0', hl, p1.2, p2.2]⟩
theorem rs_rr (t : List UInt8) : rsI t = rrI t ∧ rsX t = rrX t := by
  cases hI : rrI t
  · cases hS : rsI t
    · exact ⟨rfl, by unfold rsX rrX; rw [hI, hS]; rfl⟩
    · obtain ⟨h1, h2⟩ := rsI_to hS
      have := (rrI_of h1 h2).1
      rw [hI] at this; cases this
  · obtain ⟨h1, h2⟩ := rrI_to hI
    obtain ⟨h3, h4⟩ := rsI_of h1 h2
    exact ⟨h3, h4⟩
end Go.Proofs.YtpmmjhpmheooeaaDoor
