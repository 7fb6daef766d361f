/- Texts of the proof, joined: SellPure, SellPure2. -/
import Derived.Test.YtpmmjhpmheooeaaGreatDoorQ10
import Derived.Test.YtpmmjhpmheooeaaGreatDoorQ8
namespace Go.Proofs.YtpmmjhpmheooeaaGreatDoor
set_option linter.unusedSimpArgs false
set_option linter.unusedVariables false
section
open Go.RowKit
def mulF (a b c d : Int) : Int × Int × Bool := if fracOk a b && fracOk c d then redF (a * c).toNat (b * d).toNat else (0, 0, false)
def lessF (a b c d : Int) : Int × Int × Bool := if fracOk a b && fracOk c d && !decide (a * d < c * b) then redF (a * d - c * b).toNat (b * d).toNat else (0, 0, false)
def splitF (t b : Int) (n : Nat) : Int × Int × Bool := if fracOk t b && inB n 1 20 then redF t.toNat (b * n).toNat else (0, 0, false)
theorem coprime_cross {p q p' q' : Nat} (h : Nat.Coprime p q) (h' : Nat.Coprime p' q') (hq : 0 < q) (hq' : 0 < q') (e : p * q' = p' * q) : p = p' ∧ q = q' := by
 have d1 : q ∣ q' := h.symm.dvd_of_dvd_mul_left (show q ∣ p * q' from ⟨p', by rw [e, Nat.mul_comm]⟩)
 have d2 : q' ∣ q := h'.symm.dvd_of_dvd_mul_left (show q' ∣ p' * q from ⟨p, by rw [← e, Nat.mul_comm]⟩)
 have hqq := Nat.dvd_antisymm d1 d2
 subst hqq
 exact ⟨Nat.eq_of_mul_eq_mul_right hq e, rfl⟩
theorem redF_cross {t b t' b' : Nat} (hb : 1 ≤ b) (hb' : 1 ≤ b') (e : t * b' = t' * b) : redF t b = redF t' b' := by
 have g1 : 0 < Nat.gcd t b := Nat.gcd_pos_of_pos_right _ (by omega)
 have g2 : 0 < Nat.gcd t' b' := Nat.gcd_pos_of_pos_right _ (by omega)
 have c1 := Nat.coprime_div_gcd_div_gcd g1
 have c2 := Nat.coprime_div_gcd_div_gcd g2
 obtain ⟨p, hp⟩ := Nat.gcd_dvd_left t b
 obtain ⟨q, hq⟩ := Nat.gcd_dvd_right t b
 obtain ⟨p', hp'⟩ := Nat.gcd_dvd_left t' b'
 obtain ⟨q', hq'⟩ := Nat.gcd_dvd_right t' b'
 have e1 : t / Nat.gcd t b = p := Nat.div_eq_of_eq_mul_right g1 hp
 have e2 : b / Nat.gcd t b = q := Nat.div_eq_of_eq_mul_right g1 hq
 have e3 : t' / Nat.gcd t' b' = p' := Nat.div_eq_of_eq_mul_right g2 hp'
 have e4 : b' / Nat.gcd t' b' = q' := Nat.div_eq_of_eq_mul_right g2 hq'
 rw [e1, e2] at c1
 rw [e3, e4] at c2
 have q0 : 0 < q := Nat.pos_of_ne_zero (fun h => by rw [h] at hq; omega)
 have q0' : 0 < q' := Nat.pos_of_ne_zero (fun h => by rw [h] at hq'; omega)
 have hx : p * q' = p' * q := by
  generalize Nat.gcd t b = g at *
  generalize Nat.gcd t' b' = g' at *
  rw [hp, hq, hp', hq'] at e
  have : (g * g') * (p * q') = (g * g') * (p' * q) := by
   calc (g * g') * (p * q') = g * p * (g' * q') := by simp only [Nat.mul_assoc, Nat.mul_left_comm]
    _ = g' * p' * (g * q) := e
    _ = (g * g') * (p' * q) := by simp only [Nat.mul_assoc, Nat.mul_left_comm]
  exact Nat.eq_of_mul_eq_mul_left (Nat.mul_pos g1 g2) this
 obtain ⟨rfl, rfl⟩ := coprime_cross c1 c2 q0 q0' hx
 unfold redF
 rw [e1, e2, e3, e4]
/-- What a reduced fraction is: of the same value. -/
theorem redF_ok {t b : Nat} {p q : Int} (hb : 1 ≤ b) (h : redF t b = (p, q, true)) : fracOk p q = true ∧ p * (b : Int) = (t : Int) * q ∧ redF t b = (p, q, true) := by
 have h0 := h
 unfold redF at h
 split at h
 ·rename_i hf
  have g1 : 0 < Nat.gcd t b := Nat.gcd_pos_of_pos_right _ (by omega)
  obtain ⟨x, hx⟩ := Nat.gcd_dvd_left t b
  obtain ⟨y, hy⟩ := Nat.gcd_dvd_right t b
  have e1 : t / Nat.gcd t b = x := Nat.div_eq_of_eq_mul_right g1 hx
  have e2 : b / Nat.gcd t b = y := Nat.div_eq_of_eq_mul_right g1 hy
  rw [e1, e2] at h hf
  simp only [Prod.mk.injEq, and_true] at h
  obtain ⟨rfl, rfl⟩ := h
  refine ⟨hf, ?_, h0⟩
  generalize Nat.gcd t b = g at *
  rw [hx, hy]
  push_cast
  rw [Int.mul_left_comm, Int.mul_assoc]
 ·simp at h
theorem fracOk_gcd {t b : Int} (h : fracOk t b = true) : Nat.gcd t.toNat b.toNat = 1 := by
 unfold fracOk at h
 simp only [Bool.and_eq_true, beq_iff_eq] at h
 have := h.2
 omega
/-- A fraction that is in lowest terms stays. -/
theorem redF_same {t b : Int} (h : fracOk t b = true) : redF t.toNat b.toNat = (t, b, true) := by
 obtain ⟨h1, h2, h3, h4⟩ := fracOk_iff h
 unfold redF
 rw [fracOk_gcd h, Nat.div_one, Nat.div_one, Int.toNat_of_nonneg h1, Int.toNat_of_nonneg (by omega), h, if_pos rfl]
theorem addF_zero {t b : Int} (h : fracOk t b = true) : addF t b 0 1 = (t, b, true) := by
 obtain ⟨h1, h2, h3, h4⟩ := fracOk_iff h
 unfold addF
 rw [h, show fracOk 0 1 = true from by decide]
 simp only [Bool.and_self, if_true, Int.mul_one, Int.zero_mul, Int.add_zero]
 exact redF_same h
theorem fracOk_sub {a b : Int} (h : fracOk a b = true) (hab : a ≤ b) : fracOk (b - a) b = true := by
 obtain ⟨h1, h2, h3, h4⟩ := fracOk_iff h
 have hg := fracOk_gcd h
 unfold fracOk
 have e : (b - a).toNat = b.toNat - a.toNat := by omega
 rw [inB_iff.2 ⟨h3, h4⟩, inB_iff.2 ⟨by omega, by omega⟩, e, Nat.gcd_comm, Nat.gcd_self_sub_right (by omega), Nat.gcd_comm, hg]
 rfl
/-- What is left of a share when a part of it is moved: both ways. -/
theorem less_mul {x y a b p q : Int} (hx : fracOk x y = true) (ha : fracOk a b = true) (hab : a ≤ b) (hm : mulF x y a b = (p, q, true)) : lessF x y p q = mulF x y (b - a) b := by
 obtain ⟨x1, x2, x3, x4⟩ := fracOk_iff hx
 obtain ⟨a1, a2, a3, a4⟩ := fracOk_iff ha
 unfold mulF at hm
 rw [hx, ha] at hm
 simp only [Bool.and_self, if_true] at hm
 have yb : 1 ≤ y * b := by have := Int.mul_le_mul x3 a3 (by omega) (by omega); omega
 obtain ⟨hf, hv, _⟩ := redF_ok (by omega) hm
 obtain ⟨p1, p2, p3, p4⟩ := fracOk_iff hf
 rw [Int.toNat_of_nonneg (by omega), Int.toNat_of_nonneg (Int.mul_nonneg x1 a1)] at hv
 -- p * (y * b) = x * a * q
 have hle : p * y ≤ x * q := by
  have h1 : (p * y) * b ≤ (x * q) * b := by
   have e1 : (p * y) * b = (x * q) * a := by
    rw [Int.mul_assoc, hv, Int.mul_right_comm]
   rw [e1]
   exact Int.mul_le_mul_of_nonneg_left hab (Int.mul_nonneg x1 (by omega))
  exact Int.le_of_mul_le_mul_right h1 (by omega)
 unfold lessF mulF
 rw [hx, hf, fracOk_sub ha hab, decide_eq_false (by omega)]
 simp only [Bool.and_self, Bool.not_false, if_true]
 have yq : 1 ≤ y * q := by have := Int.mul_le_mul x3 p3 (by omega) (by omega); omega
 refine redF_cross (by omega) (by omega) ?_
 have n1 : 0 ≤ x * q - p * y := by omega
 have n2 : 0 ≤ x * (b - a) := Int.mul_nonneg x1 (by omega)
 apply Int.ofNat.inj
 simp only [Int.ofNat_eq_natCast, Int.natCast_mul]
 rw [Int.toNat_of_nonneg n1, Int.toNat_of_nonneg n2, Int.toNat_of_nonneg (by omega), Int.toNat_of_nonneg (by omega)]
 -- (x q - p y) (y b) = x (b - a) (y q)
 have e1 : p * y * (y * b) = y * (x * a * q) := by
  rw [← hv]; simp only [Int.mul_assoc, Int.mul_left_comm]
 rw [Int.sub_mul, e1, Int.mul_sub, Int.sub_mul]
 congr 1 <;> simp only [Int.mul_assoc, Int.mul_left_comm, Int.mul_comm]
/-! ### lists of rights -/
def hasO (l : List T3) (o : Int) : Bool := l.any fun e => e.x == o
/-- The right of an owner turned (or out, if nothing is left). -/
def cutS : List T3 → Int → Int → Int → List T3
 | [], _, _, _ => []
 |e :: es, o, y, z => if e.x = o then (if y = 0 then es else ⟨o, y, z⟩ :: es) else e :: cutS es o y z
theorem cutS_cons (e : T3) (es : List T3) (o y z : Int) : cutS (e :: es) o y z = if e.x = o then (if y = 0 then es else ⟨o, y, z⟩ :: es) else e :: cutS es o y z := rfl
/-- A share added to the right of an owner, or a right put in. -/
def addSh : List T3 → Int → Int → Int → Option (List T3)
 | [], o, y, z => some [⟨o, y, z⟩]
 |e :: es, o, y, z => if e.x < o then (addSh es o y z).map (e :: ·) else if e.x = o then (if (addF e.y e.z y z).2.2 then some (⟨o, (addF e.y e.z y z).1, (addF e.y e.z y z).2.1⟩ :: es) else none) else some (⟨o, y, z⟩ :: e :: es)
theorem addSh_nil (o y z : Int) : addSh [] o y z = some [⟨o, y, z⟩] := rfl
theorem addSh_cons (e : T3) (es : List T3) (o y z : Int) : addSh (e :: es) o y z = if e.x < o then (addSh es o y z).map (e :: ·) else if e.x = o then (if (addF e.y e.z y z).2.2 then some (⟨o, (addF e.y e.z y z).1, (addF e.y e.z y z).2.1⟩ :: es) else none) else some (⟨o, y, z⟩ :: e :: es) := rfl
theorem addSh_len : ∀ (l : List T3) (o y z : Int) (r : List T3), addSh l o y z = some r → r.length ≤ l.length + 1
 | [], o, y, z, r, h => by rw [addSh_nil] at h; obtain rfl := Option.some.inj h; simp
 |e :: es, o, y, z, r, h => by
  rw [addSh_cons] at h
  split at h
  ·cases h2 : addSh es o y z with
   |none => rw [h2] at h; simp at h
   |some r' =>
    rw [h2] at h
    simp only [Option.map_some, Option.some.injEq] at h
    subst h
    have := addSh_len es o y z r' h2
    simp only [List.length_cons]; omega
  ·split at h
   ·split at h
    ·obtain rfl := Option.some.inj h; simp
    ·simp at h
   ·obtain rfl := Option.some.inj h; simp
/-- Owners that rise, from above p. -/
def upO : Int → List T3 → Prop
 |_, [] => True
 |p, e :: es => p < e.x ∧ upO e.x es
theorem upO.weaken : ∀ {l : List T3} {p q : Int}, upO p l → q ≤ p → upO q l
 | [], _, _, _, _ => trivial
 |e :: es, p, q, h, hq => ⟨by have := h.1; omega, h.2⟩
theorem upO.all : ∀ {l : List T3} {p : Int}, upO p l → ∀ e ∈ l, p < e.x
 | [], _, _, _, he => by simp at he
 |e :: es, p, h, e', he => by
  rcases List.mem_cons.1 he with rfl | he
  ·exact h.1
  ·have := upO.all h.2 e' he; have := h.1; omega
theorem rowsOk_up : ∀ {l : List T3} {p : Int}, rowsOk p l = true → upO p l
 | [], _, _ => trivial
 |e :: es, p, h => by
  rw [rowsOk_cons] at h
  simp only [Bool.and_eq_true, decide_eq_true_eq] at h
  exact ⟨h.1.1.2, rowsOk_up h.2⟩
theorem rights_up {l : List T3} (h : rightsOk l = true) : upO 0 l := by
 unfold rightsOk at h
 simp only [Bool.and_eq_true] at h
 exact rowsOk_up h.1.1
theorem rights_facts {l : List T3} (h : rightsOk l = true) : l.length ≤ 12 ∧ 1 ≤ l.length ∧ (∀ e ∈ l, fracOk e.y e.z = true ∧ 1 ≤ e.y ∧ 1 ≤ e.x ∧ e.x ≤ 999) := by
 have h0 := h
 unfold rightsOk at h
 simp only [Bool.and_eq_true] at h
 have hl := inB_iff.1 h.1.2
 refine ⟨by omega, by omega, ?_⟩
 have hs := h.2.1.1
 unfold sumShares at hs
 rw [if_pos (by omega)] at hs
 have hall := sumF_all l 0 1 hs
 have hrow : ∀ (l : List T3) (p : Int), rowsOk p l = true → ∀ e ∈ l, 1 ≤ e.y ∧ 1 ≤ e.x ∧ e.x ≤ 999 := by
  intro l
  induction l with
  |nil => intro p _ e he; simp at he
  |cons a tl ih =>
   intro p hp e he
   rw [rowsOk_cons] at hp
   simp only [Bool.and_eq_true, decide_eq_true_eq] at hp
   have := inB_iff.1 hp.1.1.1
   rcases List.mem_cons.1 he with rfl | he
   ·exact ⟨hp.1.2, by omega, by omega⟩
   ·exact ih _ hp.2 e he
 intro e he
 exact ⟨hall e he, hrow l 0 h.1.1 e he⟩
/-- The place of an owner in rising rights. -/
theorem findGo_split : ∀ (l : List T3) (k : Nat) (o : Int), findGo l k o = -1 ∧ hasO l o = false ∨ ∃ (p : List T3) (e : T3) (s : List T3), l = p ++ e :: s ∧ e.x = o ∧ hasO p o = false ∧ findGo l k o = ((k + p.length : Nat) : Int)
 | [], k, o => .inl ⟨rfl, rfl⟩
 |e :: es, k, o => by
  rw [findGo_cons]
  by_cases h : e.x = o
  ·rw [if_pos h]
   exact .inr ⟨[], e, es, rfl, h, rfl, by simp⟩
  ·rw [if_neg h]
   rcases findGo_split es (k + 1) o with ⟨h1, h2⟩ | ⟨p, e', s, h1, h2, h3, h4⟩
   ·exact .inl ⟨h1, by show (e.x == o || hasO es o) = false; rw [h2]; simp [h]⟩
   ·refine .inr ⟨e :: p, e', s, by rw [h1]; rfl, h2, by show (e.x == o || hasO p o) = false; rw [h3]; simp [h], ?_⟩
    rw [h4]; simp only [List.length_cons]; omega
theorem rightAt_split (l : List T3) (o : Int) : rightAt l o = -1 ∧ hasO l o = false ∨ ∃ (p : List T3) (e : T3) (s : List T3), l = p ++ e :: s ∧ e.x = o ∧ hasO p o = false ∧ rightAt l o = (p.length : Int) := by
 have := findGo_split l 0 o
 unfold rightAt
 simpa using this
theorem cutS_split : ∀ (p : List T3) (e : T3) (s : List T3) (o y z : Int), hasO p o = false → e.x = o → cutS (p ++ e :: s) o y z = p ++ (if y = 0 then s else ⟨o, y, z⟩ :: s)
 | [], e, s, o, y, z, _, h => by rw [List.nil_append, cutS_cons, if_pos h]; rfl
 |a :: p, e, s, o, y, z, hp, h => by
  have h1 : (a.x == o || hasO p o) = false := hp
  simp only [Bool.or_eq_false_iff, beq_eq_false_iff_ne] at h1
  rw [List.cons_append, cutS_cons, if_neg h1.1, cutS_split p e s o y z h1.2 h]; rfl
theorem cutS_none : ∀ (p : List T3) (o y z : Int), hasO p o = false → cutS p o y z = p
 | [], _, _, _, _ => rfl
 |a :: p, o, y, z, hp => by
  have h1 : (a.x == o || hasO p o) = false := hp
  simp only [Bool.or_eq_false_iff, beq_eq_false_iff_ne] at h1
  rw [cutS_cons, if_neg h1.1, cutS_none p o y z h1.2]
theorem upO_append : ∀ (p : List T3) (e : T3) (s : List T3) (q : Int), upO q (p ++ e :: s) → upO q p ∧ (∀ x ∈ p, x.x < e.x) ∧ q < e.x ∧ upO e.x s
 | [], e, s, q, h => ⟨trivial, by simp, h.1, h.2⟩
 |a :: p, e, s, q, h => by
  obtain ⟨h1, h2, h3, h4⟩ := upO_append p e s a.x h.2
  refine ⟨⟨h.1, h1⟩, ?_, by have := h.1; omega, h4⟩
  intro x hx
  rcases List.mem_cons.1 hx with rfl | hx
  ·exact h3
  ·exact h2 x hx
theorem shareOf_split (p : List T3) (e : T3) (s : List T3) (o : Int) (hp : hasO p o = false) (he : e.x = o) : shareOf (p ++ e :: s) o = (e.y, e.z) := by
 induction p with
 |nil => rw [List.nil_append, shareOf_cons, if_pos he]
 |cons a p ih =>
  have h1 : (a.x == o || hasO p o) = false := hp
  simp only [Bool.or_eq_false_iff, beq_eq_false_iff_ne] at h1
  rw [List.cons_append, shareOf_cons, if_neg h1.1, ih h1.2]
/-- Rising rights that have a right turned rise. -/
theorem upO_cut : ∀ (l : List T3) (o y z q : Int), upO q l → upO q (cutS l o y z)
 | [], _, _, _, _, _ => trivial
 |e :: es, o, y, z, q, h => by
  rw [cutS_cons]
  split
  ·rename_i he
   split
   ·exact h.2.weaken (by have := h.1; omega)
   ·exact ⟨by show q < o; rw [← he]; exact h.1, by show upO o es; rw [← he]; exact h.2⟩
  ·exact ⟨h.1, upO_cut es o y z e.x h.2⟩
theorem upO_add : ∀ (l : List T3) (o y z q : Int) (r : List T3), upO q l → q < o → addSh l o y z = some r → upO q r
 | [], o, y, z, q, r, _, hq, h => by rw [addSh_nil] at h; obtain rfl := Option.some.inj h; exact ⟨hq, trivial⟩
 |e :: es, o, y, z, q, r, hu, hq, h => by
  rw [addSh_cons] at h
  split at h
  ·rename_i hlt
   cases h2 : addSh es o y z with
   |none => rw [h2] at h; simp at h
   |some r' =>
    rw [h2] at h
    simp only [Option.map_some, Option.some.injEq] at h
    subst h
    exact ⟨hu.1, upO_add es o y z e.x r' hu.2 hlt h2⟩
  ·rename_i hlt
   split at h
   ·rename_i he
    split at h
    ·obtain rfl := Option.some.inj h
     exact ⟨hq, by show upO o es; rw [← he]; exact hu.2⟩
    ·simp at h
   ·rename_i he
    obtain rfl := Option.some.inj h
    exact ⟨hq, by show o < e.x; omega, hu.2⟩
/-- What is sold: the rights behind, and whether it is done. -/
def sellTo (l : List T3) (f t a b : Int) : Option (List T3) :=
 let p := shareOf l f
 let m := mulF p.1 p.2 a b
 let r := mulF p.1 p.2 (b - a) b
 if m.2.2 && r.2.2 then (if m.1 = 0 then some (cutS l f r.1 r.2.1) else addSh (cutS l f r.1 r.2.1) t m.1 m.2.1) else none
def sellG (l : List T3) (f t a b : Int) : Bool := rightsOk l && hasO l f && decide (f ≠ t) && inB t 1 999 && fracOk a b && decide (a ≤ b)
def sellF (l : List T3) (f t a b : Int) : List T3 × Bool :=
 if sellG l f t a b then (match sellTo l f t a b with | some r => if rightsOk r then (r, true) else (l, false) | none => (l, false)) else (l, false)
theorem sellF_no {l : List T3} {f t a b : Int} (h : sellG l f t a b = false) : sellF l f t a b = (l, false) := by unfold sellF; rw [h]; rfl
theorem sellF_none {l : List T3} {f t a b : Int} (h : sellTo l f t a b = none) : sellF l f t a b = (l, false) := by unfold sellF; rw [h]; split <;> rfl
theorem sellF_some {l r : List T3} {f t a b : Int} (hg : sellG l f t a b = true) (h : sellTo l f t a b = some r) : sellF l f t a b = if rightsOk r then (r, true) else (l, false) := by unfold sellF; rw [h, hg]; rfl
theorem sellF_len (l : List T3) (f t a b : Int) : (sellF l f t a b).1.length ≤ l.length + 1 ∨ (sellF l f t a b).1.length ≤ 12 := by
 unfold sellF
 split
 ·split
  ·split
   ·rename_i h; exact .inr (rights_facts h).1
   ·exact .inl (by simp)
  ·exact .inl (by simp)
 ·exact .inl (by simp)
theorem cutS_len (l : List T3) (o y z : Int) : (cutS l o y z).length ≤ l.length := by
 induction l with
 |nil => exact Nat.le_refl _
 |cons a l ih =>
  rw [cutS_cons]
  split
  ·split <;> simp
  ·simp only [List.length_cons]; omega
theorem frac_zero {p q : Int} (h : fracOk p q = true) (h0 : p = 0) : q = 1 := by
 subst h0
 have := fracOk_gcd h
 simp at this
 omega
theorem redF_pos {t b : Nat} {p q : Int} (hb : 1 ≤ b) (ht : 1 ≤ t) (h : redF t b = (p, q, true)) : 1 ≤ p := by
 obtain ⟨h1, h2, _⟩ := redF_ok hb h
 obtain ⟨p1, p2, q1, q2⟩ := fracOk_iff h1
 rcases Int.lt_or_le p 1 with h9 | h9
 ·have e : p = 0 := by omega
  rw [e, Int.zero_mul] at h2
  have := Int.mul_le_mul (show (1 : Int) ≤ (t : Int) by omega) q1 (by omega) (by omega)
  omega
 ·exact h9
/-! ### heirs -/
def riseB : Int → List Int → Bool
 |_, [] => true
 |p, x :: xs => inB x 1 999 && decide (p < x) && riseB x xs
theorem riseB_cons (p x : Int) (xs : List Int) : riseB p (x :: xs) = (inB x 1 999 && decide (p < x) && riseB x xs) := rfl
def addAll : List T3 → List Int → Int → Int → Option (List T3)
 |l, [], _, _ => some l
 |l, h :: hs, y, z => match addSh l h y z with
  |none => none
  |some r => addAll r hs y z
theorem addAll_nil (l : List T3) (y z : Int) : addAll l [] y z = some l := rfl
theorem addAll_yes {l r : List T3} {h : Int} {y z : Int} (hs : List Int) (e : addSh l h y z = some r) : addAll l (h :: hs) y z = addAll r hs y z := by
 show (match addSh l h y z with | none => none | some r => addAll r hs y z) = _
 rw [e]
theorem addAll_no {l : List T3} {h : Int} {y z : Int} (hs : List Int) (e : addSh l h y z = none) : addAll l (h :: hs) y z = none := by
 show (match addSh l h y z with | none => none | some r => addAll r hs y z) = _
 rw [e]
def inhG (l : List T3) (o : Int) (hs : List Int) : Bool := rightsOk l && hasO l o && inB hs.length 1 6 && riseB 0 hs && !decide (o ∈ hs)
def inhTo (l : List T3) (o : Int) (hs : List Int) : Option (List T3) :=
 let s := splitF (shareOf l o).1 (shareOf l o).2 hs.length
 if s.2.2 then addAll (cutS l o 0 1) hs s.1 s.2.1 else none
def inhF (l : List T3) (o : Int) (hs : List Int) : List T3 × Bool :=
 if inhG l o hs then (match inhTo l o hs with | some r => if rightsOk r then (r, true) else (l, false) | none => (l, false)) else (l, false)
theorem inhF_no {l : List T3} {o : Int} {hs : List Int} (h : inhG l o hs = false) : inhF l o hs = (l, false) := by unfold inhF; rw [h]; rfl
theorem inhF_none {l : List T3} {o : Int} {hs : List Int} (h : inhTo l o hs = none) : inhF l o hs = (l, false) := by unfold inhF; rw [h]; split <;> rfl
theorem inhF_some {l r : List T3} {o : Int} {hs : List Int} (hg : inhG l o hs = true) (h : inhTo l o hs = some r) : inhF l o hs = if rightsOk r then (r, true) else (l, false) := by unfold inhF; rw [h, hg]; rfl
end
section
open Go.RowKit
set_option maxRecDepth 20000
/-- How many rights stand ahead of an owner. -/
def posA : List T3 → Int → Nat
 | [], _ => 0
 |e :: es, o => if e.x < o then posA es o + 1 else 0
theorem posA_cons (e : T3) (es : List T3) (o : Int) : posA (e :: es) o = if e.x < o then posA es o + 1 else 0 := rfl
theorem posA_le : ∀ (l : List T3) (o : Int), posA l o ≤ l.length
 | [], _ => Nat.le_refl _
 |e :: es, o => by
  have := posA_le es o
  rw [posA_cons]
  split <;> simp only [List.length_cons] <;> omega
theorem posA_before : ∀ (l : List T3) (o : Int) (k : Nat) (e : T3), k < posA l o → l[k]? = some e → e.x < o
 | [], _, _, _, h, _ => absurd h (by simp [posA])
 |a :: es, o, k, e, h, he => by
  rw [posA_cons] at h
  split at h
  ·rename_i hlt
   cases k with
   |zero => simp at he; subst he; exact hlt
   |succ k => exact posA_before es o k e (by omega) (by simpa using he)
  ·omega
theorem posA_stop : ∀ (l : List T3) (o : Int) (e : T3), l[posA l o]? = some e → ¬ e.x < o
 | [], _, _, h => by simp at h
 |a :: es, o, e, h => by
  rw [posA_cons] at h
  split at h
  ·exact posA_stop es o e (by simpa using h)
  ·rename_i hn
   simp at h; subst h; exact hn
/-- The step of the search. -/
theorem posA_go {l : List T3} {o : Int} {k : Nat} (hk : k ≤ posA l o) {e : T3} (he : l[k]? = some e) : (e.x < o → k + 1 ≤ posA l o) ∧ (¬ e.x < o → k = posA l o) := by
 rcases Nat.lt_or_eq_of_le hk with h | h
 ·have := posA_before l o k e h he
  exact ⟨fun _ => h, fun hn => absurd this hn⟩
 ·subst h
  have := posA_stop l o e he
  exact ⟨fun hn => absurd hn this, fun _ => rfl⟩
theorem posA_end {l : List T3} {o : Int} {k : Nat} (hk : k ≤ posA l o) (he : ¬ k < l.length) : k = posA l o := by
 have := posA_le l o
 omega
theorem addSh_ix : ∀ (l : List T3) (o y z : Int), addSh l o y z = match l[posA l o]? with
  |some e => if e.x = o then (if (addF e.y e.z y z).2.2 then some (l.set (posA l o) ⟨o, (addF e.y e.z y z).1, (addF e.y e.z y z).2.1⟩) else none) else some (l.take (posA l o) ++ ⟨o, y, z⟩ :: l.drop (posA l o))
  |none => some (l.take (posA l o) ++ ⟨o, y, z⟩ :: l.drop (posA l o))
 | [], o, y, z => rfl
 |a :: es, o, y, z => by
  rw [addSh_cons, posA_cons]
  by_cases h : a.x < o
  ·rw [if_pos h, if_pos h, addSh_ix es o y z, List.getElem?_cons_succ]
   cases es[posA es o]? with
   |none => simp
   |some e =>
    simp only
    split
    ·split <;> simp
    ·simp
  ·rw [if_neg h, if_neg h]
   simp
theorem addSh_new {l : List T3} {o y z : Int} (h : ∀ e, l[posA l o]? = some e → e.x ≠ o) : addSh l o y z = some (l.take (posA l o) ++ ⟨o, y, z⟩ :: l.drop (posA l o)) := by
 rw [addSh_ix]
 cases he : l[posA l o]? with
 |none => rfl
 |some e => simp only; rw [if_neg (h e he)]
theorem addSh_old {l : List T3} {o y z p q : Int} {ok : Bool} {e : T3} (he : l[posA l o]? = some e) (hx : e.x = o) (ha : addF e.y e.z y z = (p, q, ok)) : addSh l o y z = if ok then some (l.set (posA l o) ⟨o, p, q⟩) else none := by
 rw [addSh_ix, he]
 simp only
 rw [if_pos hx, ha]
theorem posA_split : ∀ (p : List T3) (e : T3) (s : List T3) (o : Int), (∀ x ∈ p, x.x < o) → ¬ e.x < o → posA (p ++ e :: s) o = p.length
 | [], e, s, o, _, h => by rw [List.nil_append, posA_cons, if_neg h]; rfl
 |a :: p, e, s, o, hp, h => by
  rw [List.cons_append, posA_cons, if_pos (hp a (by simp)), posA_split p e s o (fun x hx => hp x (by simp [hx])) h]; rfl
theorem hasO_mem {l : List T3} {o : Int} (h : hasO l o = false) {e : T3} (he : e ∈ l) : e.x ≠ o := by
 unfold hasO at h
 rw [List.any_eq_false] at h
 simpa using h e he
/-- Where an owner stands in rising rights. -/
theorem rightAt_pos {l : List T3} {q : Int} (hu : upO q l) (o : Int) : (rightAt l o = -1 ∧ hasO l o = false ∧ ∀ e, l[posA l o]? = some e → e.x ≠ o) ∨ (rightAt l o = (posA l o : Int) ∧ hasO l o = true ∧ ∃ e, l[posA l o]? = some e ∧ e.x = o) := by
 rcases rightAt_split l o with ⟨h1, h2⟩ | ⟨p, e, s, rfl, h2, h3, h4⟩
 ·exact .inl ⟨h1, h2, fun e he => hasO_mem h2 (List.mem_of_getElem? he)⟩
 ·obtain ⟨_, h6, _, _⟩ := upO_append p e s q hu
  have hp := posA_split p e s o (fun x hx => by have := h6 x hx; omega) (by omega)
  refine .inr ⟨by rw [h4, hp], ?_, e, ?_, h2⟩
  ·unfold hasO; simp [h2]
  ·rw [hp]; simp
theorem hasO_iff {l : List T3} {o : Int} : hasO l o = true ↔ ¬ rightAt l o < 0 := by
 rcases rightAt_split l o with ⟨h1, h2⟩ | ⟨p, e, s, rfl, h2, h3, h4⟩
 ·rw [h1, h2]; simp
 ·rw [h4]
  have : hasO (p ++ e :: s) o = true := by unfold hasO; simp [h2]
  simp [this]
/-- A right turned, or out, by its place. -/
theorem cutS_ix {l : List T3} {o : Int} {k : Nat} (hk : rightAt l o = (k : Int)) (y z : Int) : cutS l o y z = if y = 0 then l.take k ++ l.drop (k + 1) else l.set k ⟨o, y, z⟩ := by
 rcases rightAt_split l o with ⟨h1, h2⟩ | ⟨p, e, s, rfl, h2, h3, h4⟩
 ·omega
 ·have : p.length = k := by omega
  subst this
  rw [cutS_split p e s o y z h3 h2]
  split
  ·simp
  ·simp
/-! ### the reference's walk through the rights -/
/-- What one right leaves: turned if it is the owner's; gone if nothing is left. -/
def one3 (f y z : Int) (e : T3) : List T3 := if e.x = f then (if 0 < y then [⟨f, y, z⟩] else []) else (if 0 < e.y then [e] else [])
def cutAll (l : List T3) (f y z : Int) : List T3 := l.flatMap (one3 f y z)
theorem cutAll_snoc (l : List T3) (e : T3) (f y z : Int) : cutAll (l ++ [e]) f y z = cutAll l f y z ++ one3 f y z e := by unfold cutAll; simp
theorem cutAll_len (l : List T3) (f y z : Int) : (cutAll l f y z).length ≤ l.length := by
 induction l with
 |nil => exact Nat.le_refl _
 |cons e l ih =>
  have h1 : (one3 f y z e).length ≤ 1 := by unfold one3; split <;> split <;> simp
  have : (cutAll (e :: l) f y z).length = (one3 f y z e).length + (cutAll l f y z).length := by unfold cutAll; simp
  simp only [List.length_cons]; omega
theorem cutAll_none : ∀ (l : List T3) (f y z : Int), hasO l f = false → (∀ e ∈ l, 1 ≤ e.y) → cutAll l f y z = l
 | [], _, _, _, _, _ => rfl
 |a :: l, f, y, z, h, hp => by
  have h1 : (a.x == f || hasO l f) = false := h
  simp only [Bool.or_eq_false_iff, beq_eq_false_iff_ne] at h1
  have e1 : cutAll (a :: l) f y z = one3 f y z a ++ cutAll l f y z := by unfold cutAll; simp
  have e2 : one3 f y z a = [a] := by unfold one3; rw [if_neg h1.1, if_pos (by have := hp a (by simp); omega)]
  rw [e1, e2, cutAll_none l f y z h1.2 (fun e he => hp e (by simp [he]))]; rfl
theorem cutAll_cutS {l : List T3} {q f y z : Int} (hu : upO q l) (hp : ∀ e ∈ l, 1 ≤ e.y) (hy : 0 ≤ y) : cutAll l f y z = cutS l f y z := by
 rcases rightAt_split l f with ⟨h1, h2⟩ | ⟨p, e, s, rfl, h2, h3, h4⟩
 ·rw [cutAll_none l f y z h2 hp, cutS_none l f y z h2]
 ·obtain ⟨_, _, _, h5⟩ := upO_append p e s q hu
  have hs : hasO s f = false := by
   unfold hasO
   rw [List.any_eq_false]
   intro x hx
   have := upO.all h5 x hx
   simp; omega
  have e1 : cutAll (p ++ e :: s) f y z = cutAll p f y z ++ (one3 f y z e ++ cutAll s f y z) := by unfold cutAll; simp
  rw [e1, cutAll_none p f y z h3 (fun x hx => hp x (by simp [hx])), cutAll_none s f y z hs (fun x hx => hp x (by simp [hx])), cutS_split p e s f y z h3 h2]
  unfold one3
  rw [if_pos h2]
  by_cases h0 : y = 0
  ·rw [if_pos h0, if_neg (by omega)]; rfl
  ·rw [if_neg h0, if_pos (by omega)]; rfl
theorem hasO_snoc (l : List T3) (e : T3) (f : Int) : hasO (l ++ [e]) f = (hasO l f || e.x == f) := by unfold hasO; simp
theorem take_snocT {l : List T3} {k : Nat} {x : T3} (h : l[k]? = some x) : l.take (k + 1) = l.take k ++ [x] := by
 obtain ⟨hk, rfl⟩ := List.getElem?_eq_some_iff.1 h
 exact (List.take_append_getElem hk).symm
/-- In rising rights an owner stands once: his right's share. -/
theorem shareOf_at {l : List T3} {q : Int} (hu : upO q l) {k : Nat} {e : T3} (he : l[k]? = some e) {f : Int} (hf : e.x = f) : shareOf l f = (e.y, e.z) ∧ hasO (l.take k) f = false ∧ hasO l f = true := by
 have hk := (List.getElem?_eq_some_iff.1 he).1
 have e1 : l = l.take k ++ e :: l.drop (k + 1) := by rw [← drop_cons he, List.take_append_drop]
 rw [e1] at hu
 obtain ⟨_, h6, _, _⟩ := upO_append _ e _ q hu
 have h3 : hasO (l.take k) f = false := by
  unfold hasO
  rw [List.any_eq_false]
  intro x hx
  have := h6 x hx
  simp; omega
 refine ⟨?_, h3, ?_⟩
 ·rw [e1]; exact shareOf_split _ e _ f h3 hf
 ·unfold hasO
  rw [List.any_eq_true]
  exact ⟨e, List.mem_of_getElem? he, by simp [hf]⟩
/-- Adding nothing. -/
theorem addSh_zero {l : List T3} {q o : Int} (hu : upO q l) (hf : ∀ e ∈ l, fracOk e.y e.z = true) {e : T3} (he : l[posA l o]? = some e) (hx : e.x = o) : addSh l o 0 1 = some l := by
 rw [addSh_old he hx (addF_zero (hf e (List.mem_of_getElem? he)))]
 rw [if_pos rfl]
 obtain ⟨hk, h9⟩ := List.getElem?_eq_some_iff.1 he
 have : (⟨o, e.y, e.z⟩ : T3) = e := by cases e; simp only at hx; subst hx; rfl
 rw [this, ← h9, List.set_getElem_self]
end
end Go.Proofs.YtpmmjhpmheooeaaGreatDoor
