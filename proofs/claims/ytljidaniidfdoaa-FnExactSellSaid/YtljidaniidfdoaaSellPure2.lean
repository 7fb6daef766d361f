/- Rights by place: where an owner's right stands or goes, and lists that are built row by row. -/
import Derived.Test.YtljidaniidfdoaaSellPure
namespace Go.Proofs.Ytljidaniidfdoaa
open Go.RowKit
set_option maxRecDepth 20000
/-- How many rights stand ahead of an owner. -/
def posA : List T3 → Int → Nat
  | [], _ => 0
  | e :: es, o => if e.x < o then posA es o + 1 else 0
theorem posA_cons (e : T3) (es : List T3) (o : Int) : posA (e :: es) o = if e.x < o then posA es o + 1 else 0 := rfl
theorem posA_le : ∀ (l : List T3) (o : Int), posA l o ≤ l.length
  | [], _ => Nat.le_refl _
  | e :: es, o => by
    have := posA_le es o
    rw [posA_cons]
    split <;> simp only [List.length_cons] <;> omega
theorem posA_before : ∀ (l : List T3) (o : Int) (k : Nat) (e : T3), k < posA l o → l[k]? = some e → e.x < o
  | [], _, _, _, h, _ => absurd h (by simp [posA])
  | a :: es, o, k, e, h, he => by
    rw [posA_cons] at h
    split at h
    · rename_i hlt
      cases k with
      | zero => simp at he; subst he; exact hlt
      | succ k => exact posA_before es o k e (by omega) (by simpa using he)
    · omega
theorem posA_stop : ∀ (l : List T3) (o : Int) (e : T3), l[posA l o]? = some e → ¬ e.x < o
  | [], _, _, h => by simp at h
  | a :: es, o, e, h => by
    rw [posA_cons] at h
    split at h
    · exact posA_stop es o e (by simpa using h)
    · rename_i hn
      simp at h; subst h; exact hn
/-- The step of the search. -/
theorem posA_go {l : List T3} {o : Int} {k : Nat} (hk : k ≤ posA l o) {e : T3} (he : l[k]? = some e) : (e.x < o → k + 1 ≤ posA l o) ∧ (¬ e.x < o → k = posA l o) := by
  rcases Nat.lt_or_eq_of_le hk with h | h
  · have := posA_before l o k e h he
    exact ⟨fun _ => h, fun hn => absurd this hn⟩
  · subst h
    have := posA_stop l o e he
    exact ⟨fun hn => absurd hn this, fun _ => rfl⟩
theorem posA_end {l : List T3} {o : Int} {k : Nat} (hk : k ≤ posA l o) (he : ¬ k < l.length) : k = posA l o := by
  have := posA_le l o
  omega
theorem addSh_ix : ∀ (l : List T3) (o y z : Int), addSh l o y z = match l[posA l o]? with
    | some e => if e.x = o then (if (addF e.y e.z y z).2.2 then some (l.set (posA l o) ⟨o, (addF e.y e.z y z).1, (addF e.y e.z y z).2.1⟩) else none) else some (l.take (posA l o) ++ ⟨o, y, z⟩ :: l.drop (posA l o))
    | none => some (l.take (posA l o) ++ ⟨o, y, z⟩ :: l.drop (posA l o))
  | [], o, y, z => rfl
  | a :: es, o, y, z => by
    rw [addSh_cons, posA_cons]
    by_cases h : a.x < o
    · rw [if_pos h, if_pos h, addSh_ix es o y z, List.getElem?_cons_succ]
      cases es[posA es o]? with
      | none => simp
      | some e =>
        simp only
        split
        · split <;> simp
        · simp
    · rw [if_neg h, if_neg h]
      simp
theorem addSh_new {l : List T3} {o y z : Int} (h : ∀ e, l[posA l o]? = some e → e.x ≠ o) : addSh l o y z = some (l.take (posA l o) ++ ⟨o, y, z⟩ :: l.drop (posA l o)) := by
  rw [addSh_ix]
  cases he : l[posA l o]? with
  | none => rfl
  | some e => simp only; rw [if_neg (h e he)]
theorem addSh_old {l : List T3} {o y z p q : Int} {ok : Bool} {e : T3} (he : l[posA l o]? = some e) (hx : e.x = o) (ha : addF e.y e.z y z = (p, q, ok)) : addSh l o y z = if ok then some (l.set (posA l o) ⟨o, p, q⟩) else none := by
  rw [addSh_ix, he]
  simp only
  rw [if_pos hx, ha]
theorem posA_split : ∀ (p : List T3) (e : T3) (s : List T3) (o : Int), (∀ x ∈ p, x.x < o) → ¬ e.x < o → posA (p ++ e :: s) o = p.length
  | [], e, s, o, _, h => by rw [List.nil_append, posA_cons, if_neg h]; rfl
  | a :: p, e, s, o, hp, h => by
    rw [List.cons_append, posA_cons, if_pos (hp a (by simp)), posA_split p e s o (fun x hx => hp x (by simp [hx])) h]; rfl
theorem hasO_mem {l : List T3} {o : Int} (h : hasO l o = false) {e : T3} (he : e ∈ l) : e.x ≠ o := by
  unfold hasO at h
  rw [List.any_eq_false] at h
  simpa using h e he
/-- Where an owner stands in rising rights. -/
theorem rightAt_pos {l : List T3} {q : Int} (hu : upO q l) (o : Int) : (rightAt l o = -1 ∧ hasO l o = false ∧ ∀ e, l[posA l o]? = some e → e.x ≠ o) ∨ (rightAt l o = (posA l o : Int) ∧ hasO l o = true ∧ ∃ e, l[posA l o]? = some e ∧ e.x = o) := by
  rcases rightAt_split l o with ⟨h1, h2⟩ | ⟨p, e, s, rfl, h2, h3, h4⟩
  · exact .inl ⟨h1, h2, fun e he => hasO_mem h2 (List.mem_of_getElem? he)⟩
  · obtain ⟨_, h6, _, _⟩ := upO_append p e s q hu
    have hp := posA_split p e s o (fun x hx => by have := h6 x hx; omega) (by omega)
    refine .inr ⟨by rw [h4, hp], ?_, e, ?_, h2⟩
    · unfold hasO; simp [h2]
    · rw [hp]; simp
theorem hasO_iff {l : List T3} {o : Int} : hasO l o = true ↔ ¬ rightAt l o < 0 := by
  rcases rightAt_split l o with ⟨h1, h2⟩ | ⟨p, e, s, rfl, h2, h3, h4⟩
  · rw [h1, h2]; simp
  · rw [h4]
    have : hasO (p ++ e :: s) o = true := by unfold hasO; simp [h2]
    simp [this]
/-- A right turned, or out, by its place. -/
theorem cutS_ix {l : List T3} {o : Int} {k : Nat} (hk : rightAt l o = (k : Int)) (y z : Int) : cutS l o y z = if y = 0 then l.take k ++ l.drop (k + 1) else l.set k ⟨o, y, z⟩ := by
  rcases rightAt_split l o with ⟨h1, h2⟩ | ⟨p, e, s, rfl, h2, h3, h4⟩
  · omega
  · have : p.length = k := by omega
    subst this
    rw [cutS_split p e s o y z h3 h2]
    split
    · simp
    · simp
theorem shareOf_ix {l : List T3} {o : Int} {k : Nat} (hk : rightAt l o = (k : Int)) : ∃ e, l[k]? = some e ∧ e.x = o ∧ shareOf l o = (e.y, e.z) := by
  rcases rightAt_split l o with ⟨h1, h2⟩ | ⟨p, e, s, rfl, h2, h3, h4⟩
  · omega
  · have : p.length = k := by omega
    subst this
    exact ⟨e, by simp, h2, shareOf_split p e s o h3 h2⟩
/-! ### the reference's walk through the rights -/
/-- What one right leaves: turned if it is the owner's; gone if nothing is left. -/
def one3 (f y z : Int) (e : T3) : List T3 := if e.x = f then (if 0 < y then [⟨f, y, z⟩] else []) else (if 0 < e.y then [e] else [])
def cutAll (l : List T3) (f y z : Int) : List T3 := l.flatMap (one3 f y z)
theorem cutAll_snoc (l : List T3) (e : T3) (f y z : Int) : cutAll (l ++ [e]) f y z = cutAll l f y z ++ one3 f y z e := by unfold cutAll; simp
theorem cutAll_len (l : List T3) (f y z : Int) : (cutAll l f y z).length ≤ l.length := by
  induction l with
  | nil => exact Nat.le_refl _
  | cons e l ih =>
    have h1 : (one3 f y z e).length ≤ 1 := by unfold one3; split <;> split <;> simp
    have : (cutAll (e :: l) f y z).length = (one3 f y z e).length + (cutAll l f y z).length := by unfold cutAll; simp
    simp only [List.length_cons]; omega
theorem cutAll_none : ∀ (l : List T3) (f y z : Int), hasO l f = false → (∀ e ∈ l, 1 ≤ e.y) → cutAll l f y z = l
  | [], _, _, _, _, _ => rfl
  | a :: l, f, y, z, h, hp => by
    have h1 : (a.x == f || hasO l f) = false := h
    simp only [Bool.or_eq_false_iff, beq_eq_false_iff_ne] at h1
    have e1 : cutAll (a :: l) f y z = one3 f y z a ++ cutAll l f y z := by unfold cutAll; simp
    have e2 : one3 f y z a = [a] := by unfold one3; rw [if_neg h1.1, if_pos (by have := hp a (by simp); omega)]
    rw [e1, e2, cutAll_none l f y z h1.2 (fun e he => hp e (by simp [he]))]; rfl
theorem cutAll_cutS {l : List T3} {q f y z : Int} (hu : upO q l) (hp : ∀ e ∈ l, 1 ≤ e.y) (hy : 0 ≤ y) : cutAll l f y z = cutS l f y z := by
  rcases rightAt_split l f with ⟨h1, h2⟩ | ⟨p, e, s, rfl, h2, h3, h4⟩
  · rw [cutAll_none l f y z h2 hp, cutS_none l f y z h2]
  · obtain ⟨_, _, _, h5⟩ := upO_append p e s q hu
    have hs : hasO s f = false := by
      unfold hasO
      rw [List.any_eq_false]
      intro x hx
      have := upO.all h5 x hx
      simp; omega
    have e1 : cutAll (p ++ e :: s) f y z = cutAll p f y z ++ (one3 f y z e ++ cutAll s f y z) := by unfold cutAll; simp
    rw [e1, cutAll_none p f y z h3 (fun x hx => hp x (by simp [hx])), cutAll_none s f y z hs (fun x hx => hp x (by simp [hx])), cutS_split p e s f y z h3 h2]
    unfold one3
    rw [if_pos h2]
    by_cases h0 : y = 0
    · rw [if_pos h0, if_neg (by omega)]; rfl
    · rw [if_neg h0, if_pos (by omega)]; rfl
theorem hasO_snoc (l : List T3) (e : T3) (f : Int) : hasO (l ++ [e]) f = (hasO l f || e.x == f) := by unfold hasO; simp
theorem take_snocT {l : List T3} {k : Nat} {x : T3} (h : l[k]? = some x) : l.take (k + 1) = l.take k ++ [x] := by
  obtain ⟨hk, rfl⟩ := List.getElem?_eq_some_iff.1 h
  exact (List.take_append_getElem hk).symm
/-- In rising rights an owner stands once: his right's share. -/
theorem shareOf_at {l : List T3} {q : Int} (hu : upO q l) {k : Nat} {e : T3} (he : l[k]? = some e) {f : Int} (hf : e.x = f) : shareOf l f = (e.y, e.z) ∧ hasO (l.take k) f = false ∧ hasO l f = true := by
  have hk := (List.getElem?_eq_some_iff.1 he).1
  have e1 : l = l.take k ++ e :: l.drop (k + 1) := by rw [← drop_cons he, List.take_append_drop]
  rw [e1] at hu
  obtain ⟨_, h6, _, _⟩ := upO_append _ e _ q hu
  have h3 : hasO (l.take k) f = false := by
    unfold hasO
    rw [List.any_eq_false]
    intro x hx
    have := h6 x hx
    simp; omega
  refine ⟨?_, h3, ?_⟩
  · rw [e1]; exact shareOf_split _ e _ f h3 hf
  · unfold hasO
    rw [List.any_eq_true]
    exact ⟨e, List.mem_of_getElem? he, by simp [hf]⟩
/-- Adding nothing. -/
theorem addSh_zero {l : List T3} {q o : Int} (hu : upO q l) (hf : ∀ e ∈ l, fracOk e.y e.z = true) {e : T3} (he : l[posA l o]? = some e) (hx : e.x = o) : addSh l o 0 1 = some l := by
  rw [addSh_old he hx (addF_zero (hf e (List.mem_of_getElem? he)))]
  rw [if_pos rfl]
  obtain ⟨hk, h9⟩ := List.getElem?_eq_some_iff.1 he
  have : (⟨o, e.y, e.z⟩ : T3) = e := by cases e; simp only at hx; subst hx; rfl
  rw [this, ← h9, List.set_getElem_self]
end Go.Proofs.Ytljidaniidfdoaa
