/- Texts of the proof, joined: SellPure2, AddShare. -/
import Derived.Test.YtpmmjhpmheooeaaGreatDoorP5
import Derived.Test.YtpmmjhpmheooeaaGreatDoorP19
import Derived.Deep.RegionHeld3
import Derived.Deep.Cut
namespace Go.Proofs.YtpmmjhpmheooeaaGreatDoor
set_option linter.unusedSimpArgs false
set_option linter.unusedVariables false
section
open Go.RowKit
set_option maxRecDepth 20000
/-- How many rights stand ahead of an owner. -/
def posA : List T3 → Int → Nat
 | [], _ => 0
 |e :: es, o => if e.x < o then posA es o + 1 else 0
theorem posA_cons (e : T3) (es : List T3) (o : Int) : posA (e :: es) o = if e.x < o then posA es o + 1 else 0 := rfl
theorem posA_le : ∀ (l : List T3) (o : Int), posA l o ≤ l.length
 | [], _ => Nat.le_refl _
 |e :: es, o => by
  have := posA_le es o
  rw [posA_cons]
  split <;> simp only [List.length_cons] <;> omega
theorem posA_before : ∀ (l : List T3) (o : Int) (k : Nat) (e : T3), k < posA l o → l[k]? = some e → e.x < o
 | [], _, _, _, h, _ => absurd h (by simp [posA])
 |a :: es, o, k, e, h, he => by
  rw [posA_cons] at h
  split at h
  ·rename_i hlt
   cases k with
   |zero => simp at he; subst he; exact hlt
   |succ k => exact posA_before es o k e (by omega) (by simpa using he)
  ·omega
theorem posA_stop : ∀ (l : List T3) (o : Int) (e : T3), l[posA l o]? = some e → ¬ e.x < o
 | [], _, _, h => by simp at h
 |a :: es, o, e, h => by
  rw [posA_cons] at h
  split at h
  ·exact posA_stop es o e (by simpa using h)
  ·rename_i hn
   simp at h; subst h; exact hn
/-- The step of the search. -/
theorem posA_go {l : List T3} {o : Int} {k : Nat} (hk : k ≤ posA l o) {e : T3} (he : l[k]? = some e) : (e.x < o → k + 1 ≤ posA l o) ∧ (¬ e.x < o → k = posA l o) := by
 rcases Nat.lt_or_eq_of_le hk with h | h
 ·have := posA_before l o k e h he
  exact ⟨fun _ => h, fun hn => absurd this hn⟩
 ·subst h
  have := posA_stop l o e he
  exact ⟨fun hn => absurd hn this, fun _ => rfl⟩
theorem posA_end {l : List T3} {o : Int} {k : Nat} (hk : k ≤ posA l o) (he : ¬ k < l.length) : k = posA l o := by
 have := posA_le l o
 omega
theorem addSh_ix : ∀ (l : List T3) (o y z : Int), addSh l o y z = match l[posA l o]? with
  |some e => if e.x = o then (if (addF e.y e.z y z).2.2 then some (l.set (posA l o) ⟨o, (addF e.y e.z y z).1, (addF e.y e.z y z).2.1⟩) else none) else some (l.take (posA l o) ++ ⟨o, y, z⟩ :: l.drop (posA l o))
  |none => some (l.take (posA l o) ++ ⟨o, y, z⟩ :: l.drop (posA l o))
 | [], o, y, z => rfl
 |a :: es, o, y, z => by
  rw [addSh_cons, posA_cons]
  by_cases h : a.x < o
  ·rw [if_pos h, if_pos h, addSh_ix es o y z, List.getElem?_cons_succ]
   cases es[posA es o]? with
   |none => simp
   |some e =>
    simp only
    split
    ·split <;> simp
    ·simp
  ·rw [if_neg h, if_neg h]
   simp
theorem addSh_new {l : List T3} {o y z : Int} (h : ∀ e, l[posA l o]? = some e → e.x ≠ o) : addSh l o y z = some (l.take (posA l o) ++ ⟨o, y, z⟩ :: l.drop (posA l o)) := by
 rw [addSh_ix]
 cases he : l[posA l o]? with
 |none => rfl
 |some e => simp only; rw [if_neg (h e he)]
theorem addSh_old {l : List T3} {o y z p q : Int} {ok : Bool} {e : T3} (he : l[posA l o]? = some e) (hx : e.x = o) (ha : addF e.y e.z y z = (p, q, ok)) : addSh l o y z = if ok then some (l.set (posA l o) ⟨o, p, q⟩) else none := by
 rw [addSh_ix, he]
 simp only
 rw [if_pos hx, ha]
theorem posA_split : ∀ (p : List T3) (e : T3) (s : List T3) (o : Int), (∀ x ∈ p, x.x < o) → ¬ e.x < o → posA (p ++ e :: s) o = p.length
 | [], e, s, o, _, h => by rw [List.nil_append, posA_cons, if_neg h]; rfl
 |a :: p, e, s, o, hp, h => by
  rw [List.cons_append, posA_cons, if_pos (hp a (by simp)), posA_split p e s o (fun x hx => hp x (by simp [hx])) h]; rfl
theorem hasO_mem {l : List T3} {o : Int} (h : hasO l o = false) {e : T3} (he : e ∈ l) : e.x ≠ o := by
 unfold hasO at h
 rw [List.any_eq_false] at h
 simpa using h e he
/-- Where an owner stands in rising rights. -/
theorem rightAt_pos {l : List T3} {q : Int} (hu : upO q l) (o : Int) : (rightAt l o = -1 ∧ hasO l o = false ∧ ∀ e, l[posA l o]? = some e → e.x ≠ o) ∨ (rightAt l o = (posA l o : Int) ∧ hasO l o = true ∧ ∃ e, l[posA l o]? = some e ∧ e.x = o) := by
 rcases rightAt_split l o with ⟨h1, h2⟩ | ⟨p, e, s, rfl, h2, h3, h4⟩
 ·exact .inl ⟨h1, h2, fun e he => hasO_mem h2 (List.mem_of_getElem? he)⟩
 ·obtain ⟨_, h6, _, _⟩ := upO_append p e s q hu
  have hp := posA_split p e s o (fun x hx => by have := h6 x hx; omega) (by omega)
  refine .inr ⟨by rw [h4, hp], ?_, e, ?_, h2⟩
  ·unfold hasO; simp [h2]
  ·rw [hp]; simp
theorem hasO_iff {l : List T3} {o : Int} : hasO l o = true ↔ ¬ rightAt l o < 0 := by
 rcases rightAt_split l o with ⟨h1, h2⟩ | ⟨p, e, s, rfl, h2, h3, h4⟩
 ·rw [h1, h2]; simp
 ·rw [h4]
  have : hasO (p ++ e :: s) o = true := by unfold hasO; simp [h2]
  simp [this]
/-- A right turned, or out, by its place. -/
theorem cutS_ix {l : List T3} {o : Int} {k : Nat} (hk : rightAt l o = (k : Int)) (y z : Int) : cutS l o y z = if y = 0 then l.take k ++ l.drop (k + 1) else l.set k ⟨o, y, z⟩ := by
 rcases rightAt_split l o with ⟨h1, h2⟩ | ⟨p, e, s, rfl, h2, h3, h4⟩
 ·omega
 ·have : p.length = k := by omega
  subst this
  rw [cutS_split p e s o y z h3 h2]
  split
  ·simp
  ·simp
/-! ### the reference's walk through the rights -/
/-- What one right leaves: turned if it is the owner's; gone if nothing is left. -/
def one3 (f y z : Int) (e : T3) : List T3 := if e.x = f then (if 0 < y then [⟨f, y, z⟩] else []) else (if 0 < e.y then [e] else [])
def cutAll (l : List T3) (f y z : Int) : List T3 := l.flatMap (one3 f y z)
theorem cutAll_snoc (l : List T3) (e : T3) (f y z : Int) : cutAll (l ++ [e]) f y z = cutAll l f y z ++ one3 f y z e := by unfold cutAll; simp
theorem cutAll_len (l : List T3) (f y z : Int) : (cutAll l f y z).length ≤ l.length := by
 induction l with
 |nil => exact Nat.le_refl _
 |cons e l ih =>
  have h1 : (one3 f y z e).length ≤ 1 := by unfold one3; split <;> split <;> simp
  have : (cutAll (e :: l) f y z).length = (one3 f y z e).length + (cutAll l f y z).length := by unfold cutAll; simp
  simp only [List.length_cons]; omega
theorem cutAll_none : ∀ (l : List T3) (f y z : Int), hasO l f = false → (∀ e ∈ l, 1 ≤ e.y) → cutAll l f y z = l
 | [], _, _, _, _, _ => rfl
 |a :: l, f, y, z, h, hp => by
  have h1 : (a.x == f || hasO l f) = false := h
  simp only [Bool.or_eq_false_iff, beq_eq_false_iff_ne] at h1
  have e1 : cutAll (a :: l) f y z = one3 f y z a ++ cutAll l f y z := by unfold cutAll; simp
  have e2 : one3 f y z a = [a] := by unfold one3; rw [if_neg h1.1, if_pos (by have := hp a (by simp); omega)]
  rw [e1, e2, cutAll_none l f y z h1.2 (fun e he => hp e (by simp [he]))]; rfl
theorem cutAll_cutS {l : List T3} {q f y z : Int} (hu : upO q l) (hp : ∀ e ∈ l, 1 ≤ e.y) (hy : 0 ≤ y) : cutAll l f y z = cutS l f y z := by
 rcases rightAt_split l f with ⟨h1, h2⟩ | ⟨p, e, s, rfl, h2, h3, h4⟩
 ·rw [cutAll_none l f y z h2 hp, cutS_none l f y z h2]
 ·obtain ⟨_, _, _, h5⟩ := upO_append p e s q hu
  have hs : hasO s f = false := by
   unfold hasO
   rw [List.any_eq_false]
   intro x hx
   have := upO.all h5 x hx
   simp; omega
  have e1 : cutAll (p ++ e :: s) f y z = cutAll p f y z ++ (one3 f y z e ++ cutAll s f y z) := by unfold cutAll; simp
  rw [e1, cutAll_none p f y z h3 (fun x hx => hp x (by simp [hx])), cutAll_none s f y z hs (fun x hx => hp x (by simp [hx])), cutS_split p e s f y z h3 h2]
  unfold one3
  rw [if_pos h2]
  by_cases h0 : y = 0
  ·rw [if_pos h0, if_neg (by omega)]; rfl
  ·rw [if_neg h0, if_pos (by omega)]; rfl
theorem hasO_snoc (l : List T3) (e : T3) (f : Int) : hasO (l ++ [e]) f = (hasO l f || e.x == f) := by unfold hasO; simp
theorem take_snocT {l : List T3} {k : Nat} {x : T3} (h : l[k]? = some x) : l.take (k + 1) = l.take k ++ [x] := by
 obtain ⟨hk, rfl⟩ := List.getElem?_eq_some_iff.1 h
 exact (List.take_append_getElem hk).symm
/-- In rising rights an owner stands once: his right's share. -/
theorem shareOf_at {l : List T3} {q : Int} (hu : upO q l) {k : Nat} {e : T3} (he : l[k]? = some e) {f : Int} (hf : e.x = f) : shareOf l f = (e.y, e.z) ∧ hasO (l.take k) f = false ∧ hasO l f = true := by
 have hk := (List.getElem?_eq_some_iff.1 he).1
 have e1 : l = l.take k ++ e :: l.drop (k + 1) := by rw [← drop_cons he, List.take_append_drop]
 rw [e1] at hu
 obtain ⟨_, h6, _, _⟩ := upO_append _ e _ q hu
 have h3 : hasO (l.take k) f = false := by
  unfold hasO
  rw [List.any_eq_false]
  intro x hx
  have := h6 x hx
  simp; omega
 refine ⟨?_, h3, ?_⟩
 ·rw [e1]; exact shareOf_split _ e _ f h3 hf
 ·unfold hasO
  rw [List.any_eq_true]
  exact ⟨e, List.mem_of_getElem? he, by simp [hf]⟩
/-- Adding nothing. -/
theorem addSh_zero {l : List T3} {q o : Int} (hu : upO q l) (hf : ∀ e ∈ l, fracOk e.y e.z = true) {e : T3} (he : l[posA l o]? = some e) (hx : e.x = o) : addSh l o 0 1 = some l := by
 rw [addSh_old he hx (addF_zero (hf e (List.mem_of_getElem? he)))]
 rw [if_pos rfl]
 obtain ⟨hk, h9⟩ := List.getElem?_eq_some_iff.1 he
 have : (⟨o, e.y, e.z⟩ : T3) = e := by cases e; simp only at hx; subst hx; rfl
 rw [this, ← h9, List.set_getElem_self]
end
section
open Go.RowKit
set_option maxRecDepth 20000
theorem t3s_set2 : ∀ (l : List T3) (k : Nat) (t : T3) (y z : Int), l[k]? = some t → t3s (l.set k ⟨t.x, y, z⟩) = ((t3s l).set (k * 3 + 1) (.int .i64 y)).set (k * 3 + 2) (.int .i64 z)
 | [], k, t, y, z, h => by simp at h
 |s :: l, 0, t, y, z, h => by simp at h; subst h; rw [List.set_cons_zero, t3s_cons, t3s_cons]; rfl
 |s :: l, k + 1, t, y, z, h => by
  rw [List.set_cons_succ, t3s_cons, t3s_cons, t3s_set2 l k t y z (by simpa using h), show (k + 1) * 3 = k * 3 + 1 + 1 + 1 by omega]
  rfl
/-- A store of a share into an owned row of rights. -/
theorem own_setS {w : World} {base : Nat} {e : TypeId} {c : Nat} {A : Option Addr} {l : List T3} (h : w.ownsRow base e 3 (.slice A l.length c) l.length (t3s l)) {k : Nat} {t : T3} (hk : l[k]? = some t) :
  ∃ g, A = some ⟨g, 0, none⟩ ∧ base ≤ g ∧ g < w.heap.size ∧ (∀ j, w.frozen? ⟨g, j, none⟩ = false) ∧ w.cell? ⟨g, k * 3, none⟩ = some (.int .i64 t.x) ∧ w.cell? ⟨g, k * 3 + 1, none⟩ = some (.int .i64 t.y) ∧ w.cell? ⟨g, k * 3 + 2, none⟩ = some (.int .i64 t.z) ∧
   ∀ y z : Int, ((w.setCell ⟨g, k * 3 + 1, none⟩ (.int .i64 y)).setCell ⟨g, k * 3 + 2, none⟩ (.int .i64 z)).ownsRow base e 3 (.slice A l.length c) l.length (t3s (l.set k ⟨t.x, y, z⟩)) ∧
    w.grownBy ((w.setCell ⟨g, k * 3 + 1, none⟩ (.int .i64 y)).setCell ⟨g, k * 3 + 2, none⟩ (.int .i64 z)) (some g) := by
 have hkl := (List.getElem?_eq_some_iff.1 hk).1
 rcases h.2 with ⟨_, h2⟩ | ⟨g, cap, cur, hv, hg, hh, hnc, hcm, hcs, ht⟩
 ·omega
 ·simp only [Value.slice.injEq, true_and] at hv
  obtain ⟨rfl, rfl⟩ := hv
  have hlt : g < w.heap.size := (Array.getElem?_eq_some_iff.1 hh).1
  have hg3 := t3s_get hk
  refine ⟨g, rfl, hg, hlt, fun j => h.frozenAt j, (h.cellAt _ (by omega)).trans hg3.1, (h.cellAt _ (by omega)).trans hg3.2.1, (h.cellAt _ (by omega)).trans hg3.2.2, fun y z => ?_⟩
  have s1 := h.stored (k * 3 + 1) (.int .i64 y)
  have s2 := s1.1.stored (k * 3 + 2) (.int .i64 z)
  rw [t3s_set2 l k t y z hk]
  exact ⟨s2.1, grownBy_trans s1.2 s2.2⟩
theorem own_store2 {w : World} {base hi c g k : Nat} {e : TypeId} {l : List T3} {t : T3} (h : Row2 w base hi e 3 (some ⟨g, 0, none⟩) l.length c (t3s l)) (hk : l[k]? = some t) (y z : Int) :
  ((w.setCell ⟨g, k * 3 + 1, none⟩ (.int .i64 y)).setCell ⟨g, k * 3 + 1 + 1, none⟩ (.int .i64 z)).ownsRow base e 3 (.slice (some ⟨g, 0, none⟩) l.length c) l.length (t3s (l.set k ⟨t.x, y, z⟩)) ∧
   w.grownBy ((w.setCell ⟨g, k * 3 + 1, none⟩ (.int .i64 y)).setCell ⟨g, k * 3 + 1 + 1, none⟩ (.int .i64 z)) (some g) := by
 obtain ⟨g', hg, _, _, _, _, _, _, hs⟩ := own_setS h.1 hk
 obtain rfl : g = g' := by simpa using hg
 exact hs y z
theorem grown_of_below {w W : World} (h : Below w.heap.size w W) (row : Option Nat) : w.grownBy W row := ⟨h.os, h.tape, h.output, h.size, fun k hk _ => h.block k hk⟩
/-- What addShare leaves: r, and whether it is done. -/
def AddIs (l : List T3) (o y z : Int) (r : List T3) (ok : Bool) : Prop := (ok = true → (y = 0 ∧ r = l) ∨ (y ≠ 0 ∧ addSh l o y z = some r)) ∧ (ok = false → y ≠ 0 ∧ addSh l o y z = none ∧ r.length = l.length)
def AddRet (base : Nat) (l : List T3) (o y z : Int) (A : Option Addr) (c : Nat) (w : World) (e : Ending) (w' : World) : Prop :=
 ∃ A' c' r ok, e = .returned (.tuple #[.slice A' (List.length r) c', .bool ok]) ∧ AddIs l o y z r ok ∧ w'.ownsRow base 69 3 (.slice A' r.length c') r.length (t3s r) ∧ w.grownBy w' (Value.slice A l.length c).ownBlock
set_option maxHeartbeats 3200000 in
theorem addShare_old (A : Option Addr) (c base : Nat) (l : List T3) (o y z : Int) (e : T3) (w : World) (h : w.ownsRow base 69 3 (.slice A l.length c) l.length (t3s l)) (hy : y ≠ 0) (hk : rightAt l o = (posA l o : Int)) (he : l[posA l o]? = some e) (hx : e.x = o) (hbase : base ≤ w.heap.size) :
  Calls Tryz.prog 131 #[.slice A l.length c, .int .i64 o, .agg #[.int .i64 y, .int .i64 z]] w (AddRet base l o y z A c w) := by
 have hB := Below.refl w.heap.size w
 obtain ⟨p, hp⟩ : ∃ p, p = posA l o := ⟨_, rfl⟩
 rw [← hp] at hk he
 have hpl := (List.getElem?_eq_some_iff.1 he).1
 obtain ⟨q1, q2, ok, ha⟩ : ∃ q1 q2 ok, addF e.y e.z y z = (q1, q2, ok) := ⟨_, _, _, rfl⟩
 have hold := addSh_old (y := y) (z := z) (by rw [← hp]; exact he) hx ha
 rw [← hp] at hold
 have HC : Hid (∀ W, Calls Tryz.prog 126 #[.agg #[.int .i64 e.y, .int .i64 e.z], .agg #[.int .i64 y, .int .i64 z]] W fun e w' => e = frRet (q1, q2, ok) ∧ Below W.heap.size W w') := fun W => by rw [← ha]; exact AddFractions_any _ _ _ _ W
 have HR : Hid (∀ W, Below w.heap.size w W → Calls Tryz.prog 71 #[.slice A l.length c, .int .i64 o] W fun e w' => e = .returned (.int .i64 (p : Int)) ∧ Below W.heap.size W w') := fun W hb => by
  have := rightOf_any A c l o W (RdT.below (Rd.of_own h) hb)
  rwa [hk] at this
 have hr_l := Row2.born h
 obtain ⟨g, rfl, hg1, hg2, -, -, -, -, -⟩ := own_setS h he
 have HE := Lib.hid he
 have HX := Lib.hid hx
 have HO := Lib.hid hold
 have hy0 : (y == 0) = false := by simpa using hy
 have hp0 : (0 : Int) ≤ (p : Int) := by omega
 have hp1 : (p : Int) < (l.length : Int) := by omega
 have hlen : (l.length : Int) ≤ (c : Int) := by have := (Rd.of_own h).2.1; omega
 have hc63 : c ≤ 9223372036854775807 := (Rd.of_own h).2.2.1
 clear h hk he hx hold ha hp
 go_enter Tryz.func131, Tryz.ntmps131
 go_wp2_with fail
 first | refine name_world ?_ | refine name_wp ?_
 intro W1 hW
 replace hB : Below w.heap.size w W1 := by rw [hW]; exact tacT
 have hz_W1 : w.heap.size ≤ W1.heap.size := by rw [hW]; exact sT
 replace kb_s : Blk W1 (w.heap.size) 67 #[.int .i64 y, .int .i64 z] := by rw [hW]; exact blkT
 have hLW1_s := kb_s.lt
 replace hr_l : Row2 W1 (base) (w.heap.size) 69 3 (some ⟨g, 0, none⟩) (l.length) c (t3s l) := by rw [hW]; exact rowT
 try clear kc_s kf_s
 clear hW
 refine (HR.out _ hB).mono ?_
 rintro e1 w1 ⟨rfl, hb⟩
 replace hB := hB.trans (Below.mono hb hB.size)
 have hz_w1 : W1.heap.size ≤ w1.heap.size := Below.size hb
 replace kb_s := kb_s.mv hb; obtain ⟨kb_s, kc_s, kf_s, hl_s, hn_s⟩ := kb_s
 replace hr_l := Row2.below hr_l hb (by omega)
 clear hb
 go_wp2_with fail
 obtain ⟨g', hgg, -, hlg, hfz, c0, c1, c2, -⟩ := own_setS hr_l.1 HE.out
 obtain rfl : g = g' := by simpa using hgg
 have hl1 := hl_s
 go_region_held3 (fun w' => w'.cell? ⟨w.heap.size, 0, none⟩ = some (.int .i64 y) ∧ w'.cell? ⟨w.heap.size, 1, none⟩ = some (.int .i64 z) ∧ w'.cell? ⟨g, p * 3 + 1, none⟩ = some (.int .i64 e.y) ∧ w'.cell? ⟨g, p * 3 + 2, none⟩ = some (.int .i64 e.z)) (first | (with_reducible exact ⟨kc_s 0, kc_s 1, c1, c2⟩) | (refine ⟨?_, ?_, ?_, ?_⟩ <;> simp [go_sem, kc_s 0, kc_s 1, c1, c2, hlg, hl1]; done) | (with_reducible exact ⟨y3_0, y3_1, y3_2, y3_3⟩) | (refine ⟨?_, ?_, ?_, ?_⟩ <;> simp [go_sem, y3_0, y3_1, y3_2, y3_3, hlg, hl1, n3_0, l3_0, n3_1, l3_1, n3_2, l3_2, n3_3, l3_3]; done) | exact ⟨kc_s 0, kc_s 1, c1, c2⟩)
  (((go_at_call 126; refine (HC.out _).mono ?_; rintro e w3 ⟨rfl, hb3⟩; unfold frRet; have hB3 : Below w.heap.size w w3 := (by exact tacT); have hz3 : w1.heap.size ≤ w3.heap.size := (by have hzz := Below.size hb3; first | omega | (simp at hzz; omega)); have l3_0 : w.heap.size < w3.heap.size := (by omega); have n3_0 := Nat.ne_of_lt l3_0; have y3_0 : w3.cell? ⟨w.heap.size, 0, none⟩ = some (.int .i64 y) := (Below.cell hb3 (p := ⟨w.heap.size, 0, none⟩) (by first | (simp; done) | (simp; omega) | omega)).trans (by first | exact kc_s 0 | (simp [go_sem, kc_s 0, hlg, hl1]; done)); have l3_1 : w.heap.size < w3.heap.size := (by omega); have n3_1 := Nat.ne_of_lt l3_1; have y3_1 : w3.cell? ⟨w.heap.size, 1, none⟩ = some (.int .i64 z) := (Below.cell hb3 (p := ⟨w.heap.size, 1, none⟩) (by first | (simp; done) | (simp; omega) | omega)).trans (by first | exact kc_s 1 | (simp [go_sem, kc_s 1, hlg, hl1]; done)); have l3_2 : g < w3.heap.size := (by omega); have n3_2 := Nat.ne_of_lt l3_2; have y3_2 : w3.cell? ⟨g, p * 3 + 1, none⟩ = some (.int .i64 e.y) := (Below.cell hb3 (p := ⟨g, p * 3 + 1, none⟩) (by first | (simp; done) | (simp; omega) | omega)).trans (by first | exact c1 | (simp [go_sem, c1, hlg, hl1]; done)); have l3_3 : g < w3.heap.size := (by omega); have n3_3 := Nat.ne_of_lt l3_3; have y3_3 : w3.cell? ⟨g, p * 3 + 2, none⟩ = some (.int .i64 e.z) := (Below.cell hb3 (p := ⟨g, p * 3 + 2, none⟩) (by first | (simp; done) | (simp; omega) | omega)).trans (by first | exact c2 | (simp [go_sem, c2, hlg, hl1]; done)); try (have kb9 : Blk w3 w1.heap.size 67 #[.int .i64 0, .int .i64 0] := Blk.below (by exact blkT) hb3 (by exact sT); have kc9 := kb9.cells; have kf9 := kb9.frozens; have hl9 := kb9.lt; have hn9 := Nat.ne_of_lt hl9; have m0 : w.heap.size ≠ w1.heap.size := (by omega); have k0 : w1.heap.size ≠ w.heap.size := (by omega); have m1 : g ≠ w1.heap.size := (by omega); have k1 : w1.heap.size ≠ g := (by omega)))))
 all_goals
  have hr_q : Row2 w3 base w.heap.size 69 3 (some ⟨g, 0, none⟩) l.length c (t3s l) := Row2.below (by exact rowT) hb3 (by exact oT)
  obtain ⟨g'', hgg2, -, -, hfz3, -, -, -, -⟩ := own_setS hr_q.1 HE.out
  obtain rfl : g = g'' := by simpa using hgg2
  clear hb3
  go_wp2_with fail
  refine bodyPost_ret (v := .tuple #[.slice (some ⟨g, 0, none⟩) l.length c, .bool ok]) ?_ rfl ?_
  ·simp [results, Tryz.results131, go_sem]
  ·refine ⟨some ⟨g, 0, none⟩, c, l.set p ⟨e.x, q1, q2⟩, ok, by rw [List.length_set], ⟨fun h => .inr ⟨hy, ?_⟩, fun h => ⟨hy, ?_, by rw [List.length_set]⟩⟩, ?_, ?_⟩
   ·rw [HO.out, h, HX.out]; rfl
   ·rw [HO.out, h]; rfl
   ·rw [List.length_set]
    first
     |exact (own_store2 (base := base) (hi := w.heap.size) (by exact rowT) HE.out q1 q2).1
     |exact World.ownsRow.alloc (own_store2 (base := base) (hi := w.heap.size) (by exact rowT) HE.out q1 q2).1 _
   ·first
     |exact grownBy_trans (grown_of_below (by exact tacT) (some g)) (own_store2 (base := base) (e := 69) (c := c) (hi := w.heap.size) (by exact rowT) HE.out q1 q2).2
     |exact grownBy_trans (grownBy_trans (grown_of_below (by exact tacT) (some g)) (own_store2 (base := base) (e := 69) (c := c) (hi := w.heap.size) (by exact rowT) HE.out q1 q2).2) (World.grownBy_alloc _ _ _)
set_option maxHeartbeats 3200000 in
theorem addShare_new (A : Option Addr) (c base : Nat) (l : List T3) (o y z : Int) (w : World) (h : w.ownsRow base 69 3 (.slice A l.length c) l.length (t3s l)) (hl : l.length ≤ 1000) (hy : y ≠ 0) (hk : rightAt l o = -1) (hn : ∀ e, l[posA l o]? = some e → e.x ≠ o) (hbase : base ≤ w.heap.size) :
  Calls Tryz.prog 131 #[.slice A l.length c, .int .i64 o, .agg #[.int .i64 y, .int .i64 z]] w (AddRet base l o y z A c w) := by
 have hB := Below.refl w.heap.size w
 have hold := addSh_new (y := y) (z := z) hn
 obtain ⟨p, hp⟩ : ∃ p, p = posA l o := ⟨_, rfl⟩
 have hpl : p ≤ l.length := by rw [hp]; exact posA_le l o
 rw [← hp] at hold
 have HR : Hid (∀ W, Below w.heap.size w W → Calls Tryz.prog 71 #[.slice A l.length c, .int .i64 o] W fun e w' => e = .returned (.int .i64 (-1)) ∧ Below W.heap.size W w') := fun W hb => by
  have := rightOf_any A c l o W (RdT.below (Rd.of_own h) hb)
  rwa [hk] at this
 have hr_l := Row2.born h
 have HO := Lib.hid hold
 have HI : Hid (∀ (W : World) (vb : Nat), Row2 W base w.heap.size 69 3 A l.length c (t3s l) → w.heap.size ≤ vb → base ≤ W.heap.size → Blk W vb 69 #[.int .i64 o, .int .i64 y, .int .i64 z] → Calls Tryz.prog 153 #[.slice A l.length c, .int .i64 p, .slice (some ⟨vb, 0, none⟩) 1 1] W (InsR base l p ⟨o, y, z⟩ A c W)) :=
  fun W vb hr hvb hbW hv => InsertR_any A c base l p ⟨o, y, z⟩ vb W hr.1 hpl (by omega) hbW hv (fun g hg => by have := hr.2 g hg; omega)
 have hrd : RdT w w.heap.size A c l := Rd.of_own h
 have HGO : Hid (∀ (k : Nat) (e : T3), k ≤ p → l[k]? = some e → (e.x < o → k + 1 ≤ p) ∧ (¬ e.x < o → k = p)) := fun k e hk he => by rw [hp] at hk ⊢; exact posA_go hk he
 have HEN : Hid (∀ k, k ≤ p → ¬ k < l.length → k = p) := fun k hk he => by rw [hp] at hk ⊢; exact posA_end hk he
 have hy0 : (y == 0) = false := by simpa using hy
 have hlen : (l.length : Int) ≤ (c : Int) := by have := hrd.2.1; omega
 have hc63 : c ≤ 9223372036854775807 := hrd.2.2.1
 have hmin : ¬ ((-1 : Int) ≥ 0) := by omega
 clear h hk hn hold hp
 go_enter Tryz.func131, Tryz.ntmps131
 go_wp2_with fail
 first | refine name_world ?_ | refine name_wp ?_
 intro W1 hW
 replace hB : Below w.heap.size w W1 := by rw [hW]; exact tacT
 have hz_W1 : w.heap.size ≤ W1.heap.size := by rw [hW]; exact sT
 replace kb_s : Blk W1 (w.heap.size) 67 #[.int .i64 y, .int .i64 z] := by rw [hW]; exact blkT
 have hLW1_s := kb_s.lt
 replace hr_l : Row2 W1 (base) (w.heap.size) 69 3 A (l.length) c (t3s l) := by rw [hW]; exact rowT
 try clear kc_s kf_s
 clear hW
 refine (HR.out _ hB).mono ?_
 rintro e1 w1 ⟨rfl, hb⟩
 replace hB := hB.trans (Below.mono hb hB.size)
 have hz_w1 : W1.heap.size ≤ w1.heap.size := Below.size hb
 replace kb_s := kb_s.mv hb; obtain ⟨kb_s, kc_s, kf_s, hl_s, hn_s⟩ := kb_s
 replace hr_l := Row2.below hr_l hb (by omega)
 clear hb
 go_wp2_with fail
 have hl1 := hl_s
 have HB := Lib.hid hB
 have HRL := Lib.hid hr_l
 go_loop [11] (fun i => ∃ k : Nat, k ≤ p ∧ i = .int .i64 k) (fun i => l.length + 1 - (intOf i).toNat)
 case atStart => exact ⟨0, Nat.zero_le _, rfl⟩
 case round =>
  obtain ⟨k, hkp, rfl⟩ := hrel
  have hk0 : (0 : Int) ≤ (k : Int) := by omega
  have hfin : k = p → Calls Tryz.prog 153 #[.slice A l.length c, .int .i64 k, .slice (some ⟨w1.heap.size, 0, none⟩) 1 1] (w1.alloc (.cells #[.int .i64 o, .int .i64 y, .int .i64 z] 69)) (InsR base l p ⟨o, y, z⟩ A c (w1.alloc (.cells #[.int .i64 o, .int .i64 y, .int .i64 z] 69))) := fun hkp => by
   subst hkp
   exact HI.out _ _ (HRL.out.alloc _) (by omega) (by simp; omega) (Blk.new _ _ _)
  by_cases hlt : k < l.length
  ·obtain ⟨bb, oo, x, rfl, hbb, hx, e0, e1, e2⟩ := hrd.at_ hlt
   have f0 : w1.cell? ⟨bb, oo + k * 3, none⟩ = some (.int .i64 x.x) := (HB.out.cell (p := ⟨bb, _, none⟩) hbb).trans e0
   have hk1 : (k : Int) < (l.length : Int) := by omega
   have hk2 : decide ((k : Int) < (l.length : Int)) = true := by simpa using hk1
   obtain ⟨g1, g2⟩ := HGO.out k x hkp hx
   clear e0 e1 e2 hx
   by_cases hxo : x.x < o
   ·have hxd : decide (x.x < o) = true := by simpa using hxo
    have g3 := g1 (by omega)
    clear g1 g2 hfin
    go_wp2_with fail
    go_round
    case rel => exact ⟨k + 1, g3, by go_num⟩
    case measure => simp [intOf]; omega
   ·have hxd : decide (x.x < o) = false := by simpa using hxo
    have H3 := Lib.hid (hfin (g2 (by omega)))
    clear g1 g2 hfin
    go_wp2_with fail
    refine H3.out.mono ?_
    rintro e w2 ⟨A2, c2, rfl, ho2, hg2⟩
    have H4 := Lib.hid (And.intro ho2 hg2)
    clear ho2 hg2
    go_wp2_with fail
    refine bodyPost_ret (v := .tuple #[.slice A2 (l.length + 1) c2, .bool true]) ?_ rfl ?_
    ·simp [results, Tryz.results131, go_sem]
    ·refine ⟨A2, c2, l.take p ++ ⟨o, y, z⟩ :: l.drop p, true, by rw [putT_len l _ p hpl], ⟨fun _ => .inr ⟨hy, HO.out⟩, fun h => by cases h⟩, by rw [putT_len l _ p hpl]; exact H4.out.1, grownBy_trans (grown_of_below (HB.out.alloc HB.out.size _) _) H4.out.2⟩
  ·have hk1 : ¬ (k : Int) < (l.length : Int) := by omega
   have hk2 : decide ((k : Int) < (l.length : Int)) = false := by simpa using hk1
   have H3 := Lib.hid (hfin (HEN.out k hkp hlt))
   clear hfin
   go_wp2_with fail
   refine H3.out.mono ?_
   rintro e w2 ⟨A2, c2, rfl, ho2, hg2⟩
   have H4 := Lib.hid (And.intro ho2 hg2)
   clear ho2 hg2
   go_wp2_with fail
   refine bodyPost_ret (v := .tuple #[.slice A2 (l.length + 1) c2, .bool true]) ?_ rfl ?_
   ·simp [results, Tryz.results131, go_sem]
   ·refine ⟨A2, c2, l.take p ++ ⟨o, y, z⟩ :: l.drop p, true, by rw [putT_len l _ p hpl], ⟨fun _ => .inr ⟨hy, HO.out⟩, fun h => by cases h⟩, by rw [putT_len l _ p hpl]; exact H4.out.1, grownBy_trans (grown_of_below (HB.out.alloc HB.out.size _) _) H4.out.2⟩
theorem addShare_zero (A : Option Addr) (c base : Nat) (l : List T3) (o z : Int) (w : World) (h : w.ownsRow base 69 3 (.slice A l.length c) l.length (t3s l)) :
  Calls Tryz.prog 131 #[.slice A l.length c, .int .i64 o, .agg #[.int .i64 0, .int .i64 z]] w (AddRet base l o 0 z A c w) := by
 have H := Lib.hid h
 clear h
 go_enter Tryz.func131, Tryz.ntmps131
 go_wp2_with fail
 refine bodyPost_ret (v := .tuple #[.slice A l.length c, .bool true]) ?_ rfl ?_
 ·simp [results, Tryz.results131, go_sem]
 ·exact ⟨A, c, l, true, rfl, ⟨fun _ => .inl ⟨rfl, rfl⟩, fun h => by cases h⟩, H.out.alloc _, grown_of_below (by exact tacT) _⟩
/-- addShare on rising rights. -/
theorem addShare_any (A : Option Addr) (c base : Nat) (l : List T3) (o y z : Int) (w : World) (h : w.ownsRow base 69 3 (.slice A l.length c) l.length (t3s l)) (hu : upO 0 l) (hl : l.length ≤ 1000) (hbase : base ≤ w.heap.size) :
  Calls Tryz.prog 131 #[.slice A l.length c, .int .i64 o, .agg #[.int .i64 y, .int .i64 z]] w (AddRet base l o y z A c w) := by
 by_cases hy : y = 0
 ·subst hy; exact addShare_zero A c base l o z w h
 ·rcases rightAt_pos hu o with ⟨h1, h2, h3⟩ | ⟨h1, h2, e, h3, h4⟩
  ·exact addShare_new A c base l o y z w h hl hy h1 h3 hbase
  ·exact addShare_old A c base l o y z e w h hy h1 h3 h4 hbase
end
end Go.Proofs.YtpmmjhpmheooeaaGreatDoor
