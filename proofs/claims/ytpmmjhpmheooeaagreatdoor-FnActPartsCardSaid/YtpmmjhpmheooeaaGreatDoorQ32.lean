/- Texts of the proof, joined: RRPure, Strs, DeedPure, RdPure, FldPure. -/
import Derived.Test.YtpmmjhpmheooeaaGreatDoorQ31
import Derived.Lib.IndexMore
import Derived.Lib.Join
import Derived.Test.YtpmmjhpmheooeaaGreatDoorQ10
import Derived.Test.YtpmmjhpmheooeaaGreatDoorQ11
import Derived.Lib.SplitLaws
namespace Go.Proofs.YtpmmjhpmheooeaaGreatDoor
set_option linter.unusedSimpArgs false
set_option linter.unusedVariables false
section
open Go.RowKit
set_option maxRecDepth 20000
/-- The pieces of a text between the bytes c. -/
def spl (c : UInt8) (cur : List UInt8) : List UInt8 → List (List UInt8)
 | [] => [cur]
 |b :: r => if b = c then cur :: spl c [] r else spl c (cur ++ [b]) r
theorem spl_nil (c : UInt8) (cur : List UInt8) : spl c cur [] = [cur] := rfl
theorem spl_hit (c : UInt8) (cur r : List UInt8) : spl c cur (c :: r) = cur :: spl c [] r := by rw [spl, if_pos rfl]
theorem spl_miss {c b : UInt8} (h : b ≠ c) (cur r : List UInt8) : spl c cur (b :: r) = spl c (cur ++ [b]) r := by rw [spl, if_neg h]
theorem spl_none (c : UInt8) : ∀ (a cur : List UInt8), (∀ b ∈ a, b ≠ c) → spl c cur a = [cur ++ a]
 | [], cur, _ => by simp [spl]
 |b :: a, cur, h => by
  rw [spl_miss (h b List.mem_cons_self), spl_none c a _ (fun x hx => h x (List.mem_cons_of_mem _ hx))]; simp
theorem spl_cut (c : UInt8) (r : List UInt8) : ∀ (a cur : List UInt8), (∀ b ∈ a, b ≠ c) → spl c cur (a ++ c :: r) = (cur ++ a) :: spl c [] r
 | [], cur, _ => by simp [spl_hit]
 |b :: a, cur, h => by
  rw [List.cons_append, spl_miss (h b List.mem_cons_self), spl_cut c r a _ (fun x hx => h x (List.mem_cons_of_mem _ hx))]; simp
theorem spl_ne (c : UInt8) : ∀ (s cur : List UInt8), spl c cur s ≠ []
 | [], cur => by simp [spl]
 |b :: s, cur => by
  rw [spl]; split
  ·simp
  ·exact spl_ne c s _
theorem index_no (c : UInt8) : ∀ (a : List UInt8), (∀ b ∈ a, b ≠ c) → Lib.index a [c] = -1
 | [], _ => by simp [Lib.index]
 |b :: a, h => by
  have hb : c ≠ b := fun e => h b List.mem_cons_self e.symm
  have := index_no c a (fun x hx => h x (List.mem_cons_of_mem _ hx))
  rw [Lib.index, this]
  simp [List.isPrefixOf, hb]
theorem index_yes (c : UInt8) (r : List UInt8) : ∀ (a : List UInt8), (∀ b ∈ a, b ≠ c) → Lib.index (a ++ c :: r) [c] = a.length
 | [], _ => by simp [Lib.index, List.isPrefixOf]
 |b :: a, h => by
  have hb : c ≠ b := fun e => h b List.mem_cons_self e.symm
  have := index_yes c r a (fun x hx => h x (List.mem_cons_of_mem _ hx))
  rw [List.cons_append, Lib.index, this]
  have h1 : ([c].isPrefixOf (b :: (a ++ c :: r))) = false := by simp [List.isPrefixOf, hb]
  have h2 : (((a.length : Nat) : Int) == -1) = false := by simp
  rw [h1, h2]
  simp
theorem itoa_noc {n : Nat} {c : UInt8} (hc : dig c = false) : ∀ b ∈ Lib.itoa n, b ≠ c := by
 intro b hb e
 subst e
 rw [itoa_nat] at hb
 have := List.all_eq_true.1 (dec_digs n n (Nat.le_refl _)) b hb
 rw [hc] at this; cases this
end
section
open Go.RowKit
set_option maxRecDepth 20000
def strs (l : List (List UInt8)) : List Value := l.map sv
def RdSt (w : World) (B : Nat) (A : Option Addr) (c : Nat) (l : List (List UInt8)) : Prop := Rd w B 1 A l.length c (strs l)
theorem infoSt : (Tryz.prog.info? 9).map (fun i => (i.zero, i.size, i.bytes)) = some (some (.string ⟨#[]⟩), 1, 16) := by kernel_rfl
def OwnSt (w : World) (base : Nat) (A : Option Addr) (c : Nat) (l : List (List UInt8)) : Prop := w.ownsRow base 9 1 (.slice A l.length c) l.length (strs l)
theorem OwnSt.rd {w : World} {base c : Nat} {A : Option Addr} {l : List (List UInt8)} (h : OwnSt w base A c l) : RdSt w w.heap.size A c l := Rd.of_own h
/-- one string appended to an owned row. -/
theorem wpList_appSt {w : World} {ops : Array Oper} {rest : List Oper} {o : Oper} {a : _root_.Go.Act} {Q : Exit → _root_.Go.Act → World → Prop} (hgd : o.guard = none) (s x : Operand)
  (ho : o.op = .call { callee := .builtin .append, args := #[s, x], argTypes := #[22, 22] })
  (base : Nat) (A : Option Addr) (c : Nat) (l : List (List UInt8)) (hs : a.eval s = .slice A l.length c) (hown : OwnSt w base A c l)
  (g : Nat) (y : List UInt8) (hx : a.eval x = .slice (some ⟨g, 0, none⟩) 1 1) (hc : w.cell? ⟨g, 0, none⟩ = some (sv y)) (hlen : l.length ≤ 1000000000) (hbase : base ≤ w.heap.size)
  (h : ∀ A' c' w', OwnSt w' base A' c' (l ++ [y]) → w.grownBy w' (Value.slice A l.length c).ownBlock → wpList Tryz.prog ops Q rest (a.put o.dst (.slice A' (l.length + 1) c')) w') :
  wpList Tryz.prog ops Q (o :: rest) a w := by
 obtain ⟨i0, hi, hz0, hz1, hz2⟩ := info_parts infoSt
 refine wpList_append_own _ hgd s x 22 ho base 9 i0 (.string ⟨#[]⟩) 1 16 Tryz.underlying22 hi hz0 hz1 hz2 rfl (by decide) _ _ _ hs hown ⟨g, 0, none⟩ 1 1 [sv y] hx rfl ?_ ?_ (by unfold maxLen; omega) (by omega) hbase ?_
 ·intro j u hj
  match j, hj with
  |0, hj => simp only [List.getElem?_cons_zero, Option.some.injEq] at hj; subst hj; rw [Addr.add_lit]; exact hc
 ·intro u hu; simp only [List.mem_singleton] at hu; subst hu; rfl
 ·intro v' w1 hown' hgrow _
  have hex : ∃ A' c', v' = .slice A' (l.length + 1) c' := by
   rcases hown'.2 with ⟨rfl, h0⟩ | ⟨g', cap, cur, rfl, _⟩
   ·omega
   ·exact ⟨_, _, rfl⟩
  obtain ⟨A', c', rfl⟩ := hex
  refine h A' c' w1 ?_ hgrow
  unfold OwnSt
  rw [List.length_append]
  have e : strs (l ++ [y]) = strs l ++ [sv y] := by unfold strs; rw [List.map_append]; rfl
  rw [e]
  exact hown'
theorem ownSt_nil (w : World) (base : Nat) : OwnSt w base none 0 [] := World.ownsRow_nil _ _ _ _
theorem RdSt.at_ {w : World} {B c : Nat} {A : Option Addr} {l : List (List UInt8)} (h : RdSt w B A c l) {k : Nat} (hk : k < l.length) :
  ∃ b o, A = some ⟨b, o, none⟩ ∧ b < B ∧ ∀ (j : Nat) x, l[j]? = some x → w.cell? ⟨b, o + j, none⟩ = some (sv x) := by
 obtain ⟨b, o, e, hb, hc⟩ := h.2.2.2 (by omega)
 exact ⟨b, o, e, hb, fun j x hj => hc j _ (by simp [strs, hj])⟩
end
section
open Go.RowKit
set_option maxRecDepth 20000
def deedL (l : List T3) : List (List UInt8) := l.map fun e => rightText e.x e.y e.z
def deedText (l : List T3) : List UInt8 := if rightsOk l then Lib.join (deedL l) [32] else []
theorem deedText_no {l : List T3} (h : rightsOk l = false) : deedText l = [] := by unfold deedText; rw [h]; rfl
theorem deedText_yes {l : List T3} (h : rightsOk l = true) : deedText l = Lib.join (deedL l) [32] := by unfold deedText; rw [h]; rfl
theorem fracText_len (x y : Int) : (fracText x y).length ≤ 50 := by
 unfold fracText
 split
 ·rename_i h
  have hr := fracOk_iff h
  have h1 := itoa_len (n := x) (by omega) (by omega)
  have h2 := itoa_len (n := y) (by omega) (by omega)
  split
  ·omega
  ·rw [List.length_append, List.length_cons]; omega
 ·simp
theorem rightText_len (o x y : Int) : (rightText o x y).length ≤ 79 := by
 unfold rightText
 split
 ·rename_i h
  have h0 : inB o 1 999 = true := by revert h; cases inB o 1 999 <;> simp
  have hoo := inB_iff.1 h0
  have h1 := itoa_len (n := o) (by omega) (by omega)
  have h2 := fracText_len x y
  rw [List.length_append, List.length_cons]; omega
 ·simp
theorem joinTail_c (sep y : List UInt8) (r : List (List UInt8)) : Lib.joinTail sep (y :: r) = sep ++ y ++ Lib.joinTail sep r := by simp [Lib.joinTail]
theorem joinTail_len79 : ∀ r : List (List UInt8), (∀ x ∈ r, x.length ≤ 79) → (Lib.joinTail [32] r).length ≤ r.length * 80
 | [], _ => by simp [Lib.joinTail]
 |y :: r, h => by
  have h1 := joinTail_len79 r (fun x hx => h x (List.mem_cons_of_mem _ hx))
  have h2 := h y List.mem_cons_self
  rw [joinTail_c, List.length_append, List.length_append, List.length_cons]
  simp only [List.length_cons, List.length_nil]
  omega
theorem join_len79 (r : List (List UInt8)) (h : ∀ x ∈ r, x.length ≤ 79) : (Lib.join r [32]).length ≤ r.length * 80 := by
 cases r with
 |nil => simp [Lib.join_nil]
 |cons y r =>
  have h1 := joinTail_len79 r (fun x hx => h x (List.mem_cons_of_mem _ hx))
  have h2 := h y List.mem_cons_self
  rw [Lib.join_cons, List.length_append, List.length_cons]; omega
theorem deedL_len (l : List T3) : (deedL l).length = l.length := by simp [deedL]
theorem deedL_small (l : List T3) : ∀ x ∈ deedL l, x.length ≤ 79 := by
 intro x hx
 obtain ⟨e, _, rfl⟩ := List.mem_map.1 hx
 exact rightText_len _ _ _
theorem deedJ_len (l : List T3) : (Lib.join (deedL l) [32]).length ≤ l.length * 80 := by
 have := join_len79 (deedL l) (deedL_small l)
 rwa [deedL_len] at this
theorem take_snoc' {l : List T3} {k : Nat} {e : T3} (h : l[k]? = some e) : l.take (k + 1) = l.take k ++ [e] := by
 rw [List.take_add_one, h]; rfl
theorem deedL_snoc {l : List T3} {k : Nat} {e : T3} (h : l[k]? = some e) : deedL (l.take (k + 1)) = deedL (l.take k) ++ [rightText e.x e.y e.z] := by
 rw [take_snoc' h]; simp [deedL]
theorem rightsOk_len {l : List T3} (h : rightsOk l = true) : 1 ≤ l.length ∧ l.length ≤ 12 := by
 unfold rightsOk at h
 simp only [Bool.and_eq_true] at h
 have := inB_iff.1 h.1.2
 omega
end
section
open Go.RowKit
set_option maxRecDepth 20000
theorem splitK_one (c : UInt8) : ∀ (n : Nat) (s : List UInt8), s.length ≤ n → Lib.splitK [c] 0 (Lib.count s [c]) s = spl c [] s := by
 intro n
 induction n with
 |zero =>
  intro s hs
  obtain rfl : s = [] := List.eq_nil_of_length_eq_zero (by omega)
  rw [Lib.count_miss (by simp [Lib.index])]
  rfl
 |succ n ih =>
  intro s hs
  by_cases h : c ∈ s
  ·obtain ⟨a, r, rfl, ha⟩ := List.eq_append_cons_of_mem h
   have hn : ∀ b ∈ a, b ≠ c := fun b hb e => ha (e ▸ hb)
   have hi := index_yes c r a hn
   rw [Lib.count_hit (by simp) hi, spl_cut c r a [] hn, Nat.add_comm 1]
   have hd : (a ++ c :: r).drop (a.length + 1) = r := by simp
   have ht : (a ++ c :: r).take a.length = a := by simp
   rw [show a.length + [c].length = a.length + 1 from rfl, hd]
   rw [Lib.splitK, hi, if_neg (by rw [beq_iff_eq]; omega)]
   rw [show ((a.length : Nat) : Int).toNat = a.length by omega, Nat.add_zero, show a.length + [c].length = a.length + 1 from rfl, hd, ht, ih r (by rw [List.length_append, List.length_cons] at hs; omega)]
   rfl
  ·have hn : ∀ b ∈ s, b ≠ c := fun b hb e => h (e ▸ hb)
   rw [Lib.count_miss (index_no c s hn), spl_none c s [] hn]
   rfl
theorem split_one (c : UInt8) (s : List UInt8) : (Lib.splitB ⟨#[c]⟩ 0 (Lib.countB ⟨s.toArray⟩ ⟨#[c]⟩) ⟨s.toArray⟩).map (·.data.toList) = spl c [] s := by
 rw [Lib.splitB_data]
 exact splitK_one c s.length s (Nat.le_refl _)
theorem d32 : dig 32 = false := by decide
end
section
open Go.RowKit
set_option maxRecDepth 20000
/-- The pieces between spaces that are not empty; ahead of the rest the piece begun. -/
def fl : List UInt8 → List UInt8 → List (List UInt8)
 | [], cur => if cur = [] then [] else [cur]
 |b :: r, cur => if b = 32 then (if cur = [] then fl r [] else cur :: fl r []) else fl r (cur ++ [b])
theorem fl_end0 : fl [] [] = [] := rfl
theorem fl_end1 {cur : List UInt8} (h : cur ≠ []) : fl [] cur = [cur] := by rw [fl, if_neg h]
theorem fl_sp0 (r : List UInt8) : fl (32 :: r) [] = fl r [] := by rw [fl, if_pos rfl, if_pos rfl]
theorem fl_sp1 {cur : List UInt8} (h : cur ≠ []) (r : List UInt8) : fl (32 :: r) cur = cur :: fl r [] := by rw [fl, if_pos rfl, if_neg h]
theorem fl_ch {b : UInt8} (h : b ≠ 32) (r cur : List UInt8) : fl (b :: r) cur = fl r (cur ++ [b]) := by rw [fl, if_neg h]
theorem fl_mem : ∀ (s cur : List UInt8), (∀ b ∈ cur, b ≠ 32) → ∀ x ∈ fl s cur, x ≠ [] ∧ ∀ b ∈ x, b ≠ 32
 | [], cur, hc, x, hx => by
  by_cases h : cur = []
  ·rw [h, fl_end0] at hx; cases hx
  ·rw [fl_end1 h, List.mem_singleton] at hx
   subst hx
   exact ⟨h, hc⟩
 |b :: s, cur, hc, x, hx => by
  by_cases hb : b = 32
  ·subst hb
   by_cases h : cur = []
   ·rw [h, fl_sp0] at hx
    exact fl_mem s [] (by simp) x hx
   ·rw [fl_sp1 h] at hx
    rcases List.mem_cons.1 hx with rfl | hx
    ·exact ⟨h, hc⟩
    ·exact fl_mem s [] (by simp) x hx
  ·rw [fl_ch hb] at hx
   refine fl_mem s _ (fun y hy => ?_) x hx
   rcases List.mem_append.1 hy with hy | hy
   ·exact hc y hy
   ·rw [List.mem_singleton] at hy; rw [hy]; exact hb
theorem fl_len : ∀ (s cur : List UInt8), (fl s cur).length ≤ s.length + 1 ∧ ∀ x ∈ fl s cur, x.length ≤ cur.length + s.length
 | [], cur => by
  by_cases h : cur = []
  ·rw [h, fl_end0]; simp
  ·rw [fl_end1 h]; simp
 |b :: s, cur => by
  by_cases hb : b = 32
  ·subst hb
   have h1 := fl_len s []
   by_cases h : cur = []
   ·rw [h, fl_sp0]
    refine ⟨by have := h1.1; simp; omega, fun x hx => ?_⟩
    have := h1.2 x hx
    simp at this ⊢; omega
   ·rw [fl_sp1 h]
    refine ⟨by have := h1.1; simp; omega, fun x hx => ?_⟩
    rcases List.mem_cons.1 hx with rfl | hx
    ·simp
    ·have := h1.2 x hx
     simp at this ⊢; omega
  ·rw [fl_ch hb]
   have h1 := fl_len s (cur ++ [b])
   refine ⟨by have := h1.1; simp; omega, fun x hx => ?_⟩
   have := h1.2 x hx
   simp at this ⊢; omega
theorem fl_word : ∀ (x r cur : List UInt8), (∀ b ∈ x, b ≠ 32) → fl (x ++ r) cur = fl r (cur ++ x)
 | [], r, cur, _ => by simp
 |b :: x, r, cur, h => by
  rw [List.cons_append, fl_ch (h b List.mem_cons_self), fl_word x r _ (fun y hy => h y (List.mem_cons_of_mem _ hy))]
  simp
theorem fl_tail : ∀ (r : List (List UInt8)) (x cur : List UInt8), (∀ y ∈ x :: r, y ≠ [] ∧ ∀ b ∈ y, b ≠ 32) → fl (x ++ Lib.joinTail [32] r) cur = (cur ++ x) :: r
 | [], x, cur, h => by
  have e : Lib.joinTail [32] [] = [] := rfl
  have hx := h x List.mem_cons_self
  rw [e, fl_word x [] cur hx.2, fl_end1 (by simp [hx.1])]
 |y :: r, x, cur, h => by
  have hx := h x List.mem_cons_self
  rw [joinTail_c]
  rw [show x ++ ([32] ++ y ++ Lib.joinTail [32] r) = x ++ 32 :: (y ++ Lib.joinTail [32] r) by simp]
  rw [fl_word x _ cur hx.2, fl_sp1 (by simp [hx.1]), fl_tail r y [] (fun z hz => h z (List.mem_cons_of_mem _ hz))]
  simp
theorem fl_join (l : List (List UInt8)) (h : ∀ y ∈ l, y ≠ [] ∧ ∀ b ∈ y, b ≠ 32) : fl (Lib.join l [32]) [] = l := by
 cases l with
 |nil => rfl
 |cons x r =>
  rw [Lib.join_cons, fl_tail r x [] h]
  simp
def pchar (b : UInt8) : Bool := decide (32 ≤ b.toNat) && decide (b.toNat ≤ 126)
theorem pchar_lo {b : UInt8} (h : (b.toNat : Int) < 32) : pchar b = false := by unfold pchar; simp; omega
theorem pchar_hi {b : UInt8} (h : (126 : Int) < b.toNat) : pchar b = false := by unfold pchar; simp; omega
theorem pchar_yes {b : UInt8} (h1 : ¬ (b.toNat : Int) < 32) (h2 : ¬ (126 : Int) < b.toNat) : pchar b = true := by unfold pchar; simp; omega
def sfOk (t : List UInt8) : Bool := decide (t.length ≤ 600) && t.all pchar && decide ((fl t []).length ≤ 24)
/-- A line's fields. -/
def sfX (t : List UInt8) : List (List UInt8) := if sfOk t then fl t [] else []
theorem sf_long {t : List UInt8} (h : 600 < t.length) : sfOk t = false := by unfold sfOk; rw [decide_eq_false (by omega)]; rfl
theorem sf_char {t : List UInt8} {k : Nat} {b : UInt8} (h : t[k]? = some b) (hb : pchar b = false) : sfOk t = false := by
 unfold sfOk
 rw [Bool.and_eq_false_iff]
 left
 rw [Bool.and_eq_false_iff]
 right
 rw [List.all_eq_false]
 exact ⟨b, List.mem_of_getElem? h, by rw [hb]; simp⟩
theorem sf_many {t : List UInt8} (h : 24 < (fl t []).length) : sfOk t = false := by unfold sfOk; rw [decide_eq_false (show ¬ (fl t []).length ≤ 24 by omega)]; simp
theorem sf_good {t : List UInt8} (h1 : t.length ≤ 600) (h2 : t.all pchar = true) (h3 : (fl t []).length ≤ 24) : sfOk t = true := by unfold sfOk; rw [decide_eq_true h1, h2, decide_eq_true h3]; rfl
theorem sfX_no {t : List UInt8} (h : sfOk t = false) : sfX t = [] ∧ sfOk t = false := ⟨by unfold sfX; rw [h]; rfl, h⟩
theorem sfX_yes {t : List UInt8} (h : sfOk t = true) : sfX t = fl t [] ∧ sfOk t = true := ⟨by unfold sfX; rw [h]; rfl, h⟩
theorem pchars_step {s : List UInt8} {k : Nat} {b : UInt8} (h : s[k]? = some b) : (s.take (k + 1)).all pchar = ((s.take k).all pchar && pchar b) := by
 rw [List.take_add_one, h, List.all_append]; simp
theorem sfX_mem (t : List UInt8) : ∀ x ∈ sfX t, (x ≠ [] ∧ ∀ b ∈ x, b ≠ 32) ∧ x.length ≤ t.length := by
 intro x hx
 unfold sfX at hx
 split at hx
 ·exact ⟨fl_mem t [] (by simp) x hx, by have := (fl_len t []).2 x hx; simpa using this⟩
 ·cases hx
end
end Go.Proofs.YtpmmjhpmheooeaaGreatDoor
