/- Acts in a row: the plain part. -/
import Derived.Test.YtdmgdkeichlccaaDoAct
import Derived.Test.YtdmgdkeichlccaaKa
import Derived.Maps.AppendAt
namespace Go.Proofs.Ytdmgdkeichlccaa
set_option linter.unusedSimpArgs false
set_option linter.unusedVariables false
open Go.RowKit
set_option maxRecDepth 20000
/-- The acts one after another. -/
def runL (v : Vg) (l : List T3) : Vg × List Int := l.foldl (fun p a => ((doAct p.1 a.x a.y a.z).1, p.2 ++ [(doAct p.1 a.x a.y a.z).2])) (v, [])
def runActs (v : Vg) (l : List T3) : Vg × List Int := if villageOk v = true ∧ l.length ≤ 40 then runL v l else (v, [])
theorem runL_nil (v : Vg) : runL v [] = (v, []) := rfl
theorem runL_snoc (v : Vg) (l : List T3) (a : T3) : runL v (l ++ [a]) = ((doAct (runL v l).1 a.x a.y a.z).1, (runL v l).2 ++ [(doAct (runL v l).1 a.x a.y a.z).2]) := by
  unfold runL; rw [List.foldl_append]; rfl
theorem runL_next {v cv cv2 : Vg} {l : List T3} {nm : List Int} {k : Nat} {a : T3} {m : Int} (h : runL v (l.take k) = (cv, nm)) (ha : l[k]? = some a) (hd : doAct cv a.x a.y a.z = (cv2, m)) : runL v (l.take (k + 1)) = (cv2, nm ++ [m]) := by
  rw [take_snocT ha, runL_snoc, h]
  simp only [hd]
theorem runL_facts (v : Vg) (l : List T3) : ∀ k, k ≤ l.length → (runL v (l.take k)).2.length = k ∧ (runL v (l.take k)).1.book.evs.length ≤ v.book.evs.length + k ∧ (runL v (l.take k)).1.rights.length ≤ v.rights.length + 12 * k
  | 0, _ => by simp [runL_nil]
  | k + 1, h => by
    obtain ⟨h1, h2, h3⟩ := runL_facts v l k (by omega)
    have ha : l[k]? = some l[k] := List.getElem?_eq_getElem (by omega)
    have h4 := doAct_len (runL v (l.take k)).1 l[k].x l[k].y l[k].z
    rw [take_snocT ha, runL_snoc]
    simp only [List.length_append, List.length_cons, List.length_nil]
    omega
theorem book_40 {b : Bk} (h : bookOk b = true) : b.evs.length ≤ 40 := by
  rcases Nat.lt_or_ge 40 b.evs.length with h1 | h1
  · rw [bookOk_eq (countBk_no (.inr (.inr (by omega))))] at h
    simp at h
  · exact h1
theorem vg_lens {v : Vg} (h : villageOk v = true) : v.book.evs.length ≤ 40 ∧ v.rights.length ≤ 12 := by
  unfold villageOk at h
  simp only [Bool.and_eq_true] at h
  exact ⟨book_40 h.1, (rights_facts h.2).1⟩
theorem runActs_len (v : Vg) (l : List T3) : (runActs v l).1.book.evs.length ≤ v.book.evs.length + 40 ∧ (runActs v l).1.rights.length ≤ v.rights.length + 480 ∧ (runActs v l).2.length ≤ 40 := by
  unfold runActs
  split
  · rename_i h
    have h1 := runL_facts v l l.length (Nat.le_refl _)
    rw [List.take_length] at h1
    omega
  · simp
/-- What comes back: the village's rows lie together, the numbers before or behind them. -/
def RunRet (r : Vg × List Int) (w : World) (e : Ending) (w' : World) : Prop := ∃ A c R d B n, e = .returned (.tuple #[r.1.val A c R d, .slice B r.2.length n]) ∧ ∃ lo hi lp hq : Nat, w.heap.size ≤ lo ∧ hi ≤ w'.heap.size ∧ w.heap.size ≤ lp ∧ hq ≤ w'.heap.size ∧ (hi ≤ lp ∨ hq ≤ lo) ∧ Row2 w' lo hi 66 3 A r.1.book.evs.length c (t3s r.1.book.evs) ∧ Row2 w' lo hi 51 3 R r.1.rights.length d (t3s r.1.rights) ∧ Row2 w' lp hq 3 1 B r.2.length n (ints r.2) ∧ Below w.heap.size w w'
theorem row_nil (w : World) (k : Nat) : Row2 w k k 3 1 none 0 0 (ints []) := ⟨own_nil w k, fun g hg => by simp [Value.ownBlock] at hg⟩
/-- one int appended to an owned row: the row's block is the old one or the world's next. -/
theorem wpList_app1_at {w : World} {ops : Array Oper} {rest : List Oper} {o : Oper} {a : Act} {Q : Exit → Act → World → Prop} (hgd : o.guard = none) (s x : Operand)
    (ho : o.op = .call { callee := .builtin .append, args := #[s, x], argTypes := #[60, 60] })
    (base : Nat) (A : Option Addr) (c : Nat) (l : List Int) (hs : a.eval s = .slice A l.length c) (hown : OwnI w base A c l)
    (g : Nat) (y : Int) (hx : a.eval x = .slice (some ⟨g, 0, none⟩) 1 1) (hc : w.cell? ⟨g, 0, none⟩ = some (.int .i64 y)) (hlen : l.length ≤ 1099511627776) (hbase : base ≤ w.heap.size)
    (h : ∀ A' c' w', OwnI w' base A' c' (l ++ [y]) → w.grownBy w' (Value.slice A l.length c).ownBlock → ((Value.slice A' (l.length + 1) c').ownBlock = (Value.slice A l.length c).ownBlock ∨ (Value.slice A' (l.length + 1) c').ownBlock = some w.heap.size) → wpList Try.prog ops Q rest (a.put o.dst (.slice A' (l.length + 1) c')) w') :
    wpList Try.prog ops Q (o :: rest) a w := by
  obtain ⟨i0, hi, hz0, hz1, hz2⟩ := info_parts infoI
  refine wpList_append_own_at _ hgd s x 60 ho base 3 i0 (.int .i64 0) 1 8 Try.underlying60 hi hz0 hz1 hz2 rfl (by decide) _ _ _ hs hown ⟨g, 0, none⟩ 1 1 [.int .i64 y] hx rfl ?_ ?_ (by unfold maxLen; omega) (by omega) hbase ?_
  · intro j u hj
    match j, hj with
    | 0, hj => simp at hj; subst hj; rw [Addr.add_lit]; exact hc
  · intro u hu; simp at hu; subst hu; rfl
  · intro v' w1 hown' hgrow _ hb
    have hex : ∃ A' c', v' = .slice A' (l.length + 1) c' := by
      rcases hown'.2 with ⟨rfl, h0⟩ | ⟨g', cap, cur, rfl, _⟩
      · omega
      · exact ⟨_, _, rfl⟩
    obtain ⟨A', c', rfl⟩ := hex
    refine h A' c' w1 ?_ hgrow hb
    unfold OwnI
    rw [List.length_append]
    have e : ints (l ++ [y]) = ints l ++ [.int .i64 y] := by unfold ints; rw [List.map_append]; rfl
    rw [e]
    exact hown'
theorem own_rebase {w : World} {base base' g : Nat} {e : TypeId} {sz n c : Nat} {A : Option Addr} {xs : List Value} (h : w.ownsRow base e sz (.slice A n c) n xs) (hg : (Value.slice A n c).ownBlock = some g) (hb : base' ≤ g) : w.ownsRow base' e sz (.slice A n c) n xs := by
  refine ⟨h.1, ?_⟩
  rcases h.2 with ⟨h1, h2⟩ | ⟨g', cap, cur, hv, hg', r⟩
  · exact .inl ⟨h1, h2⟩
  · rw [hv] at hg
    have e1 : g' = g := Option.some.inj hg
    exact .inr ⟨g', cap, cur, hv, by omega, r⟩
theorem app_row {w w6 : World} {lp hq g c c' : Nat} {A A' : Option Addr} {l : List Int} {y : Int} (hr : Row2 w lp hq 3 1 A l.length c (ints l)) (ho : OwnI w6 lp A' c' (l ++ [y])) (hd : (Value.slice A' (l.length + 1) c').ownBlock = (Value.slice A l.length c).ownBlock ∨ (Value.slice A' (l.length + 1) c').ownBlock = some g) :
    Row2 w6 lp hq 3 1 A' (l ++ [y]).length c' (ints (l ++ [y])) ∨ (Row2 w6 g (g + 1) 3 1 A' (l ++ [y]).length c' (ints (l ++ [y])) ∧ g < w6.heap.size) := by
  have hl : (l ++ [y]).length = l.length + 1 := by simp
  unfold OwnI at ho
  rw [hl] at ho ⊢
  rcases hd with hd | hd
  · exact .inl ⟨ho, fun k hk => hr.2 k (hd ▸ hk)⟩
  · exact .inr ⟨⟨own_rebase ho hd (Nat.le_refl _), fun k hk => by rw [hd] at hk; have := Option.some.inj hk; omega⟩, (ho.lt g hd).2⟩
end Go.Proofs.Ytdmgdkeichlccaa
