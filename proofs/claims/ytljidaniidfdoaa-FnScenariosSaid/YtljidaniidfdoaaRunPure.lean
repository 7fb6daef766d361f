/- Acts in a row: the plain part. -/
import Derived.Test.YtljidaniidfdoaaDoAct
namespace Go.Proofs.Ytljidaniidfdoaa
open Go.RowKit
/-- The acts one after another. -/
def runL (v : Vg) (l : List T3) : Vg × List Int := l.foldl (fun p a => ((doAct p.1 a.x a.y a.z).1, p.2 ++ [(doAct p.1 a.x a.y a.z).2])) (v, [])
def runActs (v : Vg) (l : List T3) : Vg × List Int := if villageOk v = true ∧ l.length ≤ 40 then runL v l else (v, [])
theorem runL_nil (v : Vg) : runL v [] = (v, []) := rfl
theorem runL_snoc (v : Vg) (l : List T3) (a : T3) : runL v (l ++ [a]) = ((doAct (runL v l).1 a.x a.y a.z).1, (runL v l).2 ++ [(doAct (runL v l).1 a.x a.y a.z).2]) := by
  unfold runL; rw [List.foldl_append]; rfl
theorem runL_next {v cv cv2 : Vg} {l : List T3} {nm : List Int} {k : Nat} {a : T3} {m : Int} (h : runL v (l.take k) = (cv, nm)) (ha : l[k]? = some a) (hd : doAct cv a.x a.y a.z = (cv2, m)) : runL v (l.take (k + 1)) = (cv2, nm ++ [m]) := by
  rw [take_snocT ha, runL_snoc, h]
  simp only [hd]
theorem runL_facts (v : Vg) (l : List T3) : ∀ k, k ≤ l.length → (runL v (l.take k)).2.length = k ∧ (runL v (l.take k)).1.book.evs.length ≤ v.book.evs.length + k ∧ (runL v (l.take k)).1.rights.length ≤ v.rights.length + 12 * k
  | 0, _ => by simp [runL_nil]
  | k + 1, h => by
    obtain ⟨h1, h2, h3⟩ := runL_facts v l k (by omega)
    have ha : l[k]? = some l[k] := List.getElem?_eq_getElem (by omega)
    have h4 := doAct_len (runL v (l.take k)).1 l[k].x l[k].y l[k].z
    rw [take_snocT ha, runL_snoc]
    simp only [List.length_append, List.length_cons, List.length_nil]
    omega
theorem book_40 {b : Bk} (h : bookOk b = true) : b.evs.length ≤ 40 := by
  rcases Nat.lt_or_ge 40 b.evs.length with h1 | h1
  · rw [bookOk_eq (countBk_no (.inr (.inr (by omega))))] at h
    simp at h
  · exact h1
theorem vg_lens {v : Vg} (h : villageOk v = true) : v.book.evs.length ≤ 40 ∧ v.rights.length ≤ 12 := by
  unfold villageOk at h
  simp only [Bool.and_eq_true] at h
  exact ⟨book_40 h.1, (rights_facts h.2).1⟩
theorem runActs_len (v : Vg) (l : List T3) : (runActs v l).1.book.evs.length ≤ v.book.evs.length + 40 ∧ (runActs v l).1.rights.length ≤ v.rights.length + 480 ∧ (runActs v l).2.length ≤ 40 := by
  unfold runActs
  split
  · rename_i h
    have h1 := runL_facts v l l.length (Nat.le_refl _)
    rw [List.take_length] at h1
    omega
  · simp
def RunRet (r : Vg × List Int) (w : World) (e : Ending) (w' : World) : Prop := ∃ A c R d B n, e = .returned (.tuple #[r.1.val A c R d, .slice B r.2.length n]) ∧ w'.ownsRow w.heap.size 102 3 (.slice A r.1.book.evs.length c) r.1.book.evs.length (t3s r.1.book.evs) ∧ w'.ownsRow w.heap.size 62 3 (.slice R r.1.rights.length d) r.1.rights.length (t3s r.1.rights) ∧ OwnI w' w.heap.size B n r.2 ∧ Below w.heap.size w w'
end Go.Proofs.Ytljidaniidfdoaa
