/- Strike. -/
import Derived.Test.YtbkgofjajhplpaaDoorCopyBook
namespace Go.Proofs.YtbkgofjajhplpaaDoor
set_option linter.unusedSimpArgs false
set_option linter.unusedVariables false
open Go.RowKit
theorem t3s_take : ∀ (l : List T3) (k : Nat), t3s (l.take k) = (t3s l).take (k * 3)
  | [], k => by cases k <;> rfl
  | s :: l, 0 => rfl
  | s :: l, k + 1 => by rw [List.take_succ_cons, t3s_cons, t3s_cons, t3s_take l k, show (k + 1) * 3 = k * 3 + 1 + 1 + 1 by omega]; rfl
theorem RdT.take {w : World} {B c : Nat} {A : Option Addr} {l : List T3} (h : RdT w B A c l) (k : Nat) (hk : k ≤ l.length) : RdT w B A c (l.take k) := by
  obtain ⟨h1, h2, h3, h4⟩ := h
  have e : (l.take k).length = k := by rw [List.length_take]; omega
  refine ⟨?_, by omega, h3, fun hn => ?_⟩
  · rw [t3s_take, List.length_take]; omega
  · obtain ⟨b, o, h5, h6, h7⟩ := h4 (by omega)
    refine ⟨b, o, h5, h6, fun j u hu => h7 j u ?_⟩
    rw [t3s_take, List.getElem?_take] at hu
    split at hu
    · exact hu
    · cases hu
theorem runEv_take (room : Int) : ∀ (l : List T3) (k : Nat) (v r d lo : Int), (runEv room l v r d lo).2.2.2.2 = true → (runEv room (l.take k) v r d lo).2.2.2.2 = true
  | [], k, v, r, d, lo, h => by cases k <;> rfl
  | s :: l, 0, v, r, d, lo, h => rfl
  | s :: l, k + 1, v, r, d, lo, h => by
    rw [List.take_succ_cons, runEv_cons]
    rw [runEv_cons] at h
    by_cases hc : (evOn v room s.x s.y s.z).2.2.2.2 = true
    · rw [if_pos hc] at h ⊢; exact runEv_take room l k _ _ _ _ h
    · rw [if_neg hc] at h; cases h
def madeBk (room start : Int) (l : List T3) : Bk := ⟨room, start, l, (runEv room l start 0 0 0).1, (runEv room l start 0 0 0).2.1, (runEv room l start 0 0 0).2.2.1, (runEv room l start 0 0 0).2.2.2.1⟩
theorem bookOk_iff {b : Bk} (h : bookOk b = true) : inB b.room 1 1000000 = true ∧ inB b.start 0 b.room = true ∧ b.evs.length ≤ 40 ∧ (runEv b.room b.evs b.start 0 0 0).2.2.2.2 = true := by
  have h0 : (countBk b.room b.start b.evs).2.2.2.2 = true := by unfold bookOk at h; simp only [Bool.and_eq_true] at h; exact h.1.1.1.1
  unfold countBk at h0
  split at h0
  · rename_i hc
    simp only [Bool.and_eq_true, decide_eq_true_eq] at hc
    exact ⟨hc.1.1, hc.1.2, hc.2, h0⟩
  · cases h0
def strike (b : Bk) : Bk × Bool := if bookOk b = true ∧ 0 < b.evs.length then (madeBk b.room b.start (b.evs.take (b.evs.length - 1)), true) else (b, false)
def BkRet (b : Bk × Bool) (w : World) (e : Ending) (w' : World) : Prop := ∃ A' c', e = .returned (.tuple #[b.1.val A' c', .bool b.2]) ∧ w'.ownsRow w.heap.size 139 3 (.slice A' b.1.evs.length c') b.1.evs.length (t3s b.1.evs) ∧ Below w.heap.size w w'
theorem own_mono {w : World} {base base' : Nat} {e : TypeId} {sz n : Nat} {v : Value} {xs : List Value} (h : w.ownsRow base e sz v n xs) (hb : base' ≤ base) : w.ownsRow base' e sz v n xs := by
  refine ⟨h.1, ?_⟩
  rcases h.2 with h2 | ⟨g, cap, cur, hv, hg, r⟩
  · exact .inl h2
  · exact .inr ⟨g, cap, cur, hv, by omega, r⟩
end Go.Proofs.YtbkgofjajhplpaaDoor
