/- The water book: counted, BookOk. -/
import Derived.Test.YtnedbdpcimhfgaaDoorMem
import Derived.Test.YtnedbdpcimhfgaaDoorEvent
import Derived.Deep.RegionHeld3
import Derived.Deep.DeepCutAuto
import Derived.StillTailTactics
namespace Go.Proofs.YtnedbdpcimhfgaaDoor
open Go.RowKit
/-- What a list of events makes of level, rained, drunk and lost; false as soon as one fails. -/
def runEv (room : Int) : List T3 → Int → Int → Int → Int → Int × Int × Int × Int × Bool
  | [], v, r, d, l => (v, r, d, l, true)
  | e :: es, v, r, d, l => if (evOn v room e.x e.y e.z).2.2.2.2 then runEv room es (evOn v room e.x e.y e.z).1 (r + (evOn v room e.x e.y e.z).2.1) (d + (evOn v room e.x e.y e.z).2.2.1) (l + (evOn v room e.x e.y e.z).2.2.2.1) else (v, r, d, l, false)
theorem runEv_cons (room : Int) (e : T3) (es : List T3) (v r d l : Int) : runEv room (e :: es) v r d l = if (evOn v room e.x e.y e.z).2.2.2.2 then runEv room es (evOn v room e.x e.y e.z).1 (r + (evOn v room e.x e.y e.z).2.1) (d + (evOn v room e.x e.y e.z).2.2.1) (l + (evOn v room e.x e.y e.z).2.2.2.1) else (v, r, d, l, false) := rfl
theorem evOn_bounds (v room k l o : Int) (h : (evOn v room k l o).2.2.2.2 = true) : 0 ≤ (evOn v room k l o).2.1 ∧ (evOn v room k l o).2.1 ≤ 1000000 ∧ 0 ≤ (evOn v room k l o).2.2.1 ∧ (evOn v room k l o).2.2.1 ≤ 1000000 ∧ 0 ≤ (evOn v room k l o).2.2.2.1 ∧ (evOn v room k l o).2.2.2.1 ≤ 1000000 := by
  unfold evOn at h ⊢
  by_cases hb : (!(inB room 1 1000000 && inB v 0 room && inB l 0 1000000)) = true
  · rw [if_pos hb] at h; cases h
  · rw [if_neg hb] at h ⊢
    simp [inB] at hb
    by_cases h1 : k = 1 ∧ o = 0
    · rw [if_pos h1]; refine ⟨?_, ?_, ?_, ?_, ?_, ?_⟩ <;> simp only [] <;> omega
    · rw [if_neg h1] at h ⊢
      by_cases h2 : k = 2 ∧ (1 ≤ o ∧ o ≤ 999) ∧ l ≤ v
      · rw [if_pos h2]; refine ⟨?_, ?_, ?_, ?_, ?_, ?_⟩ <;> simp only [] <;> omega
      · rw [if_neg h2] at h ⊢
        by_cases h3 : k = 3 ∧ o = 0 ∧ l ≤ v
        · rw [if_pos h3]; refine ⟨?_, ?_, ?_, ?_, ?_, ?_⟩ <;> simp only [] <;> omega
        · rw [if_neg h3] at h; cases h
def countBk (room start : Int) (l : List T3) : Int × Int × Int × Int × Bool :=
  if inB room 1 1000000 && inB start 0 room && decide (l.length ≤ 40) then runEv room l start 0 0 0 else (start, 0, 0, 0, false)
structure Bk where
  room : Int
  start : Int
  evs : List T3
  level : Int
  rained : Int
  drunk : Int
  lost : Int
def Bk.val (b : Bk) (A : Option Addr) (c : Nat) : Value := .agg #[.int .i64 b.room, .int .i64 b.start, .slice A b.evs.length c, .int .i64 b.level, .int .i64 b.rained, .int .i64 b.drunk, .int .i64 b.lost]
end Go.Proofs.YtnedbdpcimhfgaaDoor
