/- Texts of the proof, joined: Queue, New. -/
import Derived.Test.YtpmmjhpmheooeaaGreatDoorP0
import Derived.Test.YtpmmjhpmheooeaaGreatDoorProg
namespace Go.Proofs.YtpmmjhpmheooeaaGreatDoor
set_option linter.unusedSimpArgs false
set_option linter.unusedVariables false
section
open Go.RowKit
def inB (x a b : Int) : Bool := decide (a ≤ x) && decide (x ≤ b)
theorem inB_iff {x a b : Int} : inB x a b = true ↔ a ≤ x ∧ x ≤ b := by unfold inB; simp
theorem inB_no {x a b : Int} : inB x a b = false ↔ ¬ (a ≤ x ∧ x ≤ b) := by rw [← inB_iff]; simp
theorem l01In_any (x a b : Int) (w : World) :
  Calls Tryz.prog 43 #[.int .i64 x, .int .i64 a, .int .i64 b] w fun e w' => e = .returned (.bool (inB x a b)) ∧ w = w' := by
 unfold inB
 by_cases h1 : a ≤ x <;> by_cases h2 : x ≤ b
 all_goals
  go_enter Tryz.func43, Tryz.ntmps43
  go_wp2
  go_ret
  simp [h1, h2]
theorem l04Water_any (x : Int) (w : World) :
  Calls Tryz.prog 159 #[.int .i64 x] w fun e w' => e = .returned (.bool (inB x 0 1000000)) ∧ w = w' := by
 go_enter Tryz.func159, Tryz.ntmps159
 go_wp2_with (go_at_call 43; refine (l01In_any _ _ _ _).mono ?_; rintro e w' ⟨rfl, rfl⟩)
 go_ret
 exact ⟨rfl, rfl⟩
theorem within_any (x a b : Int) (w : World) :
  Calls Tryz.prog 97 #[.int .i64 x, .int .i64 a, .int .i64 b] w fun e w' => e = .returned (.bool (inB x a b)) ∧ w = w' := by
 unfold inB
 by_cases h1 : a ≤ x <;> by_cases h2 : x ≤ b
 all_goals
  go_enter Tryz.func97, Tryz.ntmps97
  go_wp2
  go_ret
  simp [h1, h2]
end
section
open Go.RowKit
theorem name_wp {P : Program} {c : Code} {Q : Exit → Act → World → Prop} {a : Act} {w : World} (h : ∀ W, W = w → c.wp P Q a W) : c.wp P Q a w := h w rfl
/-- A later world in which nothing of W has turned. -/
structure NewW (W : World) where
 w : World
 h : Below W.heap.size W w
instance (W : World) : Nonempty (NewW W) := ⟨⟨W, Below.refl _ _⟩⟩
theorem wp_region_new {P : Program} {id : Nat} {Q : Exit → Act → World → Prop} {a : Act} {w : World} {l : List Oper} (hm : P.follows .mixedOrders = true) (hB : Region.lexB .any l.toArray = true)
  (h : wpQuiet P l.toArray (fun w' => ∃ x : NewW w, w' = x.w) (fun a' => ∀ w', (∃ x : NewW w, w' = x.w) → Q .normal a' w') l a) : (Code.region id l.toArray true).wp P Q a w :=
 wp_region_quiet (C := fun w' => ∃ x : NewW w, w' = x.w) hm hB ⟨⟨_, (Below.refl w.heap.size w).drew⟩, rfl⟩ (by simpa using h)
theorem NewW.call {P : Program} {f : FuncId} {args : Array Value} {W : World} {x : NewW W} {v : Value} (h : Calls P f args x.w fun e w' => e = .returned v ∧ Below x.w.heap.size x.w w') :
  Calls P f args x.w fun e w'' => e = .returned v ∧ ∃ y : NewW W, w'' = y.w :=
 h.mono fun _ w' ⟨he, hb⟩ => ⟨he, ⟨w', x.h.trans (hb.mono x.h.size)⟩, rfl⟩
theorem NewW.same {P : Program} {f : FuncId} {args : Array Value} {W : World} {x : NewW W} {v : Value} (h : Calls P f args x.w fun e w' => e = .returned v ∧ x.w = w') :
  Calls P f args x.w fun e w'' => e = .returned v ∧ ∃ y : NewW W, w'' = y.w :=
 h.mono fun _ _ ⟨he, hb⟩ => ⟨he, x, hb.symm⟩
theorem NewW.cell {W : World} {p : Addr} {v : Value} (h : W.cell? p = some v) (x : NewW W) : x.w.cell? p = some v := by
 rw [x.h.cell (World.block_lt_of_cell? W _ h)]; exact h
theorem Rd.newW {W : World} {sz n c : Nat} {A : Option Addr} {xs : List Value} (h : Rd W W.heap.size sz A n c xs) (x : NewW W) : Rd x.w x.w.heap.size sz A n c xs := Rd.below' h x.h
/-- All cells of a block that is known whole. -/
theorem Blk.cells {w : World} {g : Nat} {t : TypeId} {cs : Array Value} (h : Blk w g t cs) : ∀ i, w.cell? ⟨g, i, none⟩ = cs[i]? := fun i => h.cell i
theorem Blk.frozens {w : World} {g : Nat} {t : TypeId} {cs : Array Value} (h : Blk w g t cs) : ∀ i, w.frozen? ⟨g, i, none⟩ = false := fun i => h.frozen i
/-- A block carried over a call: what later steps ask of it. -/
theorem Blk.mv {w w' : World} {g B : Nat} {t : TypeId} {cs : Array Value} (h : Blk w g t cs) (hb : Below B w w') (hl : g < w.heap.size → g < B := by intro h9; first | exact h9 | omega) :
  Blk w' g t cs ∧ (∀ i : Nat, w'.cell? ⟨g, i, none⟩ = cs[i]?) ∧ (∀ i : Nat, w'.frozen? ⟨g, i, none⟩ = false) ∧ g < w'.heap.size ∧ g ≠ w'.heap.size :=
 have k := h.below hb (hl h.lt)
 ⟨k, k.cell, k.frozen, k.lt, Nat.ne_of_lt k.lt⟩
theorem Blk.set2 {w : World} {g : Nat} {t : TypeId} {a b : Value} (h : Blk w g t #[a, b]) (x y : Value) : Blk ((w.setCell ⟨g, 0, none⟩ x).setCell ⟨g, 1, none⟩ y) g t #[x, y] := by
 simpa using (h.set_ 0 x).set_ 1 y
theorem Blk.set3 {w : World} {g : Nat} {t : TypeId} {a b c : Value} (h : Blk w g t #[a, b, c]) (x y z : Value) : Blk (((w.setCell ⟨g, 0, none⟩ x).setCell ⟨g, 1, none⟩ y).setCell ⟨g, 2, none⟩ z) g t #[x, y, z] := by
 simpa using ((h.set_ 0 x).set_ 1 y).set_ 2 z
theorem Blk.set7of8 {w : World} {g : Nat} {t : TypeId} {c0 c1 c2 c3 c4 c5 c6 c7 : Value} (h : Blk w g t #[c0, c1, c2, c3, c4, c5, c6, c7]) (x0 x1 x2 x3 x4 x5 x6 : Value) : Blk (((((((w.setCell ⟨g, 0, none⟩ x0).setCell ⟨g, 1, none⟩ x1).setCell ⟨g, 2, none⟩ x2).setCell ⟨g, 3, none⟩ x3).setCell ⟨g, 4, none⟩ x4).setCell ⟨g, 5, none⟩ x5).setCell ⟨g, 6, none⟩ x6) g t #[x0, x1, x2, x3, x4, x5, x6, c7] := by
 simpa using (((((((h.set_ 0 x0).set_ 1 x1).set_ 2 x2).set_ 3 x3).set_ 4 x4).set_ 5 x5).set_ 6 x6)
theorem Blk.set8 {w : World} {g : Nat} {t : TypeId} {c0 c1 c2 c3 c4 c5 c6 c7 : Value} (h : Blk w g t #[c0, c1, c2, c3, c4, c5, c6, c7]) (x0 x1 x2 x3 x4 x5 x6 x7 : Value) : Blk ((((((((w.setCell ⟨g, 0, none⟩ x0).setCell ⟨g, 1, none⟩ x1).setCell ⟨g, 2, none⟩ x2).setCell ⟨g, 3, none⟩ x3).setCell ⟨g, 4, none⟩ x4).setCell ⟨g, 5, none⟩ x5).setCell ⟨g, 6, none⟩ x6).setCell ⟨g, 7, none⟩ x7) g t #[x0, x1, x2, x3, x4, x5, x6, x7] := by
 simpa using ((((((((h.set_ 0 x0).set_ 1 x1).set_ 2 x2).set_ 3 x3).set_ 4 x4).set_ 5 x5).set_ 6 x6).set_ 7 x7)
theorem Blk.set7 {w : World} {g : Nat} {t : TypeId} {c0 c1 c2 c3 c4 c5 c6 : Value} (h : Blk w g t #[c0, c1, c2, c3, c4, c5, c6]) (x0 x1 x2 x3 x4 x5 x6 : Value) : Blk (((((((w.setCell ⟨g, 0, none⟩ x0).setCell ⟨g, 1, none⟩ x1).setCell ⟨g, 2, none⟩ x2).setCell ⟨g, 3, none⟩ x3).setCell ⟨g, 4, none⟩ x4).setCell ⟨g, 5, none⟩ x5).setCell ⟨g, 6, none⟩ x6) g t #[x0, x1, x2, x3, x4, x5, x6] := by
 simpa using (((((((h.set_ 0 x0).set_ 1 x1).set_ 2 x2).set_ 3 x3).set_ 4 x4).set_ 5 x5).set_ 6 x6)
theorem Blk.setlast8 {w : World} {g : Nat} {t : TypeId} {c0 c1 c2 c3 c4 c5 c6 c7 : Value} (h : Blk w g t #[c0, c1, c2, c3, c4, c5, c6, c7]) (x : Value) : Blk (w.setCell ⟨g, 7, none⟩ x) g t #[c0, c1, c2, c3, c4, c5, c6, x] := by
 simpa using h.set_ 7 x
theorem Blk.newW {W : World} {g : Nat} {t : TypeId} {cs : Array Value} (h : Blk W g t cs) (x : NewW W) : Blk x.w g t cs := h.below x.h h.lt
end
end Go.Proofs.YtpmmjhpmheooeaaGreatDoor
