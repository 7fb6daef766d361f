/- Steps that a draw's world keeps. -/
import Derived.Test.YtpmmjhpmheooeaaDoorDraw
import Derived.Test.YtpmmjhpmheooeaaDoorKa
namespace Go.Proofs.YtpmmjhpmheooeaaDoor
set_option linter.unusedSimpArgs false
set_option linter.unusedVariables false
open Go.RowKit
theorem Cur.drew {w : World} {p : Nat} (h : Cur w p) : Cur w.drew p := h
theorem Drew.here {p : Nat} {w : World} (h : Cur w p) : Drew p w w := ⟨h, World.grownBy.refl _ _⟩
theorem Drew.of_drew {p : Nat} {w w' : World} (h : Drew p w.drew w') : Drew p w w' := ⟨h.1, h.2.os, h.2.tape, h.2.output, h.2.size, h.2.block⟩
theorem Drew.alloc {p : Nat} {w w' : World} (h : Drew p w w') (o : Obj) : Drew p w (w'.alloc o) :=
  ⟨h.1.below (Below.alloc (Below.refl w'.heap.size w') (Nat.le_refl _) o) h.1.lt, grownBy_trans h.2 ⟨rfl, rfl, rfl, by simp, fun k hk _ => Below.heap_alloc w' _ k hk⟩⟩
theorem Drew.store {p q : Nat} {w w' : World} (h : Drew p w w') (hp : p < w.heap.size) (hq : w.heap.size ≤ q) (o : Nat) (u : Value) : Drew p w (w'.setCell ⟨q, o, none⟩ u) :=
  ⟨h.1.other (grown_set (World.grownBy.refl w' (some q)) o u) (fun k hk => by have := Option.some.inj hk; omega), ⟨h.2.os, h.2.tape, h.2.output, by have := h.2.size; simpa using this, fun k hk hn => (Below.heap_setCell w' _ u k (fun e => by simp at e; omega)).trans (h.2.block k hk hn)⟩⟩
theorem Drew.below {p B : Nat} {w w' w'' : World} (h : Drew p w w') (hb : Below B w' w'') (hB : w'.heap.size ≤ B) : Drew p w w'' :=
  ⟨h.1.below hb (by have := h.1.lt; omega), grownBy_trans h.2 ⟨hb.os, hb.tape, hb.output, hb.size, fun k hk _ => hb.block k (by omega)⟩⟩
theorem Drew.blk {p g : Nat} {w w' : World} {t : TypeId} {cs : Array Value} (h : Drew p w w') (hk : Blk w g t cs) (hg : g ≠ p) : Blk w' g t cs := hk.grown h.2 (fun e => hg (Option.some.inj e))
theorem Drew.rd {p : Nat} {w w' : World} {base sz n c : Nat} {e : TypeId} {A : Option Addr} {xs : List Value} (h : Drew p w w') (ho : w.ownsRow base e sz (.slice A n c) n xs) (hb : p < base) : w'.ownsRow base e sz (.slice A n c) n xs :=
  (Row2.same (Row2.born ho) (fun g hg => h.2.block g (ho.lt g hg).2 (fun e => by have h9 := (ho.lt g hg).1; have := Option.some.inj e; omega))).1
end Go.Proofs.YtpmmjhpmheooeaaDoor
