/- Texts of the proof, joined: App, Row, New, Draw, DrewK, Queue. -/
import Derived.Test.YtpmmjhpmheooeaaGreatDoorQ0
import Derived.Test.YtpmmjhpmheooeaaGreatDoorProg
import Derived.IntWalk
import Derived.Deep.RegionHeld3
namespace Go.Proofs.YtpmmjhpmheooeaaGreatDoor
set_option linter.unusedSimpArgs false
set_option linter.unusedVariables false
section
open Go.RowKit
theorem infoI : (Tryz.prog.info? 3).map (fun i => (i.zero, i.size, i.bytes)) = some (some (.int .i64 0), 1, 8) := by kernel_rfl
/-- one int appended to an owned row. -/
theorem wpList_app1 {w : World} {ops : Array Oper} {rest : List Oper} {o : Oper} {a : Act} {Q : Exit → Act → World → Prop} (hgd : o.guard = none) (s x : Operand)
  (ho : o.op = .call { callee := .builtin .append, args := #[s, x], argTypes := #[41, 41] })
  (base : Nat) (A : Option Addr) (c : Nat) (l : List Int) (hs : a.eval s = .slice A l.length c) (hown : OwnI w base A c l)
  (g : Nat) (y : Int) (hx : a.eval x = .slice (some ⟨g, 0, none⟩) 1 1) (hc : w.cell? ⟨g, 0, none⟩ = some (.int .i64 y)) (hlen : l.length ≤ 1099511627776) (hbase : base ≤ w.heap.size)
  (h : ∀ A' c' w', OwnI w' base A' c' (l ++ [y]) → w.grownBy w' (Value.slice A l.length c).ownBlock → wpList Tryz.prog ops Q rest (a.put o.dst (.slice A' (l.length + 1) c')) w') :
  wpList Tryz.prog ops Q (o :: rest) a w := by
 obtain ⟨i0, hi, hz0, hz1, hz2⟩ := info_parts infoI
 refine wpList_append_own _ hgd s x 41 ho base 3 i0 (.int .i64 0) 1 8 Tryz.underlying41 hi hz0 hz1 hz2 rfl (by decide) _ _ _ hs hown ⟨g, 0, none⟩ 1 1 [.int .i64 y] hx rfl ?_ ?_ (by unfold maxLen; omega) (by omega) hbase ?_
 ·intro j u hj
  match j, hj with
  |0, hj => simp at hj; subst hj; rw [Addr.add_lit]; exact hc
 ·intro u hu; simp at hu; subst hu; rfl
 ·intro v' w1 hown' hgrow _
  have hex : ∃ A' c', v' = .slice A' (l.length + 1) c' := by
   rcases hown'.2 with ⟨rfl, h0⟩ | ⟨g', cap, cur, rfl, _⟩
   ·omega
   ·exact ⟨_, _, rfl⟩
  obtain ⟨A', c', rfl⟩ := hex
  refine h A' c' w1 ?_ hgrow
  unfold OwnI
  rw [List.length_append]
  have e : ints (l ++ [y]) = ints l ++ [.int .i64 y] := by unfold ints; rw [List.map_append]; rfl
  rw [e]
  exact hown'
theorem cell_new1 (w : World) (x : Value) (t : TypeId) : (w.alloc (.cells #[x] t)).cell? ⟨w.heap.size, 0, none⟩ = some x := by
 have := cell_one_new w x t 0 x rfl
 rwa [Addr.add_lit] at this
theorem own_nil (w : World) (base : Nat) : OwnI w base none 0 [] := World.ownsRow_nil _ _ _ _
end
section
open Go.RowKit
theorem name_wp {P : Program} {c : Code} {Q : Exit → Act → World → Prop} {a : Act} {w : World} (h : ∀ W, W = w → c.wp P Q a W) : c.wp P Q a w := h w rfl
/-- A later world in which nothing of W has turned. -/
structure NewW (W : World) where
 w : World
 h : Below W.heap.size W w
instance (W : World) : Nonempty (NewW W) := ⟨⟨W, Below.refl _ _⟩⟩
theorem wp_region_new {P : Program} {id : Nat} {Q : Exit → Act → World → Prop} {a : Act} {w : World} {l : List Oper} (hm : P.follows .mixedOrders = true) (hB : Region.lexB .any l.toArray = true)
  (h : wpQuiet P l.toArray (fun w' => ∃ x : NewW w, w' = x.w) (fun a' => ∀ w', (∃ x : NewW w, w' = x.w) → Q .normal a' w') l a) : (Code.region id l.toArray true).wp P Q a w :=
 wp_region_quiet (C := fun w' => ∃ x : NewW w, w' = x.w) hm hB ⟨⟨_, (Below.refl w.heap.size w).drew⟩, rfl⟩ (by simpa using h)
theorem NewW.call {P : Program} {f : FuncId} {args : Array Value} {W : World} {x : NewW W} {v : Value} (h : Calls P f args x.w fun e w' => e = .returned v ∧ Below x.w.heap.size x.w w') :
  Calls P f args x.w fun e w'' => e = .returned v ∧ ∃ y : NewW W, w'' = y.w :=
 h.mono fun _ w' ⟨he, hb⟩ => ⟨he, ⟨w', x.h.trans (hb.mono x.h.size)⟩, rfl⟩
theorem NewW.same {P : Program} {f : FuncId} {args : Array Value} {W : World} {x : NewW W} {v : Value} (h : Calls P f args x.w fun e w' => e = .returned v ∧ x.w = w') :
  Calls P f args x.w fun e w'' => e = .returned v ∧ ∃ y : NewW W, w'' = y.w :=
 h.mono fun _ _ ⟨he, hb⟩ => ⟨he, x, hb.symm⟩
theorem NewW.cell {W : World} {p : Addr} {v : Value} (h : W.cell? p = some v) (x : NewW W) : x.w.cell? p = some v := by
 rw [x.h.cell (World.block_lt_of_cell? W _ h)]; exact h
theorem Rd.newW {W : World} {sz n c : Nat} {A : Option Addr} {xs : List Value} (h : Rd W W.heap.size sz A n c xs) (x : NewW W) : Rd x.w x.w.heap.size sz A n c xs := Rd.below' h x.h
/-- All cells of a block that is known whole. -/
theorem Blk.cells {w : World} {g : Nat} {t : TypeId} {cs : Array Value} (h : Blk w g t cs) : ∀ i, w.cell? ⟨g, i, none⟩ = cs[i]? := fun i => h.cell i
theorem Blk.frozens {w : World} {g : Nat} {t : TypeId} {cs : Array Value} (h : Blk w g t cs) : ∀ i, w.frozen? ⟨g, i, none⟩ = false := fun i => h.frozen i
/-- A block carried over a call: what later steps ask of it. -/
theorem Blk.mv {w w' : World} {g B : Nat} {t : TypeId} {cs : Array Value} (h : Blk w g t cs) (hb : Below B w w') (hl : g < w.heap.size → g < B := by intro h9; first | exact h9 | omega) :
  Blk w' g t cs ∧ (∀ i : Nat, w'.cell? ⟨g, i, none⟩ = cs[i]?) ∧ (∀ i : Nat, w'.frozen? ⟨g, i, none⟩ = false) ∧ g < w'.heap.size ∧ g ≠ w'.heap.size :=
 have k := h.below hb (hl h.lt)
 ⟨k, k.cell, k.frozen, k.lt, Nat.ne_of_lt k.lt⟩
theorem Blk.set2 {w : World} {g : Nat} {t : TypeId} {a b : Value} (h : Blk w g t #[a, b]) (x y : Value) : Blk ((w.setCell ⟨g, 0, none⟩ x).setCell ⟨g, 1, none⟩ y) g t #[x, y] := by
 simpa using (h.set_ 0 x).set_ 1 y
theorem Blk.set3 {w : World} {g : Nat} {t : TypeId} {a b c : Value} (h : Blk w g t #[a, b, c]) (x y z : Value) : Blk (((w.setCell ⟨g, 0, none⟩ x).setCell ⟨g, 1, none⟩ y).setCell ⟨g, 2, none⟩ z) g t #[x, y, z] := by
 simpa using ((h.set_ 0 x).set_ 1 y).set_ 2 z
theorem Blk.set7of8 {w : World} {g : Nat} {t : TypeId} {c0 c1 c2 c3 c4 c5 c6 c7 : Value} (h : Blk w g t #[c0, c1, c2, c3, c4, c5, c6, c7]) (x0 x1 x2 x3 x4 x5 x6 : Value) : Blk (((((((w.setCell ⟨g, 0, none⟩ x0).setCell ⟨g, 1, none⟩ x1).setCell ⟨g, 2, none⟩ x2).setCell ⟨g, 3, none⟩ x3).setCell ⟨g, 4, none⟩ x4).setCell ⟨g, 5, none⟩ x5).setCell ⟨g, 6, none⟩ x6) g t #[x0, x1, x2, x3, x4, x5, x6, c7] := by
 simpa using (((((((h.set_ 0 x0).set_ 1 x1).set_ 2 x2).set_ 3 x3).set_ 4 x4).set_ 5 x5).set_ 6 x6)
theorem Blk.set8 {w : World} {g : Nat} {t : TypeId} {c0 c1 c2 c3 c4 c5 c6 c7 : Value} (h : Blk w g t #[c0, c1, c2, c3, c4, c5, c6, c7]) (x0 x1 x2 x3 x4 x5 x6 x7 : Value) : Blk ((((((((w.setCell ⟨g, 0, none⟩ x0).setCell ⟨g, 1, none⟩ x1).setCell ⟨g, 2, none⟩ x2).setCell ⟨g, 3, none⟩ x3).setCell ⟨g, 4, none⟩ x4).setCell ⟨g, 5, none⟩ x5).setCell ⟨g, 6, none⟩ x6).setCell ⟨g, 7, none⟩ x7) g t #[x0, x1, x2, x3, x4, x5, x6, x7] := by
 simpa using ((((((((h.set_ 0 x0).set_ 1 x1).set_ 2 x2).set_ 3 x3).set_ 4 x4).set_ 5 x5).set_ 6 x6).set_ 7 x7)
theorem Blk.set7 {w : World} {g : Nat} {t : TypeId} {c0 c1 c2 c3 c4 c5 c6 : Value} (h : Blk w g t #[c0, c1, c2, c3, c4, c5, c6]) (x0 x1 x2 x3 x4 x5 x6 : Value) : Blk (((((((w.setCell ⟨g, 0, none⟩ x0).setCell ⟨g, 1, none⟩ x1).setCell ⟨g, 2, none⟩ x2).setCell ⟨g, 3, none⟩ x3).setCell ⟨g, 4, none⟩ x4).setCell ⟨g, 5, none⟩ x5).setCell ⟨g, 6, none⟩ x6) g t #[x0, x1, x2, x3, x4, x5, x6] := by
 simpa using (((((((h.set_ 0 x0).set_ 1 x1).set_ 2 x2).set_ 3 x3).set_ 4 x4).set_ 5 x5).set_ 6 x6)
theorem Blk.setlast8 {w : World} {g : Nat} {t : TypeId} {c0 c1 c2 c3 c4 c5 c6 c7 : Value} (h : Blk w g t #[c0, c1, c2, c3, c4, c5, c6, c7]) (x : Value) : Blk (w.setCell ⟨g, 7, none⟩ x) g t #[c0, c1, c2, c3, c4, c5, c6, x] := by
 simpa using h.set_ 7 x
theorem Blk.newW {W : World} {g : Nat} {t : TypeId} {cs : Array Value} (h : Blk W g t cs) (x : NewW W) : Blk x.w g t cs := h.below x.h h.lt
end
section
open Go.RowKit
set_option maxRecDepth 20000
theorem i64_and255 (n : Int) : bits .and .i64 n 255 = n % 256 := by
 have h127 : (BitVec.ofInt 64 255).toNat = 2 ^ 8 - 1 := by decide
 have key : (BitVec.ofInt 64 n &&& BitVec.ofInt 64 255).toNat = (n % ((2 ^ 64 : Nat) : Int)).toNat % 2 ^ 8 := by
  rw [BitVec.toNat_and, BitVec.toNat_ofInt, h127, Nat.and_two_pow_sub_one_eq_mod]
 show IntKind.i64.wrap ((BitVec.ofInt 64 n &&& BitVec.ofInt 64 255).toNat : Nat) = n % 256
 rw [key, IntKind.wrap_i64]
 omega
def bts (l : List Int) : List Value := l.map (Value.int .u8)
theorem bts_len (l : List Int) : (bts l).length = l.length := by simp [bts]
/-- A slice of bytes that reads as l. -/
def RdY (w : World) (B : Nat) (A : Option Addr) (c : Nat) (l : List Int) : Prop := Rd w B 1 A l.length c (bts l) ∧ ∀ x ∈ l, 0 ≤ x ∧ x ≤ 255
theorem RdY.le {w : World} {B c : Nat} {A : Option Addr} {l : List Int} (h : RdY w B A c l) : l.length ≤ c ∧ c ≤ 9223372036854775807 := ⟨h.1.2.1, h.1.2.2.1⟩
theorem RdY.at_ {w : World} {B c : Nat} {A : Option Addr} {l : List Int} (h : RdY w B A c l) {k : Nat} (hk : k < l.length) :
  ∃ b o x, A = some ⟨b, o, none⟩ ∧ b < B ∧ l[k]? = some x ∧ w.cell? ⟨b, o + k, none⟩ = some (.int .u8 x) ∧ 0 ≤ x ∧ x ≤ 255 := by
 obtain ⟨⟨_, _, _, h4⟩, h5⟩ := h
 obtain ⟨b, o, e, hb, hc⟩ := h4 (by omega)
 have hx : l[k]? = some l[k] := List.getElem?_eq_getElem hk
 have hr := h5 _ (List.getElem_mem hk)
 exact ⟨b, o, l[k], e, hb, hx, hc k _ (by unfold bts; rw [List.getElem?_map, hx]; rfl), hr.1, hr.2⟩
theorem RdY.keep {w w' : World} {B c : Nat} {A : Option Addr} {l : List Int} (h : RdY w B A c l) (hk : ∀ p : Addr, p.block < B → w'.cell? p = w.cell? p) : RdY w' B A c l := ⟨Rd.keep h.1 hk, h.2⟩
theorem RdY.below {w w' : World} {c : Nat} {A : Option Addr} {l : List Int} (h : RdY w w.heap.size A c l) (hb : Below w.heap.size w w') : RdY w' w'.heap.size A c l := ⟨Rd.below' h.1 hb, h.2⟩
/-- Block p holds a cursor. -/
def Cur (w : World) (p : Nat) : Prop := ∃ (A : Option Addr) (c : Nat) (l : List Int) (i : Nat) (h : Int), Blk w p 82 #[.slice A l.length c, .int .i64 i, .int .i64 h] ∧ i ≤ l.length ∧ RdY w p A c l
theorem Cur.lt {w : World} {p : Nat} (h : Cur w p) : p < w.heap.size := by obtain ⟨_, _, _, _, _, hb, _⟩ := h; exact hb.lt
theorem Cur.below {w w' : World} {p B : Nat} (h : Cur w p) (hb : Below B w w') (hp : p < B) : Cur w' p := by
 obtain ⟨A, c, l, i, x, h1, h2, h3⟩ := h
 exact ⟨A, c, l, i, x, h1.below hb hp, h2, h3.keep fun q hq => hb.cell (by omega)⟩
theorem Cur.other {w w' : World} {p : Nat} {row : Option Nat} (h : Cur w p) (hg : w.grownBy w' row) (hr : ∀ k, row = some k → p < k) : Cur w' p := by
 have hl := h.lt
 obtain ⟨A, c, l, i, x, h1, h2, h3⟩ := h
 refine ⟨A, c, l, i, x, h1.grown hg (fun e => by have := hr p e.symm; omega), h2, h3.keep fun q hq => World.cell?_of_block (hg.block _ (by omega) (fun e => by have := hr _ e.symm; omega))⟩
theorem Cur.drewN {w : World} {p : Nat} (h : Cur w p) (n : Nat) : Cur (w.drewN n) p := h
theorem Blk.c3 {w : World} {g : Nat} {t : TypeId} {x y z : Value} (h : Blk w g t #[x, y, z]) (u : Value) : Blk (w.setCell ⟨g, 2, none⟩ u) g t #[x, y, u] := by simpa using h.set_ 2 u
theorem Blk.c2 {w : World} {g : Nat} {t : TypeId} {x y z : Value} (h : Blk w g t #[x, y, z]) (u : Value) : Blk (w.setCell ⟨g, 1, none⟩ u) g t #[x, u, z] := by simpa using h.set_ 1 u
theorem grown_set {w w' : World} {g : Nat} (h : w.grownBy w' (some g)) (o : Nat) (u : Value) : w.grownBy (w'.setCell ⟨g, o, none⟩ u) (some g) :=
 grownBy_trans h ⟨rfl, rfl, rfl, by simp, fun k hk hn => Below.heap_setCell w' _ u k (fun e => hn (by rw [e]))⟩
set_option maxHeartbeats 1600000 in
theorem l01Byte_any (p : Nat) (w : World) (h : Cur w p) :
  Calls Tryz.prog 74 #[.pointer (some ⟨p, 0, none⟩)] w fun e w' => ∃ x, e = .returned (.int .i64 x) ∧ 0 ≤ x ∧ x ≤ 255 ∧ Cur w' p ∧ w.grownBy w' (some p) := by
 have hpl := h.lt
 obtain ⟨A, c, l, i, hh, hk, hil, hr⟩ := h
 obtain ⟨hl, hm⟩ := hr.le
 have kc := hk.cells
 have kf := hk.frozens
 go_enter Tryz.func74, Tryz.ntmps74
 go_wp2_with fail
 first | refine name_world ?_ | refine name_wp ?_
 intro W1 hW1
 obtain ⟨h2, hh2⟩ : ∃ h2 : Int, Value.int .i64 h2 = .int .i64 (wrap64 (wrap64 (hh * 6364136223846793005) + 1442695040888963407)) := ⟨_, rfl⟩
 rw [← hh2] at hW1
 have kb1 : Blk W1 p 82 #[.slice A l.length c, .int .i64 i, .int .i64 h2] := by rw [hW1]; exact hk.c3 _
 have hg1 : w.grownBy W1 (some p) := by rw [hW1]; exact grown_set (World.grownBy.refl _ _) _ _
 have hy1 : RdY W1 p A c l := hr.keep fun q hq => World.cell?_of_block (hg1.block _ (by omega) (fun e => by have := Option.some.inj e; omega))
 clear hW1 kc kf hk hh2
 have kc := kb1.cells
 have kf := kb1.frozens
 have KB := Lib.hid (And.intro kb1 hg1)
 clear kb1 hg1
 have i0 : (0 : Int) ≤ (i : Int) := by omega
 by_cases hlt : i < l.length
 ·obtain ⟨b, o, y, rfl, hb, hy, hcy, y0, y1⟩ := hy1.at_ hlt
  have i1 : (i : Int) < (l.length : Int) := by omega
  have hyw : IntKind.i64.wrap y = y := IntWalk.i64_in _ (by omega)
  have hne : b ≠ p := by omega
  have kb2 := KB.out.1.c2 (.int .i64 ((i : Int) + 1))
  have hg2 := grown_set KB.out.2 1 (.int .i64 ((i : Int) + 1))
  have hy2 : RdY (W1.setCell ⟨p, 1, none⟩ (.int .i64 ((i : Int) + 1))) p (some ⟨b, o, none⟩) c l := hy1.keep fun q hq => World.cell?_of_block (Below.heap_setCell W1 _ _ q.block (fun e => by simp at e; omega))
  have H2 := Lib.hid (And.intro kb2 (And.intro hg2 hy2))
  clear kb2 hg2 hy2 hy hr
  go_wp2_with fail
  go_quiet (fail)
  go_wp2_with fail
  go_quiet (fail)
  go_wp2_with fail
  go_quiet (fail)
  go_wp2_with fail
  go_ret
  refine ⟨_, rfl, ?_, ?_, ⟨some ⟨b, o, none⟩, c, l, i + 1, h2, H2.out.1, hlt, H2.out.2.2⟩, ⟨H2.out.2.1.os, H2.out.2.1.tape, H2.out.2.1.output, H2.out.2.1.size, H2.out.2.1.block⟩⟩
  ·rw [i64_and255]; omega
  ·rw [i64_and255]; omega
 ·have i1 : ¬ (i : Int) < (l.length : Int) := by omega
  go_wp2_with fail
  go_quiet (fail)
  go_wp2_with fail
  go_quiet (fail)
  go_wp2_with fail
  go_ret
  refine ⟨_, rfl, ?_, ?_, ⟨A, c, l, i, h2, KB.out.1, hil, hy1⟩, ⟨KB.out.2.os, KB.out.2.tape, KB.out.2.output, KB.out.2.size, KB.out.2.block⟩⟩
  ·rw [i64_and255]; omega
  ·rw [i64_and255]; omega
set_option maxHeartbeats 1600000 in
theorem l01New_any (A : Option Addr) (c : Nat) (l : List Int) (w : World) (h : RdY w w.heap.size A c l) (hs : l.length ≤ 1048576) :
  Calls Tryz.prog 31 #[.slice A l.length c] w fun e w' => ∃ p, e = .returned (.pointer (some ⟨p, 0, none⟩)) ∧ w.heap.size ≤ p ∧ Cur w' p ∧ Below w.heap.size w w' := by
 obtain ⟨hl, hm⟩ := h.le
 go_enter Tryz.func31, Tryz.ntmps31
 go_wp2_with fail
 go_loop [3, 4] (fun hh i => ∃ (k : Nat) (x : Int), k ≤ l.length ∧ k ≤ 4000 ∧ i = .int .i64 k ∧ hh = .int .i64 x) (fun _ i => l.length - (intOf i).toNat)
 case atStart => exact ⟨0, _, Nat.zero_le _, by omega, rfl, rfl⟩
 case round =>
  obtain ⟨k, x, hk, hk4, rfl, rfl⟩ := hrel
  by_cases hlt : k < l.length
  ·by_cases h4 : k < 4000
   ·obtain ⟨b, o, y, rfl, hb, hy, hcy, y0, y1⟩ := h.at_ hlt
    have hki : (k : Int) < (l.length : Int) := by omega
    have hk4i : (k : Int) < 4000 := by omega
    go_wp2_with fail
    go_round
    case rel => exact ⟨k + 1, _, by omega, by omega, by go_num, rfl⟩
    case measure => simp [intOf]; omega
   ·have hki : (k : Int) < (l.length : Int) := by omega
    have hk4i : ¬ (k : Int) < 4000 := by omega
    go_wp2_with fail
    go_ret
    exact ⟨w.heap.size, rfl, Nat.le_refl _, ⟨A, c, l, 0, _, Blk.new _ _ _, Nat.zero_le _, h.keep fun q hq => (Below.alloc (Below.refl w.heap.size w) (Nat.le_refl _) _).cell hq⟩, by exact tacT⟩
  ·have hki : ¬ (k : Int) < (l.length : Int) := by omega
   go_wp2_with fail
   go_ret
   exact ⟨w.heap.size, rfl, Nat.le_refl _, ⟨A, c, l, 0, _, Blk.new _ _ _, Nat.zero_le _, h.keep fun q hq => (Below.alloc (Below.refl w.heap.size w) (Nat.le_refl _) _).cell hq⟩, by exact tacT⟩
/-- What a draw leaves: the cursor, and nothing else turned. -/
def Drew (p : Nat) (w w' : World) : Prop := Cur w' p ∧ w.grownBy w' (some p)
theorem Drew.trans {p : Nat} {a b c : World} (h : Drew p a b) (k : Drew p b c) : Drew p a c := ⟨k.1, grownBy_trans h.2 k.2⟩
theorem Drew.size {p : Nat} {a b : World} (h : Drew p a b) : a.heap.size ≤ b.heap.size := h.2.size
theorem byteD (p : Nat) (w : World) (h : Cur w p) : Calls Tryz.prog 74 #[.pointer (some ⟨p, 0, none⟩)] w fun e w' => ∃ x, e = .returned (.int .i64 x) ∧ 0 ≤ x ∧ x ≤ 255 ∧ Drew p w w' :=
 (l01Byte_any p w h).mono fun _ _ ⟨x, h1, h2, h3, h4, h5⟩ => ⟨x, h1, h2, h3, h4, h5⟩
set_option maxHeartbeats 1600000 in
theorem l01Below_any (p : Nat) (n : Int) (w : World) (h : Cur w p) (hn : n ≤ 1000000000) :
  Calls Tryz.prog 42 #[.pointer (some ⟨p, 0, none⟩), .int .i64 n] w fun e w' => ∃ x, e = .returned (.int .i64 x) ∧ 0 ≤ x ∧ (0 < n → x < n) ∧ (n ≤ 0 → x = 0) ∧ Drew p w w' := by
 by_cases h0 : n ≤ 0
 ·go_enter Tryz.func42, Tryz.ntmps42
  go_wp2_with fail
  go_ret
  exact ⟨0, rfl, by omega, by omega, fun _ => rfl, h, World.grownBy.refl _ _⟩
 by_cases h1 : n ≤ 256
 ·go_enter Tryz.func42, Tryz.ntmps42
  go_wp2_with fail
  refine (byteD p w h).mono ?_
  rintro e w1 ⟨x, rfl, x0, x1, hd⟩
  have hD := Lib.hid hd
  clear hd
  have ht : x.tmod n = x % n := Int.tmod_eq_emod_of_nonneg x0
  have hne : n ≠ 0 := by omega
  go_wp2_with fail
  go_ret
  have r1 := Int.emod_nonneg x hne
  have r2 := Int.emod_lt_of_pos x (show 0 < n by omega)
  exact ⟨_, rfl, by first | exact r1 | (rw [ht]; exact r1), fun _ => by first | exact r2 | (rw [ht]; exact r2), fun h => by omega, hD.out⟩
 ·go_enter Tryz.func42, Tryz.ntmps42
  go_wp2_with fail
  refine (byteD p w h).mono ?_
  rintro e w1 ⟨x1, rfl, a1, b1, hd1⟩
  have hD1 := Lib.hid hd1
  clear hd1
  go_wp2_with fail
  refine (byteD p w1 hD1.out.1).mono ?_
  rintro e w2 ⟨x2, rfl, a2, b2, hd2⟩
  have hD2 := Lib.hid (hD1.out.trans hd2)
  clear hd2
  go_wp2_with fail
  refine (byteD p w2 hD2.out.1).mono ?_
  rintro e w3 ⟨x3, rfl, a3, b3, hd3⟩
  have hD3 := Lib.hid (hD2.out.trans hd3)
  clear hd3
  go_wp2_with fail
  refine (byteD p w3 hD3.out.1).mono ?_
  rintro e w4 ⟨x4, rfl, a4, b4, hd4⟩
  have hD4 := Lib.hid (hD3.out.trans hd4)
  clear hd4
  obtain ⟨s, hs⟩ : ∃ s, s = x1 * 16777216 + x2 * 65536 + x3 * 256 + x4 := ⟨_, rfl⟩
  have s0 : 0 ≤ s := by omega
  have ht : s.tmod n = s % n := Int.tmod_eq_emod_of_nonneg s0
  have hne : n ≠ 0 := by omega
  go_wp2_with fail
  go_ret
  have r1 := Int.emod_nonneg s hne
  have r2 := Int.emod_lt_of_pos s (show 0 < n by omega)
  rw [← hs]
  exact ⟨_, rfl, by first | exact r1 | (rw [ht]; exact r1), fun _ => by first | exact r2 | (rw [ht]; exact r2), fun h => by omega, hD4.out⟩
theorem l01Once_any (p : Nat) (n : Int) (w : World) (h : Cur w p) (hn : n ≤ 1000000000) :
  Calls Tryz.prog 56 #[.pointer (some ⟨p, 0, none⟩), .int .i64 n] w fun e w' => ∃ b, e = .returned (.bool b) ∧ Drew p w w' := by
 go_enter Tryz.func56, Tryz.ntmps56
 go_wp2_with fail
 refine (l01Below_any p n w h hn).mono ?_
 rintro e w1 ⟨x, rfl, x0, _, _, hd⟩
 have hD := Lib.hid hd
 clear hd
 go_wp2_with fail
 go_ret
 exact ⟨_, rfl, hD.out⟩
theorem big_any (A : Option Addr) (n c : Nat) (w : World) (hn : n ≤ 9223372036854775807) :
  Calls Tryz.prog 11 #[.slice A n c] w fun e w' => e = .returned (.bool (decide ((1048576 : Int) < n))) ∧ w = w' := by
 go_enter Tryz.func11, Tryz.ntmps11
 go_wp2_with fail
 go_ret
 exact ⟨rfl, rfl⟩
end
section
open Go.RowKit
theorem Cur.drew {w : World} {p : Nat} (h : Cur w p) : Cur w.drew p := h
theorem Drew.here {p : Nat} {w : World} (h : Cur w p) : Drew p w w := ⟨h, World.grownBy.refl _ _⟩
theorem Drew.of_drew {p : Nat} {w w' : World} (h : Drew p w.drew w') : Drew p w w' := ⟨h.1, h.2.os, h.2.tape, h.2.output, h.2.size, h.2.block⟩
theorem Drew.alloc {p : Nat} {w w' : World} (h : Drew p w w') (o : Obj) : Drew p w (w'.alloc o) :=
 ⟨h.1.below (Below.alloc (Below.refl w'.heap.size w') (Nat.le_refl _) o) h.1.lt, grownBy_trans h.2 ⟨rfl, rfl, rfl, by simp, fun k hk _ => Below.heap_alloc w' _ k hk⟩⟩
theorem Drew.store {p q : Nat} {w w' : World} (h : Drew p w w') (hp : p < w.heap.size) (hq : w.heap.size ≤ q) (o : Nat) (u : Value) : Drew p w (w'.setCell ⟨q, o, none⟩ u) :=
 ⟨h.1.other (grown_set (World.grownBy.refl w' (some q)) o u) (fun k hk => by have := Option.some.inj hk; omega), ⟨h.2.os, h.2.tape, h.2.output, by have := h.2.size; simpa using this, fun k hk hn => (Below.heap_setCell w' _ u k (fun e => by simp at e; omega)).trans (h.2.block k hk hn)⟩⟩
theorem Drew.below {p B : Nat} {w w' w'' : World} (h : Drew p w w') (hb : Below B w' w'') (hB : w'.heap.size ≤ B) : Drew p w w'' :=
 ⟨h.1.below hb (by have := h.1.lt; omega), grownBy_trans h.2 ⟨hb.os, hb.tape, hb.output, hb.size, fun k hk _ => hb.block k (by omega)⟩⟩
theorem Drew.blk {p g : Nat} {w w' : World} {t : TypeId} {cs : Array Value} (h : Drew p w w') (hk : Blk w g t cs) (hg : g ≠ p) : Blk w' g t cs := hk.grown h.2 (fun e => hg (Option.some.inj e))
theorem Drew.rd {p : Nat} {w w' : World} {base sz n c : Nat} {e : TypeId} {A : Option Addr} {xs : List Value} (h : Drew p w w') (ho : w.ownsRow base e sz (.slice A n c) n xs) (hb : p < base) : w'.ownsRow base e sz (.slice A n c) n xs :=
 (Row2.same (Row2.born ho) (fun g hg => h.2.block g (ho.lt g hg).2 (fun e => by have h9 := (ho.lt g hg).1; have := Option.some.inj e; omega))).1
end
section
open Go.RowKit
def inB (x a b : Int) : Bool := decide (a ≤ x) && decide (x ≤ b)
theorem inB_iff {x a b : Int} : inB x a b = true ↔ a ≤ x ∧ x ≤ b := by unfold inB; simp
theorem inB_no {x a b : Int} : inB x a b = false ↔ ¬ (a ≤ x ∧ x ≤ b) := by rw [← inB_iff]; simp
theorem l01In_any (x a b : Int) (w : World) :
  Calls Tryz.prog 43 #[.int .i64 x, .int .i64 a, .int .i64 b] w fun e w' => e = .returned (.bool (inB x a b)) ∧ w = w' := by
 unfold inB
 by_cases h1 : a ≤ x <;> by_cases h2 : x ≤ b
 all_goals
  go_enter Tryz.func43, Tryz.ntmps43
  go_wp2
  go_ret
  simp [h1, h2]
theorem l04Water_any (x : Int) (w : World) :
  Calls Tryz.prog 159 #[.int .i64 x] w fun e w' => e = .returned (.bool (inB x 0 1000000)) ∧ w = w' := by
 go_enter Tryz.func159, Tryz.ntmps159
 go_wp2_with (go_at_call 43; refine (l01In_any _ _ _ _).mono ?_; rintro e w' ⟨rfl, rfl⟩)
 go_ret
 exact ⟨rfl, rfl⟩
theorem within_any (x a b : Int) (w : World) :
  Calls Tryz.prog 97 #[.int .i64 x, .int .i64 a, .int .i64 b] w fun e w' => e = .returned (.bool (inB x a b)) ∧ w = w' := by
 unfold inB
 by_cases h1 : a ≤ x <;> by_cases h2 : x ≤ b
 all_goals
  go_enter Tryz.func97, Tryz.ntmps97
  go_wp2
  go_ret
  simp [h1, h2]
end
end Go.Proofs.YtpmmjhpmheooeaaGreatDoor
