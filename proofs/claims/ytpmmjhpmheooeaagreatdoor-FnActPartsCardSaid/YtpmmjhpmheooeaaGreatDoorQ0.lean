/- Texts of the proof, joined: Base, Mem. -/
import Derived.WalkKit
import Derived.WalkSpells
import Derived.WalkLawsBesides
import Derived.Lib.Hide
import Derived.Deep.QuietTactic
import Derived.BigQuiet
import Derived.Test.YtpmmjhpmheooeaaGreatDoorProg
import Derived.Maps.AppendAt
namespace Go.Proofs.YtpmmjhpmheooeaaGreatDoor
set_option linter.unusedSimpArgs false
set_option linter.unusedVariables false
section
theorem tacT {P : Prop} (h : P := by repeat' (first | (with_reducible exact Below.refl _ _) | (with_reducible assumption) | (with_reducible refine Below.alloc ?_ ?_ _) | (with_reducible refine Below.setCell ?_ ?_ _) | (with_reducible refine Below.drew ?_) | (with_reducible refine below_drewN ?_ _) | (refine Below.trans ?_ (Below.mono (by with_reducible assumption) ?_)) | omega | (simp; done) | (simp; omega))) : P := h
theorem blkT {P : Prop} (h : P := by repeat' (first | (with_reducible assumption) | (with_reducible refine Blk.drew ?_) | (with_reducible refine Blk.drewN ?_ _) | (with_reducible refine Blk.new' _ _ _ _ ?_; (first | rfl | omega | (simp; done))) | (with_reducible exact Blk.new _ _ _) | (with_reducible refine Blk.alloc ?_ _) | (with_reducible apply Blk.set8) | (with_reducible apply Blk.set7of8) | (with_reducible apply Blk.setlast8) | (with_reducible apply Blk.set7) | (with_reducible apply Blk.set2) | (with_reducible apply Blk.set3) | (with_reducible refine Blk.far ?_ ?_ _) | (simp; done) | (simp; omega) | (dsimp only; omega))) : P := h
theorem rowT {P : Prop} (h : P := by repeat' (first | (with_reducible assumption) | (with_reducible refine Row2.far ?_ ?_ _) | (with_reducible refine Row2.alloc ?_ _) | (with_reducible refine Row2.drewN ?_ _) | (with_reducible refine Row2.drew ?_) | (left; dsimp only; omega) | (right; dsimp only; omega))) : P := h
theorem ooT {P : Prop} (h : P := by (first | omega | (simp; done) | (simp; omega))) : P := h
theorem oT {P : Prop} (h : P := by first | omega | (simp; omega)) : P := h
theorem sT {P : Prop} (h : P := by first | (simp; done) | (simp; omega)) : P := h
open Go.RowKit

theorem ret_int {a b : Int} (h : a = b) : Ending.returned (.int .i64 a) = .returned (.int .i64 b) := by rw [h]
theorem ret_bool {a b : Bool} (h : a = b) : Ending.returned (.bool a) = .returned (.bool b) := by rw [h]
theorem drop_cons {α : Type} {l : List α} {k : Nat} {x : α} (h : l[k]? = some x) : l.drop k = x :: l.drop (k + 1) := by
 obtain ⟨hk, rfl⟩ := List.getElem?_eq_some_iff.1 h
 exact List.drop_eq_getElem_cons hk
theorem drop_end {α : Type} {l : List α} {k : Nat} (h : ¬ k < l.length) : l.drop k = [] := List.drop_of_length_le (by omega)

/-- A slice value '.slice A n c' reads as the cells xs, 'sz' cells an element, below block B. -/
def Rd (w : World) (B sz : Nat) (A : Option Addr) (n c : Nat) (xs : List Value) : Prop :=
 xs.length = n * sz ∧ n ≤ c ∧ c ≤ 9223372036854775807 ∧ (0 < n → ∃ b o, A = some ⟨b, o, none⟩ ∧ b < B ∧ ∀ j u, xs[j]? = some u → w.cell? ⟨b, o + j, none⟩ = some u)

section
variable {w w' : World} {B B' sz n c : Nat} {A : Option Addr} {xs : List Value}
theorem Rd.keep (h : Rd w B sz A n c xs) (hk : ∀ p : Addr, p.block < B → w'.cell? p = w.cell? p) : Rd w' B sz A n c xs :=
 ⟨h.1, h.2.1, h.2.2.1, fun hn => by
  obtain ⟨b, o, e, hb, hc⟩ := h.2.2.2 hn
  exact ⟨b, o, e, hb, fun j u hu => (hk _ hb).trans (hc j u hu)⟩⟩
theorem Rd.more (h : Rd w B sz A n c xs) (hB : B ≤ B') : Rd w B' sz A n c xs :=
 ⟨h.1, h.2.1, h.2.2.1, fun hn => by
  obtain ⟨b, o, e, hb, hc⟩ := h.2.2.2 hn
  exact ⟨b, o, e, by omega, hc⟩⟩
/-- A reading goes on into a later world. -/
theorem Rd.below {W : World} (h : Rd w W.heap.size sz A n c xs) (hb : Below W.heap.size w w') (hs : W.heap.size ≤ w'.heap.size) : Rd w' w'.heap.size sz A n c xs := (h.keep fun _ hp => hb.cell hp).more hs
theorem Rd.below' (h : Rd w w.heap.size sz A n c xs) (hb : Below w.heap.size w w') : Rd w' w'.heap.size sz A n c xs := (h.keep fun _ hp => hb.cell hp).more hb.size
theorem Rd.drewN (h : Rd w B sz A n c xs) (k : Nat) : Rd (w.drewN k) B sz A n c xs := h
theorem Rd.grown (h : Rd w B sz A n c xs) {row : Option Nat} (hg : w.grownBy w' row) (hB : B ≤ w.heap.size) (hr : ∀ g, row = some g → B ≤ g) : Rd w' B sz A n c xs :=
 h.keep fun p hp => World.cell?_of_block (hg.block p.block (by omega) (fun e => by have := hr _ e.symm; omega))
theorem Rd.of_own {base : Nat} {e : TypeId} (h : w.ownsRow base e sz (.slice A n c) n xs) : Rd w w.heap.size sz A n c xs := by
 rcases h.2 with ⟨h1, h2⟩ | ⟨g, cap, cur, hv, _, hh, hnc, hcm, hcs, ht⟩
 ·simp only [Value.slice.injEq] at h1
  obtain ⟨rfl, _, rfl⟩ := h1
  exact ⟨h.1, by omega, by omega, fun hn => by omega⟩
 ·simp only [Value.slice.injEq, true_and] at hv
  obtain ⟨rfl, rfl⟩ := hv
  have hlt : g < w.heap.size := (Array.getElem?_eq_some_iff.1 hh).1
  refine ⟨h.1, hnc, by unfold maxLen at hcm; omega, fun hn => ⟨g, 0, rfl, hlt, fun j u hu => ?_⟩⟩
  have := h.cells (g := g) rfl j u hu
  rw [Addr.add_lit] at this
  exact this
theorem Rd.nil_ (w : World) (B sz : Nat) : Rd w B sz none 0 0 [] := ⟨by simp, Nat.le_refl _, by omega, fun h => absurd h (by omega)⟩
end

def ints (l : List Int) : List Value := l.map (Value.int .i64)
theorem ints_get {l : List Int} {k : Nat} {x : Int} (h : l[k]? = some x) : (ints l)[k]? = some (.int .i64 x) := by unfold ints; rw [List.getElem?_map, h]; rfl
theorem ints_one (l : List Int) : ∀ u ∈ ints l, u.oneCell' = true := by
 intro u hu; unfold ints at hu; obtain ⟨_, _, rfl⟩ := List.mem_map.1 hu; rfl
/-- A slice of ints that reads as l. -/
def RdI (w : World) (B : Nat) (A : Option Addr) (c : Nat) (l : List Int) : Prop := Rd w B 1 A l.length c (ints l)
theorem RdI.le {w : World} {B c : Nat} {A : Option Addr} {l : List Int} (h : RdI w B A c l) : l.length ≤ c ∧ c ≤ 9223372036854775807 := ⟨h.2.1, h.2.2.1⟩
theorem RdI.at_ {w : World} {B c : Nat} {A : Option Addr} {l : List Int} (h : RdI w B A c l) {k : Nat} (hk : k < l.length) :
  ∃ b o x, A = some ⟨b, o, none⟩ ∧ b < B ∧ l[k]? = some x ∧ w.cell? ⟨b, o + k, none⟩ = some (.int .i64 x) := by
 obtain ⟨_, _, _, h4⟩ := h
 obtain ⟨b, o, e, hb, hc⟩ := h4 (by omega)
 exact ⟨b, o, l[k], e, hb, List.getElem?_eq_getElem hk, hc k _ (ints_get (List.getElem?_eq_getElem hk))⟩
theorem RdI.below {w w' : World} {c : Nat} {A : Option Addr} {l : List Int} (h : RdI w w.heap.size A c l) (hb : Below w.heap.size w w') : RdI w' w'.heap.size A c l := Rd.below' h hb

/-- A slice of ints that the call owns, its block from 'base' on. -/
def OwnI (w : World) (base : Nat) (A : Option Addr) (c : Nat) (l : List Int) : Prop := w.ownsRow base 3 1 (.slice A l.length c) l.length (ints l)
theorem OwnI.rd {w : World} {base c : Nat} {A : Option Addr} {l : List Int} (h : OwnI w base A c l) : RdI w w.heap.size A c l := Rd.of_own h
theorem OwnI.le {w : World} {base c : Nat} {A : Option Addr} {l : List Int} (h : OwnI w base A c l) : l.length ≤ c ∧ c ≤ 9223372036854775807 := h.rd.le
/-- Owned by an ealier call: later worlds that keep its block keep it. -/
theorem own_below {w w' : World} {base B : Nat} {e : TypeId} {sz n c : Nat} {A : Option Addr} {xs : List Value} (h : w.ownsRow base e sz (.slice A n c) n xs) (hb : Below B w w') (hB : w.heap.size ≤ B) : w'.ownsRow base e sz (.slice A n c) n xs := by
 refine ⟨h.1, ?_⟩
 rcases h.2 with h2 | ⟨g, cap, cur, hv, hg, hh, r⟩
 ·exact .inl h2
 ·have : g < w.heap.size := (Array.getElem?_eq_some_iff.1 hh).1
  exact .inr ⟨g, cap, cur, hv, hg, by rw [hb.block g (by omega)]; exact hh, r⟩
theorem OwnI.below {w w' : World} {base c : Nat} {A : Option Addr} {l : List Int} (h : OwnI w base A c l) (hb : Below w.heap.size w w') : OwnI w' base A c l := own_below h hb (Nat.le_refl _)
theorem own_block_ge {w : World} {base : Nat} {e : TypeId} {sz n c : Nat} {A : Option Addr} {xs : List Value} (h : w.ownsRow base e sz (.slice A n c) n xs) {g : Nat} (hg : (Value.slice A n c).ownBlock = some g) : base ≤ g ∧ g < w.heap.size := h.lt g hg
/-- What the law's walk keeps: below B nothing has turned. -/
theorem below_grown_own {B base : Nat} {w0 w w' : World} {e : TypeId} {sz n c : Nat} {A : Option Addr} {xs : List Value} (hb : Below B w0 w) (h : w.ownsRow base e sz (.slice A n c) n xs) (hg : w.grownBy w' (Value.slice A n c).ownBlock) (h1 : B ≤ base) (h2 : B ≤ w.heap.size) : Below B w0 w' :=
 hb.grown hg h2 fun k hk => Nat.le_trans h1 (h.lt k hk).1
/-- A store into an owned row of ints. -/
theorem OwnI.set_ {w : World} {base c : Nat} {A : Option Addr} {l : List Int} (h : OwnI w base A c l) {k : Nat} (hk : k < l.length) (x : Int) :
  ∃ g, A = some ⟨g, 0, none⟩ ∧ base ≤ g ∧ g < w.heap.size ∧ w.frozen? ⟨g, k, none⟩ = false ∧ (∃ y, w.cell? ⟨g, k, none⟩ = some (.int .i64 y) ∧ l[k]? = some y) ∧ OwnI (w.setCell ⟨g, k, none⟩ (.int .i64 x)) base A c (l.set k x) ∧ w.grownBy (w.setCell ⟨g, k, none⟩ (.int .i64 x)) (some g) := by
 unfold OwnI at h
 rcases h.2 with ⟨_, h2⟩ | ⟨g, cap, cur, hv, hg, hh, hnc, hcm, hcs, ht⟩
 ·omega
 ·simp only [Value.slice.injEq, true_and] at hv
  obtain ⟨rfl, rfl⟩ := hv
  have hlt : g < w.heap.size := (Array.getElem?_eq_some_iff.1 hh).1
  have hs := h.stored k (.int .i64 x)
  have hc := h.cellAt k (by omega)
  have hx : l[k]? = some l[k] := List.getElem?_eq_getElem hk
  refine ⟨g, rfl, hg, hlt, h.frozenAt k, ⟨l[k], by rw [hc]; exact ints_get hx, hx⟩, ?_, hs.2⟩
  unfold OwnI
  rw [List.length_set]
  have e : ints (l.set k x) = (ints l).set k (.int .i64 x) := by unfold ints; rw [List.map_set]
  rw [e]
  exact hs.1
theorem grownBy_trans {a b c : World} {row : Option Nat} (h : a.grownBy b row) (k : b.grownBy c row) : a.grownBy c row :=
 ⟨k.os.trans h.os, k.tape.trans h.tape, k.output.trans h.output, Nat.le_trans h.size k.size, fun i hi hn => (k.block i (Nat.lt_of_lt_of_le hi h.size) hn).trans (h.block i hi hn)⟩
theorem below_drewN {B : Nat} {a b : World} (h : Below B a b) (n : Nat) : Below B a (b.drewN n) := ⟨h.os, h.tape, h.output, h.size, h.block⟩
/-- What a walk takes of a callee that only makes memory: all old cells and marks read as before. -/
theorem bcell {W w1 : World} (hb : Below W.heap.size W w1) : (∀ b o, b < W.heap.size → w1.cell? ⟨b, o, none⟩ = W.cell? ⟨b, o, none⟩) ∧ (∀ b o, b < W.heap.size → w1.frozen? ⟨b, o, none⟩ = W.frozen? ⟨b, o, none⟩) :=
 ⟨fun b o h => hb.cell (p := ⟨b, o, none⟩) h, fun b o h => hb.frozen (p := ⟨b, o, none⟩) h⟩
theorem name_world {P : Program} {f : FuncId} {args : Array Value} {w : World} {R : Ending → World → Prop} (h : ∀ W, W = w → Calls P f args W R) : Calls P f args w R := h w rfl
theorem post_d {P : Program} {f : FuncId} {args : Array Value} {w : World} {R : Ending} (h : Calls P f args w fun e w' => e = R ∧ ∃ n, w' = w.drewN n) : Calls P f args w fun e w' => e = R ∧ Below w.heap.size w w' :=
 h.mono fun _ _ ⟨h1, n, h2⟩ => ⟨h1, by rw [h2]; exact below_drewN (Below.refl _ _) n⟩
/-- Nothing outside the blocks lo .. hi has turned. -/
structure Chg (lo hi : Nat) (w w' : World) : Prop where
 os : w'.os = w.os
 tape : w'.tape = w.tape
 output : w'.output = w.output
 size : w.heap.size ≤ w'.heap.size
 block : ∀ k, k < w.heap.size → (k < lo ∨ hi ≤ k) → w'.heap[k]? = w.heap[k]?
theorem Chg.refl (lo hi : Nat) (w : World) : Chg lo hi w w := ⟨rfl, rfl, rfl, Nat.le_refl _, fun _ _ _ => rfl⟩
theorem Chg.trans {lo hi : Nat} {a b c : World} (h : Chg lo hi a b) (k : Chg lo hi b c) : Chg lo hi a c :=
 ⟨k.os.trans h.os, k.tape.trans h.tape, k.output.trans h.output, Nat.le_trans h.size k.size, fun i hi hn => (k.block i (Nat.lt_of_lt_of_le hi h.size) hn).trans (h.block i hi hn)⟩
theorem Chg.below {lo hi B : Nat} {w0 w w' : World} (h : Below B w0 w) (hc : Chg lo hi w w') (h1 : B ≤ lo) (h2 : B ≤ w.heap.size) : Below B w0 w' :=
 h.trans ⟨hc.os, hc.tape, hc.output, hc.size, fun k hk => hc.block k (by omega) (.inl (by omega))⟩
theorem Chg.cell {lo hi : Nat} {w w' : World} (h : Chg lo hi w w') {p : Addr} (hp : p.block < w.heap.size) (hn : p.block < lo ∨ hi ≤ p.block) : w'.cell? p = w.cell? p := World.cell?_of_block (h.block _ hp hn)
theorem Chg.mono {lo hi lo' hi' : Nat} {w w' : World} (h : Chg lo hi w w') (h1 : lo' ≤ lo) (h2 : hi ≤ hi') : Chg lo' hi' w w' := ⟨h.os, h.tape, h.output, h.size, fun k hk hn => h.block k hk (by omega)⟩
/-- A row that the call owns, its block from lo on and below hi. -/
def Row2 (w : World) (lo hi : Nat) (e : TypeId) (sz : Nat) (A : Option Addr) (n c : Nat) (xs : List Value) : Prop :=
 w.ownsRow lo e sz (.slice A n c) n xs ∧ ∀ g, (Value.slice A n c).ownBlock = some g → g < hi
section
variable {w w' : World} {lo hi : Nat} {e : TypeId} {sz n c : Nat} {A : Option Addr} {xs : List Value}
theorem Row2.born (h : w.ownsRow lo e sz (.slice A n c) n xs) : Row2 w lo w.heap.size e sz A n c xs := ⟨h, fun g hg => (h.lt g hg).2⟩
theorem Row2.rd (h : Row2 w lo hi e sz A n c xs) : Rd w w.heap.size sz A n c xs := Rd.of_own h.1
theorem Row2.same (h : Row2 w lo hi e sz A n c xs) (hs : ∀ g, (Value.slice A n c).ownBlock = some g → w'.heap[g]? = w.heap[g]?) : Row2 w' lo hi e sz A n c xs := by
 obtain ⟨h1, h2⟩ := h
 refine ⟨⟨h1.1, ?_⟩, h2⟩
 rcases h1.2 with h3 | ⟨g, cap, cur, hv, hg, hh, r⟩
 ·exact .inl h3
 ·refine .inr ⟨g, cap, cur, hv, hg, ?_, r⟩
  rw [hs g (by simp only [Value.slice.injEq, true_and] at hv; rw [hv.1]; rfl)]
  exact hh
theorem Row2.below {B : Nat} (h : Row2 w lo hi e sz A n c xs) (hb : Below B w w') (hB : hi ≤ B) : Row2 w' lo hi e sz A n c xs :=
 h.same fun g hg => hb.block g (Nat.lt_of_lt_of_le (h.2 g hg) hB)
theorem Row2.chg {lo' hi' : Nat} (h : Row2 w lo hi e sz A n c xs) (hc : Chg lo' hi' w w') (hs : hi ≤ lo' ∨ hi' ≤ lo) : Row2 w' lo hi e sz A n c xs :=
 h.same fun g hg => hc.block g (h.1.lt g hg).2 (by have := h.2 g hg; have := (h.1.lt g hg).1; omega)
theorem Row2.far (h : Row2 w lo hi e sz A n c xs) {p : Addr} (hp : p.block < lo ∨ hi ≤ p.block) (u : Value) : Row2 (w.setCell p u) lo hi e sz A n c xs :=
 h.same fun g hg => Below.heap_setCell w p u g (fun he => by have := h.2 g hg; have := (h.1.lt g hg).1; omega)
theorem Row2.alloc (h : Row2 w lo hi e sz A n c xs) (o : Obj) : Row2 (w.alloc o) lo hi e sz A n c xs := h.same fun g hg => Below.heap_alloc w o g (h.1.lt g hg).2
theorem Row2.drewN (h : Row2 w lo hi e sz A n c xs) (k : Nat) : Row2 (w.drewN k) lo hi e sz A n c xs := h
theorem Row2.drew (h : Row2 w lo hi e sz A n c xs) : Row2 w.drew lo hi e sz A n c xs := h
/-- What was written through the row's own block. -/
theorem Row2.wrote (h : Row2 w lo hi e sz A n c xs) (hg : w.grownBy w' (Value.slice A n c).ownBlock) : Chg lo hi w w' :=
 ⟨hg.os, hg.tape, hg.output, hg.size, fun k hk hn => hg.block k hk (fun he => by have := h.2 k he.symm; have := (h.1.lt k he.symm).1; omega)⟩
theorem Row2.mono {lo' hi' : Nat} (h : Row2 w lo hi e sz A n c xs) (h1 : lo' ≤ lo) (h2 : hi ≤ hi') : Row2 w lo' hi' e sz A n c xs := by
 obtain ⟨⟨a, b⟩, d⟩ := h
 refine ⟨⟨a, ?_⟩, fun g hg => Nat.lt_of_lt_of_le (d g hg) h2⟩
 rcases b with b | ⟨g, cap, cur, hv, hg, r⟩
 ·exact .inl b
 ·exact .inr ⟨g, cap, cur, hv, Nat.le_trans h1 hg, r⟩
end
/-- A reading of an argument, in a later world of the call. -/
theorem Rd.later {w w' : World} {sz n c : Nat} {A : Option Addr} {xs : List Value} (h : Rd w w.heap.size sz A n c xs) (hb : Below w.heap.size w w') : Rd w' w'.heap.size sz A n c xs := Rd.below' h hb
end
section
open Go.RowKit
/-- Block g holds just the cells cs of element type t. -/
def Blk (w : World) (g : Nat) (t : TypeId) (cs : Array Value) : Prop := w.heap[g]? = some (.cells cs t (0, 0))
section
variable {w w' : World} {g : Nat} {t : TypeId} {cs : Array Value}
theorem Blk.lt (h : Blk w g t cs) : g < w.heap.size := (Array.getElem?_eq_some_iff.1 h).1
theorem Blk.cell (h : Blk w g t cs) (i : Nat) : w.cell? ⟨g, i, none⟩ = cs[i]? := cell_of_row w g i cs t (0, 0) h
theorem Blk.frozen (h : Blk w g t cs) (i : Nat) : w.frozen? ⟨g, i, none⟩ = false := by
 unfold Blk at h
 simp [World.frozen?, h]
theorem Blk.new (w : World) (t : TypeId) (cs : Array Value) : Blk (w.alloc (.cells cs t)) w.heap.size t cs := heap_alloc_new w _
theorem Blk.new' (w : World) (t : TypeId) (cs : Array Value) (H : Nat) (hH : w.heap.size = H) : Blk (w.alloc (.cells cs t)) H t cs := by subst hH; exact Blk.new w t cs
theorem Blk.drew (h : Blk w g t cs) : Blk w.drew g t cs := h
theorem Blk.drewN (h : Blk w g t cs) (n : Nat) : Blk (w.drewN n) g t cs := h
theorem Blk.alloc (h : Blk w g t cs) (o : Obj) : Blk (w.alloc o) g t cs := (Below.heap_alloc w o g h.lt).trans h
theorem Blk.set_ (h : Blk w g t cs) (i : Nat) (u : Value) : Blk (w.setCell ⟨g, i, none⟩ u) g t (cs.setIfInBounds i u) := by
 unfold Blk at h ⊢
 simp [World.setCell, Array.getElem?_modify, h]
theorem Blk.far (h : Blk w g t cs) {p : Addr} (hp : g ≠ p.block) (u : Value) : Blk (w.setCell p u) g t cs := (Below.heap_setCell w p u g hp).trans h
theorem Blk.below {B : Nat} (h : Blk w g t cs) (hb : Below B w w') (hg : g < B) : Blk w' g t cs := (hb.block g hg).trans h
theorem Blk.grown {row : Option Nat} (h : Blk w g t cs) (hb : w.grownBy w' row) (hg : some g ≠ row) : Blk w' g t cs := (hb.block g h.lt hg).trans h
end
/-- A whole slice that reads as 'news' is appended onto a row of the call's own. -/
theorem wp_appAll {P : Program} {w : World} {o : Oper} {a : Act} {K : Act → World → Prop} {Q : Exit → Act → World → Prop} (s x : Operand) (t : TypeId)
  (ho : o.op = .call { callee := .builtin .append, args := #[s, x], argTypes := #[t, t] })
  (base : Nat) (e : TypeId) (z : Value) (size bytes : Nat) (ht : P.underlying t = some (.slice e)) (hinfo : (P.info? e).map (fun i => (i.zero, i.size, i.bytes)) = some (some z, size, bytes))
  (hzs : z.cells.size = size) (hsz : 0 < size)
  (v : Value) (n : Nat) (xs : List Value) (hs : a.eval s = v) (hown : w.ownsRow base e size v n xs)
  (B : Nat) (A : Option Addr) (m c : Nat) (news : List Value) (hx : a.eval x = .slice A m c) (hr : Rd w B size A m c news) (h1 : ∀ u ∈ news, u.oneCell' = true)
  (h63 : n + m ≤ 9223372036854775807) (hbytes : (n + m) * bytes ≤ 140737488355328) (hbase : base ≤ w.heap.size)
  (h : ∀ A' c' w', w'.ownsRow base e size (.slice A' (n + m) c') (n + m) (xs ++ news) → w.grownBy w' v.ownBlock → K (a.put o.dst (.slice A' (n + m) c')) w') : o.wp P a w K Q := by
 obtain ⟨i, hi, hz, hsize, hby⟩ := info_parts hinfo
 have fin : ∀ v' w', w'.ownsRow base e size v' (n + m) (xs ++ news) → w.grownBy w' v.ownBlock → K (a.put o.dst v') w' := by
  intro v' w' h2 h3
  have hex : ∃ A' c', v' = .slice A' (n + m) c' := by
   rcases h2.2 with ⟨rfl, h0⟩ | ⟨g', cap, cur, rfl, _⟩
   ·exact ⟨none, 0, by rw [h0]⟩
   ·exact ⟨_, _, rfl⟩
  obtain ⟨A', c', rfl⟩ := hex
  exact h A' c' w' h2 h3
 rcases A with _ | ad
 ·have hm : m = 0 := by
   rcases Nat.eq_zero_or_pos m with h0 | h0
   ·exact h0
   ·obtain ⟨b, o', h, _⟩ := hr.2.2.2 h0
    cases h
  subst hm
  have hn : news = [] := List.eq_nil_of_length_eq_zero (by simpa using hr.1)
  subst hn
  have hrun : (Builtin.append_ #[t, t] o.type #[v, .slice none 0 c]).run P w = .ok v w := by
   rcases hown.2 with ⟨rfl, rfl⟩ | ⟨g, cap, cur, rfl, _, _, hnc, _⟩
   ·simp [Builtin.append_, run_underlying ht, sizeOf, typeInfo, hi, Builtin.lenOf, Builtin.firstCells]
   ·simp [Builtin.append_, run_underlying ht, sizeOf, typeInfo, hi, Builtin.lenOf, Builtin.firstCells, hnc, storeCells]
  unfold Oper.wp execOp
  simp only [ho, resolve, invoke, builtin, Sem.run_bind, Sem.run_pure, Result.andThen_ok, List.map_toArray, List.map_cons, List.map_nil, hs, hx, hrun]
  exact (fin v w (by simpa using hown) (World.grownBy.refl _ _))
 ·have hcells : ∀ j u, news[j]? = some u → w.cell? (ad.add j) = some u := by
   intro j u hu
   rcases Nat.eq_zero_or_pos m with h0 | h0
   ·subst h0
    have hn : news = [] := List.eq_nil_of_length_eq_zero (by simpa using hr.1)
    subst hn
    simp at hu
   ·obtain ⟨b, o', h, _, hc⟩ := hr.2.2.2 h0
    injection h with h
    subst h
    rw [Addr.add_lit]
    exact hc j u hu
  obtain ⟨v', w', hrun, h2, h3, _⟩ := run_append_own (P := P) w base t o.type e i z size bytes ht hi hz hsize hby hzs hsz v n xs hown ad m c news hr.1 hcells h1 (by unfold maxLen; omega) hbytes hbase
  unfold Oper.wp execOp
  simp only [ho, resolve, invoke, builtin, Sem.run_bind, Sem.run_pure, Result.andThen_ok, List.map_toArray, List.map_cons, List.map_nil, hs, hx, hrun]
  exact fin v' w' h2 h3
/-- A whole slice that reads as 'news' is appended onto a row of the call's own. -/
theorem wpList_appAll {P : Program} {w : World} {ops : Array Oper} {rest : List Oper} {o : Oper} {a : Act} {Q : Exit → Act → World → Prop} (hgd : o.guard = none) (s x : Operand) (t : TypeId)
  (ho : o.op = .call { callee := .builtin .append, args := #[s, x], argTypes := #[t, t] })
  (base : Nat) (e : TypeId) (z : Value) (size bytes : Nat) (ht : P.underlying t = some (.slice e)) (hinfo : (P.info? e).map (fun i => (i.zero, i.size, i.bytes)) = some (some z, size, bytes))
  (hzs : z.cells.size = size) (hsz : 0 < size)
  (v : Value) (n : Nat) (xs : List Value) (hs : a.eval s = v) (hown : w.ownsRow base e size v n xs)
  (B : Nat) (A : Option Addr) (m c : Nat) (news : List Value) (hx : a.eval x = .slice A m c) (hr : Rd w B size A m c news) (h1 : ∀ u ∈ news, u.oneCell' = true)
  (h63 : n + m ≤ 9223372036854775807) (hbytes : (n + m) * bytes ≤ 140737488355328) (hbase : base ≤ w.heap.size)
  (h : ∀ A' c' w', w'.ownsRow base e size (.slice A' (n + m) c') (n + m) (xs ++ news) → w.grownBy w' v.ownBlock → wpList P ops Q rest (a.put o.dst (.slice A' (n + m) c')) w') : wpList P ops Q (o :: rest) a w :=
 wpList_plain hgd fun _ hK => wp_appAll s x t ho base e z size bytes ht hinfo hzs hsz v n xs hs hown B A m c news hx hr h1 h63 hbytes hbase fun A' c' w' h2 h3 => hK _ _ (h A' c' w' h2 h3)
theorem step_appAll {P : Program} {w : World} {ops : Array Oper} {o : Oper} {a : Act} {K : Act → World → Prop} {Q : Exit → Act → World → Prop} {E : Prop} (hgd : o.guard = none) (s x : Operand) (t : TypeId)
  (ho : o.op = .call { callee := .builtin .append, args := #[s, x], argTypes := #[t, t] })
  (base : Nat) (e : TypeId) (z : Value) (size bytes : Nat) (ht : P.underlying t = some (.slice e)) (hinfo : (P.info? e).map (fun i => (i.zero, i.size, i.bytes)) = some (some z, size, bytes))
  (hzs : z.cells.size = size) (hsz : 0 < size)
  (v : Value) (n : Nat) (xs : List Value) (hs : a.eval s = v) (hown : w.ownsRow base e size v n xs)
  (B : Nat) (A : Option Addr) (m c : Nat) (news : List Value) (hx : a.eval x = .slice A m c) (hr : Rd w B size A m c news) (h1 : ∀ u ∈ news, u.oneCell' = true)
  (h63 : n + m ≤ 9223372036854775807) (hbytes : (n + m) * bytes ≤ 140737488355328) (hbase : base ≤ w.heap.size)
  (h : ∀ A' c' w', w'.ownsRow base e size (.slice A' (n + m) c') (n + m) (xs ++ news) → w.grownBy w' v.ownBlock → K (a.put o.dst (.slice A' (n + m) c')) w') : if Region.wanted o (yielded ops a.tmps) = true then Oper.wp P o a w K Q else E := by
 have hw : Region.wanted o (yielded ops a.tmps) = true := by simp [Region.wanted, hgd]
 rw [if_pos hw]
 exact wp_appAll s x t ho base e z size bytes ht hinfo hzs hsz v n xs hs hown B A m c news hx hr h1 h63 hbytes hbase h
theorem ownEmpty (w : World) (base : Nat) (t : TypeId) (sz : Nat) (hb : base ≤ w.heap.size) : (w.alloc (.cells #[] t)).ownsRow base t sz (.slice (some ⟨w.heap.size, 0, none⟩) 0 0) 0 [] :=
 World.ownsRow_made w #[] 0 hb (by unfold maxLen; omega) (by simp)
theorem ownEmpty' (w : World) (base : Nat) (t : TypeId) (sz H : Nat) (hH : w.heap.size = H) (hb : base ≤ w.heap.size) : (w.alloc (.cells #[] t)).ownsRow base t sz (.slice (some ⟨H, 0, none⟩) 0 0) 0 [] := by
 subst hH
 exact ownEmpty w base t sz hb
theorem gcell {w w1 : World} {g : Nat} (hg : w.grownBy w1 (some g)) : (∀ b o, b < w.heap.size → b ≠ g → w1.cell? ⟨b, o, none⟩ = w.cell? ⟨b, o, none⟩) ∧ (∀ b o, b < w.heap.size → b ≠ g → w1.frozen? ⟨b, o, none⟩ = w.frozen? ⟨b, o, none⟩) :=
 ⟨fun b o h hn => World.cell?_of_block (hg.block b h (fun e => hn (Option.some.inj e))), fun b o h hn => World.frozen?_of_block (hg.block b h (fun e => hn (Option.some.inj e)))⟩
/-- A store into a block of another element type. -/
theorem own_set_blk {w : World} {base : Nat} {e : TypeId} {sz n : Nat} {v : Value} {xs : List Value} {g : Nat} {t : TypeId} {cs : Array Value} (h : w.ownsRow base e sz v n xs) (hk : Blk w g t cs) (hne : e ≠ t) (i : Nat) (u : Value) : (w.setCell ⟨g, i, none⟩ u).ownsRow base e sz v n xs := by
 refine ⟨h.1, ?_⟩
 rcases h.2 with h2 | ⟨g', cap, cur, hv, hb, hh, r⟩
 ·exact .inl h2
 ·refine .inr ⟨g', cap, cur, hv, hb, ?_, r⟩
  rw [Below.heap_setCell w _ u g' (fun he => ?_)]
  ·exact hh
  ·simp only at he
   subst he
   unfold Blk at hk
   rw [hk] at hh
   injection hh with hh
   injection hh with _ ht
   exact hne ht.symm
theorem own_set7 {w : World} {base : Nat} {e : TypeId} {sz n : Nat} {v : Value} {xs : List Value} {g : Nat} {t : TypeId} {c0 c1 c2 c3 c4 c5 c6 : Value} (h : w.ownsRow base e sz v n xs) (hk : Blk w g t #[c0, c1, c2, c3, c4, c5, c6]) (hne : e ≠ t) (a0 a1 a2 a3 a4 a5 a6 : Value) :
  (((((((w.setCell ⟨g, 0, none⟩ a0).setCell ⟨g, 1, none⟩ a1).setCell ⟨g, 2, none⟩ a2).setCell ⟨g, 3, none⟩ a3).setCell ⟨g, 4, none⟩ a4).setCell ⟨g, 5, none⟩ a5).setCell ⟨g, 6, none⟩ a6).ownsRow base e sz v n xs := by
 have k0 := hk.set_ 0 a0
 have k1 := k0.set_ 1 a1
 have k2 := k1.set_ 2 a2
 have k3 := k2.set_ 3 a3
 have k4 := k3.set_ 4 a4
 have k5 := k4.set_ 5 a5
 have o0 := own_set_blk h hk hne 0 a0
 have o1 := own_set_blk o0 k0 hne 1 a1
 have o2 := own_set_blk o1 k1 hne 2 a2
 have o3 := own_set_blk o2 k2 hne 3 a3
 have o4 := own_set_blk o3 k3 hne 4 a4
 have o5 := own_set_blk o4 k4 hne 5 a5
 exact own_set_blk o5 k5 hne 6 a6
theorem blk_set7 {w : World} {g : Nat} {t : TypeId} {c0 c1 c2 c3 c4 c5 c6 : Value} (hk : Blk w g t #[c0, c1, c2, c3, c4, c5, c6]) (a0 a1 a2 a3 a4 a5 a6 : Value) :
  Blk (((((((w.setCell ⟨g, 0, none⟩ a0).setCell ⟨g, 1, none⟩ a1).setCell ⟨g, 2, none⟩ a2).setCell ⟨g, 3, none⟩ a3).setCell ⟨g, 4, none⟩ a4).setCell ⟨g, 5, none⟩ a5).setCell ⟨g, 6, none⟩ a6) g t #[a0, a1, a2, a3, a4, a5, a6] := by
  have k0 := hk.set_ 0 a0
  have k1 := k0.set_ 1 a1
  have k2 := k1.set_ 2 a2
  have k3 := k2.set_ 3 a3
  have k4 := k3.set_ 4 a4
  have k5 := k4.set_ 5 a5
  have k6 := k5.set_ 6 a6
  simpa using k6
/-! ### Structs of three ints. -/
structure T3 where
 x : Int
 y : Int
 z : Int
deriving DecidableEq
def T3.cells (t : T3) : List Value := [.int .i64 t.x, .int .i64 t.y, .int .i64 t.z]
def t3s (l : List T3) : List Value := l.flatMap T3.cells
theorem t3s_cons (t : T3) (l : List T3) : t3s (t :: l) = .int .i64 t.x :: .int .i64 t.y :: .int .i64 t.z :: t3s l := rfl
theorem t3s_append (l m : List T3) : t3s (l ++ m) = t3s l ++ t3s m := List.flatMap_append
theorem t3s_len : ∀ l : List T3, (t3s l).length = l.length * 3
 | [] => rfl
 |t :: l => by rw [t3s_cons]; simp only [List.length_cons, t3s_len l]; omega
theorem t3s_one : ∀ l : List T3, ∀ u ∈ t3s l, u.oneCell' = true := by
 intro l u hu
 unfold t3s at hu
 obtain ⟨t, _, ht⟩ := List.mem_flatMap.1 hu
 unfold T3.cells at ht
 simp only [List.mem_cons, List.not_mem_nil, or_false] at ht
 rcases ht with rfl | rfl | rfl <;> rfl
theorem t3s_get : ∀ {l : List T3} {k : Nat} {t : T3}, l[k]? = some t → (t3s l)[k * 3]? = some (.int .i64 t.x) ∧ (t3s l)[k * 3 + 1]? = some (.int .i64 t.y) ∧ (t3s l)[k * 3 + 2]? = some (.int .i64 t.z)
 | [], k, t, h => by simp at h
 |s :: l, 0, t, h => by simp at h; subst h; rw [t3s_cons]; simp
 |s :: l, k + 1, t, h => by
  have := t3s_get (l := l) (k := k) (t := t) (by simpa using h)
  rw [t3s_cons]
  have e0 : (k + 1) * 3 = k * 3 + 3 := by omega
  rw [e0]
  simpa using this
def RdT (w : World) (B : Nat) (A : Option Addr) (c : Nat) (l : List T3) : Prop := Rd w B 3 A l.length c (t3s l)
theorem RdT.le {w : World} {B c : Nat} {A : Option Addr} {l : List T3} (h : RdT w B A c l) : l.length ≤ c ∧ c ≤ 9223372036854775807 := ⟨h.2.1, h.2.2.1⟩
theorem RdT.at_ {w : World} {B c : Nat} {A : Option Addr} {l : List T3} (h : RdT w B A c l) {k : Nat} (hk : k < l.length) :
  ∃ b o t, A = some ⟨b, o, none⟩ ∧ b < B ∧ l[k]? = some t ∧ w.cell? ⟨b, o + k * 3, none⟩ = some (.int .i64 t.x) ∧ w.cell? ⟨b, o + k * 3 + 1, none⟩ = some (.int .i64 t.y) ∧ w.cell? ⟨b, o + k * 3 + 2, none⟩ = some (.int .i64 t.z) := by
 obtain ⟨_, _, _, h4⟩ := h
 obtain ⟨b, o, e, hb, hc⟩ := h4 (by omega)
 have hg := t3s_get (List.getElem?_eq_getElem hk)
 exact ⟨b, o, l[k], e, hb, List.getElem?_eq_getElem hk, hc _ _ hg.1, hc _ _ hg.2.1, hc _ _ hg.2.2⟩
theorem RdT.below {w w' : World} {c : Nat} {A : Option Addr} {l : List T3} (h : RdT w w.heap.size A c l) (hb : Below w.heap.size w w') : RdT w' w'.heap.size A c l := Rd.below' h hb
end
end Go.Proofs.YtpmmjhpmheooeaaGreatDoor
