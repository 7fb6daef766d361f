/- Words for memory that all walks of this seat use: a slice that reads as a list; a slice that the call owns. Blocks known whole; a whole slice appended onto a row of the call's own; slices of three-cell structs. append, make and copies on slices of ints that the call owns. Stores into rows of ints and bools that the call owns; blocks of two cells. A drawn region whose operations read and whose callees make memory: one walk serves every order. Small functions on lists of numbers: ranges, QueueOk, YearsOk, RankOf. Runs of copy, clear and append at elements of several cells, on a block that is known whole; what a row is behind them. A drawn region by an invariant: what holds of the operations that are done. The cells of a struct variable carried to a later world at once. -/
import Derived.WalkKit
import Derived.WalkSpells
import Derived.WalkLawsBesides
import Derived.Lib.Hide
import Derived.Deep.QuietTactic
import Derived.BigQuiet
import Derived.Test.YtpmmjhpmheooeaaDoorProg
import Derived.Maps.AppendAt
import Derived.Lib.AppendZerosOnto
import Derived.Lib.Overlaps
import Derived.Laws.CopyRow
import Derived.Laws.IdiomCopy
import Derived.Orders
namespace Go.Proofs.YtpmmjhpmheooeaaDoor
set_option linter.unusedSimpArgs false
set_option linter.unusedVariables false
theorem tacT {P : Prop} (h : P := by repeat' (first | (with_reducible exact Below.refl _ _) | (with_reducible assumption) | (with_reducible refine Below.alloc ?_ ?_ _) | (with_reducible refine Below.setCell ?_ ?_ _) | (with_reducible refine Below.drew ?_) | (with_reducible refine below_drewN ?_ _) | (refine Below.trans ?_ (Below.mono (by with_reducible assumption) ?_)) | omega | (simp; done) | (simp; omega))) : P := h
theorem blkT {P : Prop} (h : P := by repeat' (first | (with_reducible assumption) | (with_reducible refine Blk.drew ?_) | (with_reducible refine Blk.drewN ?_ _) | (with_reducible refine Blk.new' _ _ _ _ ?_; (first | rfl | omega | (simp; done))) | (with_reducible exact Blk.new _ _ _) | (with_reducible refine Blk.alloc ?_ _) | (with_reducible apply Blk.set8) | (with_reducible apply Blk.set7of8) | (with_reducible apply Blk.setlast8) | (with_reducible apply Blk.set7) | (with_reducible apply Blk.set2) | (with_reducible apply Blk.set3) | (with_reducible refine Blk.far ?_ ?_ _) | (simp; done) | (simp; omega) | (dsimp only; omega))) : P := h
theorem rowT {P : Prop} (h : P := by repeat' (first | (with_reducible assumption) | (with_reducible refine Row2.far ?_ ?_ _) | (with_reducible refine Row2.alloc ?_ _) | (with_reducible refine Row2.drewN ?_ _) | (with_reducible refine Row2.drew ?_) | (left; dsimp only; omega) | (right; dsimp only; omega))) : P := h
theorem ooT {P : Prop} (h : P := by (first | omega | (simp; done) | (simp; omega))) : P := h
theorem oT {P : Prop} (h : P := by first | omega | (simp; omega)) : P := h
theorem sT {P : Prop} (h : P := by first | (simp; done) | (simp; omega)) : P := h
theorem rT {P : Prop} (h : P := by first | rfl | omega | (simp; done)) : P := h
open Go.RowKit

theorem ret_int {a b : Int} (h : a = b) : Ending.returned (.int .i64 a) = .returned (.int .i64 b) := by rw [h]
theorem ret_bool {a b : Bool} (h : a = b) : Ending.returned (.bool a) = .returned (.bool b) := by rw [h]
theorem drop_cons {α : Type} {l : List α} {k : Nat} {x : α} (h : l[k]? = some x) : l.drop k = x :: l.drop (k + 1) := by
  obtain ⟨hk, rfl⟩ := List.getElem?_eq_some_iff.1 h
  exact List.drop_eq_getElem_cons hk
theorem drop_end {α : Type} {l : List α} {k : Nat} (h : ¬ k < l.length) : l.drop k = [] := List.drop_of_length_le (by omega)

/-- A slice value '.slice A n c' reads as the cells xs, 'sz' cells an element, below block B. -/
def Rd (w : World) (B sz : Nat) (A : Option Addr) (n c : Nat) (xs : List Value) : Prop :=
  xs.length = n * sz ∧ n ≤ c ∧ c ≤ 9223372036854775807 ∧ (0 < n → ∃ b o, A = some ⟨b, o, none⟩ ∧ b < B ∧ ∀ j u, xs[j]? = some u → w.cell? ⟨b, o + j, none⟩ = some u)

section
variable {w w' : World} {B B' sz n c : Nat} {A : Option Addr} {xs : List Value}
theorem Rd.keep (h : Rd w B sz A n c xs) (hk : ∀ p : Addr, p.block < B → w'.cell? p = w.cell? p) : Rd w' B sz A n c xs :=
  ⟨h.1, h.2.1, h.2.2.1, fun hn => by
    obtain ⟨b, o, e, hb, hc⟩ := h.2.2.2 hn
    exact ⟨b, o, e, hb, fun j u hu => (hk _ hb).trans (hc j u hu)⟩⟩
theorem Rd.more (h : Rd w B sz A n c xs) (hB : B ≤ B') : Rd w B' sz A n c xs :=
  ⟨h.1, h.2.1, h.2.2.1, fun hn => by
    obtain ⟨b, o, e, hb, hc⟩ := h.2.2.2 hn
    exact ⟨b, o, e, by omega, hc⟩⟩
/-- A reading goes on into a later world. -/
theorem Rd.below {W : World} (h : Rd w W.heap.size sz A n c xs) (hb : Below W.heap.size w w') (hs : W.heap.size ≤ w'.heap.size) : Rd w' w'.heap.size sz A n c xs := (h.keep fun _ hp => hb.cell hp).more hs
theorem Rd.below' (h : Rd w w.heap.size sz A n c xs) (hb : Below w.heap.size w w') : Rd w' w'.heap.size sz A n c xs := (h.keep fun _ hp => hb.cell hp).more hb.size
theorem Rd.drewN (h : Rd w B sz A n c xs) (k : Nat) : Rd (w.drewN k) B sz A n c xs := h
theorem Rd.grown (h : Rd w B sz A n c xs) {row : Option Nat} (hg : w.grownBy w' row) (hB : B ≤ w.heap.size) (hr : ∀ g, row = some g → B ≤ g) : Rd w' B sz A n c xs :=
  h.keep fun p hp => World.cell?_of_block (hg.block p.block (by omega) (fun e => by have := hr _ e.symm; omega))
theorem Rd.of_own {base : Nat} {e : TypeId} (h : w.ownsRow base e sz (.slice A n c) n xs) : Rd w w.heap.size sz A n c xs := by
  rcases h.2 with ⟨h1, h2⟩ | ⟨g, cap, cur, hv, _, hh, hnc, hcm, hcs, ht⟩
  · simp only [Value.slice.injEq] at h1
    obtain ⟨rfl, _, rfl⟩ := h1
    exact ⟨h.1, by omega, by omega, fun hn => by omega⟩
  · simp only [Value.slice.injEq, true_and] at hv
    obtain ⟨rfl, rfl⟩ := hv
    have hlt : g < w.heap.size := (Array.getElem?_eq_some_iff.1 hh).1
    refine ⟨h.1, hnc, by unfold maxLen at hcm; omega, fun hn => ⟨g, 0, rfl, hlt, fun j u hu => ?_⟩⟩
    have := h.cells (g := g) rfl j u hu
    rw [Addr.add_lit] at this
    exact this
theorem Rd.nil_ (w : World) (B sz : Nat) : Rd w B sz none 0 0 [] := ⟨by simp, Nat.le_refl _, by omega, fun h => absurd h (by omega)⟩
end

def ints (l : List Int) : List Value := l.map (Value.int .i64)
theorem ints_len (l : List Int) : (ints l).length = l.length := by simp [ints]
theorem ints_get {l : List Int} {k : Nat} {x : Int} (h : l[k]? = some x) : (ints l)[k]? = some (.int .i64 x) := by unfold ints; rw [List.getElem?_map, h]; rfl
theorem ints_one (l : List Int) : ∀ u ∈ ints l, u.oneCell' = true := by
  intro u hu; unfold ints at hu; obtain ⟨_, _, rfl⟩ := List.mem_map.1 hu; rfl
/-- A slice of ints that reads as l. -/
def RdI (w : World) (B : Nat) (A : Option Addr) (c : Nat) (l : List Int) : Prop := Rd w B 1 A l.length c (ints l)
theorem RdI.le {w : World} {B c : Nat} {A : Option Addr} {l : List Int} (h : RdI w B A c l) : l.length ≤ c ∧ c ≤ 9223372036854775807 := ⟨h.2.1, h.2.2.1⟩
theorem RdI.at_ {w : World} {B c : Nat} {A : Option Addr} {l : List Int} (h : RdI w B A c l) {k : Nat} (hk : k < l.length) :
    ∃ b o x, A = some ⟨b, o, none⟩ ∧ b < B ∧ l[k]? = some x ∧ w.cell? ⟨b, o + k, none⟩ = some (.int .i64 x) := by
  obtain ⟨_, _, _, h4⟩ := h
  obtain ⟨b, o, e, hb, hc⟩ := h4 (by omega)
  exact ⟨b, o, l[k], e, hb, List.getElem?_eq_getElem hk, hc k _ (ints_get (List.getElem?_eq_getElem hk))⟩
theorem RdI.below {w w' : World} {c : Nat} {A : Option Addr} {l : List Int} (h : RdI w w.heap.size A c l) (hb : Below w.heap.size w w') : RdI w' w'.heap.size A c l := Rd.below' h hb

/-- A slice of ints that the call owns, its block from 'base' on. -/
def OwnI (w : World) (base : Nat) (A : Option Addr) (c : Nat) (l : List Int) : Prop := w.ownsRow base 3 1 (.slice A l.length c) l.length (ints l)
theorem OwnI.rd {w : World} {base c : Nat} {A : Option Addr} {l : List Int} (h : OwnI w base A c l) : RdI w w.heap.size A c l := Rd.of_own h
theorem OwnI.le {w : World} {base c : Nat} {A : Option Addr} {l : List Int} (h : OwnI w base A c l) : l.length ≤ c ∧ c ≤ 9223372036854775807 := h.rd.le
/-- Owned by an ealier call: later worlds that keep its block keep it. -/
theorem own_below {w w' : World} {base B : Nat} {e : TypeId} {sz n c : Nat} {A : Option Addr} {xs : List Value} (h : w.ownsRow base e sz (.slice A n c) n xs) (hb : Below B w w') (hB : w.heap.size ≤ B) : w'.ownsRow base e sz (.slice A n c) n xs := by
  refine ⟨h.1, ?_⟩
  rcases h.2 with h2 | ⟨g, cap, cur, hv, hg, hh, r⟩
  · exact .inl h2
  · have : g < w.heap.size := (Array.getElem?_eq_some_iff.1 hh).1
    exact .inr ⟨g, cap, cur, hv, hg, by rw [hb.block g (by omega)]; exact hh, r⟩
theorem OwnI.below {w w' : World} {base c : Nat} {A : Option Addr} {l : List Int} (h : OwnI w base A c l) (hb : Below w.heap.size w w') : OwnI w' base A c l := own_below h hb (Nat.le_refl _)
/-- .. and when another row was written. -/
theorem own_kept {w w' : World} {base base' : Nat} {e e' : TypeId} {sz n c sz' n' c' : Nat} {A A' : Option Addr} {xs xs' : List Value} (h : w.ownsRow base e sz (.slice A n c) n xs) (hg : w.grownBy w' (Value.slice A' n' c').ownBlock)
    (h' : ∀ g g', (Value.slice A n c).ownBlock = some g → (Value.slice A' n' c').ownBlock = some g' → g ≠ g') : w'.ownsRow base e sz (.slice A n c) n xs := by
  refine h.kept hg ?_
  cases h1 : (Value.slice A n c).ownBlock with
  | none => exact .inl rfl
  | some g => exact .inr fun h2 => h' g g h1 h2.symm rfl
theorem own_block_ge {w : World} {base : Nat} {e : TypeId} {sz n c : Nat} {A : Option Addr} {xs : List Value} (h : w.ownsRow base e sz (.slice A n c) n xs) {g : Nat} (hg : (Value.slice A n c).ownBlock = some g) : base ≤ g ∧ g < w.heap.size := h.lt g hg
/-- What the law's walk keeps: below B nothing has turned. -/
theorem below_grown_own {B base : Nat} {w0 w w' : World} {e : TypeId} {sz n c : Nat} {A : Option Addr} {xs : List Value} (hb : Below B w0 w) (h : w.ownsRow base e sz (.slice A n c) n xs) (hg : w.grownBy w' (Value.slice A n c).ownBlock) (h1 : B ≤ base) (h2 : B ≤ w.heap.size) : Below B w0 w' :=
  hb.grown hg h2 fun k hk => Nat.le_trans h1 (h.lt k hk).1
/-- A store into an owned row of one-cell elements. -/
theorem own_set {w : World} {base : Nat} {e : TypeId} {n c : Nat} {A : Option Addr} {xs : List Value} (h : w.ownsRow base e 1 (.slice A n c) n xs) {k : Nat} (hk : k < n) (u : Value) :
    ∃ g, A = some ⟨g, 0, none⟩ ∧ base ≤ g ∧ g < w.heap.size ∧ w.frozen? ⟨g, k, none⟩ = false ∧ (∃ y, w.cell? ⟨g, k, none⟩ = some y ∧ xs[k]? = some y) ∧ (w.setCell ⟨g, k, none⟩ u).ownsRow base e 1 (.slice A n c) n (xs.set k u) ∧ w.grownBy (w.setCell ⟨g, k, none⟩ u) (some g) := by
  rcases h.2 with ⟨_, h2⟩ | ⟨g, cap, cur, hv, hg, hh, hnc, hcm, hcs, ht⟩
  · omega
  · simp only [Value.slice.injEq, true_and] at hv
    obtain ⟨rfl, rfl⟩ := hv
    have hlt : g < w.heap.size := (Array.getElem?_eq_some_iff.1 hh).1
    have hc := h.cellAt k (by omega)
    have hl := h.1
    have hx : xs[k]? = some xs[k] := List.getElem?_eq_getElem (by omega)
    have hs := h.stored k u
    exact ⟨g, rfl, hg, hlt, h.frozenAt k, ⟨xs[k], by rw [hc, hx], hx⟩, hs.1, hs.2⟩
/-- A store into an owned row of ints. -/
theorem OwnI.set_ {w : World} {base c : Nat} {A : Option Addr} {l : List Int} (h : OwnI w base A c l) {k : Nat} (hk : k < l.length) (x : Int) :
    ∃ g, A = some ⟨g, 0, none⟩ ∧ base ≤ g ∧ g < w.heap.size ∧ w.frozen? ⟨g, k, none⟩ = false ∧ (∃ y, w.cell? ⟨g, k, none⟩ = some (.int .i64 y) ∧ l[k]? = some y) ∧ OwnI (w.setCell ⟨g, k, none⟩ (.int .i64 x)) base A c (l.set k x) ∧ w.grownBy (w.setCell ⟨g, k, none⟩ (.int .i64 x)) (some g) := by
  unfold OwnI at h
  rcases h.2 with ⟨_, h2⟩ | ⟨g, cap, cur, hv, hg, hh, hnc, hcm, hcs, ht⟩
  · omega
  · simp only [Value.slice.injEq, true_and] at hv
    obtain ⟨rfl, rfl⟩ := hv
    have hlt : g < w.heap.size := (Array.getElem?_eq_some_iff.1 hh).1
    have hs := h.stored k (.int .i64 x)
    have hc := h.cellAt k (by omega)
    have hx : l[k]? = some l[k] := List.getElem?_eq_getElem hk
    refine ⟨g, rfl, hg, hlt, h.frozenAt k, ⟨l[k], by rw [hc]; exact ints_get hx, hx⟩, ?_, hs.2⟩
    unfold OwnI
    rw [List.length_set]
    have e : ints (l.set k x) = (ints l).set k (.int .i64 x) := by unfold ints; rw [List.map_set]
    rw [e]
    exact hs.1
theorem grownBy_trans {a b c : World} {row : Option Nat} (h : a.grownBy b row) (k : b.grownBy c row) : a.grownBy c row :=
  ⟨k.os.trans h.os, k.tape.trans h.tape, k.output.trans h.output, Nat.le_trans h.size k.size, fun i hi hn => (k.block i (Nat.lt_of_lt_of_le hi h.size) hn).trans (h.block i hi hn)⟩
theorem grownBy_drewN {a b : World} {row : Option Nat} (h : a.grownBy b row) (n : Nat) : a.grownBy (b.drewN n) row := ⟨h.os, h.tape, h.output, h.size, h.block⟩
theorem below_of_drew {w w' : World} (h : Below w.drew.heap.size w.drew w') : Below w.heap.size w w' := ⟨h.os, h.tape, h.output, h.size, h.block⟩
theorem below_drewN {B : Nat} {a b : World} (h : Below B a b) (n : Nat) : Below B a (b.drewN n) := ⟨h.os, h.tape, h.output, h.size, h.block⟩
/-- What a walk takes of a callee that only makes memory: all old cells and marks read as before. -/
theorem bcell {W w1 : World} (hb : Below W.heap.size W w1) : (∀ b o, b < W.heap.size → w1.cell? ⟨b, o, none⟩ = W.cell? ⟨b, o, none⟩) ∧ (∀ b o, b < W.heap.size → w1.frozen? ⟨b, o, none⟩ = W.frozen? ⟨b, o, none⟩) :=
  ⟨fun b o h => hb.cell (p := ⟨b, o, none⟩) h, fun b o h => hb.frozen (p := ⟨b, o, none⟩) h⟩
theorem name_world {P : Program} {f : FuncId} {args : Array Value} {w : World} {R : Ending → World → Prop} (h : ∀ W, W = w → Calls P f args W R) : Calls P f args w R := h w rfl
/-- Contracts of callees that only read, in the form that a law's walk takes. -/
theorem post_s {P : Program} {f : FuncId} {args : Array Value} {w : World} {R : Ending} (h : Calls P f args w fun e w' => e = R ∧ w = w') : Calls P f args w fun e w' => e = R ∧ Below w.heap.size w w' :=
  h.mono fun _ _ ⟨h1, h2⟩ => ⟨h1, h2 ▸ Below.refl _ _⟩
theorem post_d {P : Program} {f : FuncId} {args : Array Value} {w : World} {R : Ending} (h : Calls P f args w fun e w' => e = R ∧ ∃ n, w' = w.drewN n) : Calls P f args w fun e w' => e = R ∧ Below w.heap.size w w' :=
  h.mono fun _ _ ⟨h1, n, h2⟩ => ⟨h1, by rw [h2]; exact below_drewN (Below.refl _ _) n⟩
theorem post_b {P : Program} {f : FuncId} {args : Array Value} {w : World} {R : Ending} (h : Calls P f args w fun e w' => e = R ∧ Below w.heap.size w w') : Calls P f args w fun e w' => e = R ∧ Below w.heap.size w w' := h
/-- Nothing outside the blocks lo .. hi has turned. -/
structure Chg (lo hi : Nat) (w w' : World) : Prop where
  os : w'.os = w.os
  tape : w'.tape = w.tape
  output : w'.output = w.output
  size : w.heap.size ≤ w'.heap.size
  block : ∀ k, k < w.heap.size → (k < lo ∨ hi ≤ k) → w'.heap[k]? = w.heap[k]?
theorem Chg.refl (lo hi : Nat) (w : World) : Chg lo hi w w := ⟨rfl, rfl, rfl, Nat.le_refl _, fun _ _ _ => rfl⟩
theorem Chg.trans {lo hi : Nat} {a b c : World} (h : Chg lo hi a b) (k : Chg lo hi b c) : Chg lo hi a c :=
  ⟨k.os.trans h.os, k.tape.trans h.tape, k.output.trans h.output, Nat.le_trans h.size k.size, fun i hi hn => (k.block i (Nat.lt_of_lt_of_le hi h.size) hn).trans (h.block i hi hn)⟩
theorem Chg.below {lo hi B : Nat} {w0 w w' : World} (h : Below B w0 w) (hc : Chg lo hi w w') (h1 : B ≤ lo) (h2 : B ≤ w.heap.size) : Below B w0 w' :=
  h.trans ⟨hc.os, hc.tape, hc.output, hc.size, fun k hk => hc.block k (by omega) (.inl (by omega))⟩
theorem Chg.cell {lo hi : Nat} {w w' : World} (h : Chg lo hi w w') {p : Addr} (hp : p.block < w.heap.size) (hn : p.block < lo ∨ hi ≤ p.block) : w'.cell? p = w.cell? p := World.cell?_of_block (h.block _ hp hn)
theorem Chg.mono {lo hi lo' hi' : Nat} {w w' : World} (h : Chg lo hi w w') (h1 : lo' ≤ lo) (h2 : hi ≤ hi') : Chg lo' hi' w w' := ⟨h.os, h.tape, h.output, h.size, fun k hk hn => h.block k hk (by omega)⟩
/-- A row that the call owns, its block from lo on and below hi. -/
def Row2 (w : World) (lo hi : Nat) (e : TypeId) (sz : Nat) (A : Option Addr) (n c : Nat) (xs : List Value) : Prop :=
  w.ownsRow lo e sz (.slice A n c) n xs ∧ ∀ g, (Value.slice A n c).ownBlock = some g → g < hi
section
variable {w w' : World} {lo hi : Nat} {e : TypeId} {sz n c : Nat} {A : Option Addr} {xs : List Value}
theorem Row2.born (h : w.ownsRow lo e sz (.slice A n c) n xs) : Row2 w lo w.heap.size e sz A n c xs := ⟨h, fun g hg => (h.lt g hg).2⟩
theorem Row2.rd (h : Row2 w lo hi e sz A n c xs) : Rd w w.heap.size sz A n c xs := Rd.of_own h.1
theorem Row2.same (h : Row2 w lo hi e sz A n c xs) (hs : ∀ g, (Value.slice A n c).ownBlock = some g → w'.heap[g]? = w.heap[g]?) : Row2 w' lo hi e sz A n c xs := by
  obtain ⟨h1, h2⟩ := h
  refine ⟨⟨h1.1, ?_⟩, h2⟩
  rcases h1.2 with h3 | ⟨g, cap, cur, hv, hg, hh, r⟩
  · exact .inl h3
  · refine .inr ⟨g, cap, cur, hv, hg, ?_, r⟩
    rw [hs g (by simp only [Value.slice.injEq, true_and] at hv; rw [hv.1]; rfl)]
    exact hh
theorem Row2.below {B : Nat} (h : Row2 w lo hi e sz A n c xs) (hb : Below B w w') (hB : hi ≤ B) : Row2 w' lo hi e sz A n c xs :=
  h.same fun g hg => hb.block g (Nat.lt_of_lt_of_le (h.2 g hg) hB)
theorem Row2.chg {lo' hi' : Nat} (h : Row2 w lo hi e sz A n c xs) (hc : Chg lo' hi' w w') (hs : hi ≤ lo' ∨ hi' ≤ lo) : Row2 w' lo hi e sz A n c xs :=
  h.same fun g hg => hc.block g (h.1.lt g hg).2 (by have := h.2 g hg; have := (h.1.lt g hg).1; omega)
theorem Row2.far (h : Row2 w lo hi e sz A n c xs) {p : Addr} (hp : p.block < lo ∨ hi ≤ p.block) (u : Value) : Row2 (w.setCell p u) lo hi e sz A n c xs :=
  h.same fun g hg => Below.heap_setCell w p u g (fun he => by have := h.2 g hg; have := (h.1.lt g hg).1; omega)
theorem Row2.alloc (h : Row2 w lo hi e sz A n c xs) (o : Obj) : Row2 (w.alloc o) lo hi e sz A n c xs := h.same fun g hg => Below.heap_alloc w o g (h.1.lt g hg).2
theorem Row2.drewN (h : Row2 w lo hi e sz A n c xs) (k : Nat) : Row2 (w.drewN k) lo hi e sz A n c xs := h
theorem Row2.drew (h : Row2 w lo hi e sz A n c xs) : Row2 w.drew lo hi e sz A n c xs := h
/-- What was written through the row's own block. -/
theorem Row2.wrote (h : Row2 w lo hi e sz A n c xs) (hg : w.grownBy w' (Value.slice A n c).ownBlock) : Chg lo hi w w' :=
  ⟨hg.os, hg.tape, hg.output, hg.size, fun k hk hn => hg.block k hk (fun he => by have := h.2 k he.symm; have := (h.1.lt k he.symm).1; omega)⟩
theorem Row2.mono {lo' hi' : Nat} (h : Row2 w lo hi e sz A n c xs) (h1 : lo' ≤ lo) (h2 : hi ≤ hi') : Row2 w lo' hi' e sz A n c xs := by
  obtain ⟨⟨a, b⟩, d⟩ := h
  refine ⟨⟨a, ?_⟩, fun g hg => Nat.lt_of_lt_of_le (d g hg) h2⟩
  rcases b with b | ⟨g, cap, cur, hv, hg, r⟩
  · exact .inl b
  · exact .inr ⟨g, cap, cur, hv, Nat.le_trans h1 hg, r⟩
end
/-- A reading of an argument, in a later world of the call. -/
theorem Rd.later {w w' : World} {sz n c : Nat} {A : Option Addr} {xs : List Value} (h : Rd w w.heap.size sz A n c xs) (hb : Below w.heap.size w w') : Rd w' w'.heap.size sz A n c xs := Rd.below' h hb
/-- Two rows of which the second was made behind the first. -/
theorem own_sep {w1 w2 : World} {base1 base2 : Nat} {e1 e2 : TypeId} {sz1 n1 c1 sz2 n2 c2 : Nat} {A1 A2 : Option Addr} {xs1 xs2 : List Value} (h1 : w1.ownsRow base1 e1 sz1 (.slice A1 n1 c1) n1 xs1) (h2 : w2.ownsRow base2 e2 sz2 (.slice A2 n2 c2) n2 xs2) (hle : w1.heap.size ≤ base2) :
    ∀ g g', (Value.slice A2 n2 c2).ownBlock = some g → (Value.slice A1 n1 c1).ownBlock = some g' → g ≠ g' := by
  intro g g' hg hg' e
  have a := (h1.lt g' hg').2
  have b := (h2.lt g hg).1
  omega
end Go.Proofs.YtpmmjhpmheooeaaDoor

namespace Go.Proofs.YtpmmjhpmheooeaaDoor
set_option linter.unusedSimpArgs false
set_option linter.unusedVariables false
open Go.RowKit
/-- Block g holds just the cells cs of element type t. -/
def Blk (w : World) (g : Nat) (t : TypeId) (cs : Array Value) : Prop := w.heap[g]? = some (.cells cs t (0, 0))
section
variable {w w' : World} {g : Nat} {t : TypeId} {cs : Array Value}
theorem Blk.lt (h : Blk w g t cs) : g < w.heap.size := (Array.getElem?_eq_some_iff.1 h).1
theorem Blk.cell (h : Blk w g t cs) (i : Nat) : w.cell? ⟨g, i, none⟩ = cs[i]? := cell_of_row w g i cs t (0, 0) h
theorem Blk.frozen (h : Blk w g t cs) (i : Nat) : w.frozen? ⟨g, i, none⟩ = false := by
  unfold Blk at h
  simp [World.frozen?, h]
theorem Blk.new (w : World) (t : TypeId) (cs : Array Value) : Blk (w.alloc (.cells cs t)) w.heap.size t cs := heap_alloc_new w _
theorem Blk.new' (w : World) (t : TypeId) (cs : Array Value) (H : Nat) (hH : w.heap.size = H) : Blk (w.alloc (.cells cs t)) H t cs := by subst hH; exact Blk.new w t cs
theorem Blk.drew (h : Blk w g t cs) : Blk w.drew g t cs := h
theorem Blk.drewN (h : Blk w g t cs) (n : Nat) : Blk (w.drewN n) g t cs := h
theorem Blk.alloc (h : Blk w g t cs) (o : Obj) : Blk (w.alloc o) g t cs := (Below.heap_alloc w o g h.lt).trans h
theorem Blk.set_ (h : Blk w g t cs) (i : Nat) (u : Value) : Blk (w.setCell ⟨g, i, none⟩ u) g t (cs.setIfInBounds i u) := by
  unfold Blk at h ⊢
  simp [World.setCell, Array.getElem?_modify, h]
theorem Blk.far (h : Blk w g t cs) {p : Addr} (hp : g ≠ p.block) (u : Value) : Blk (w.setCell p u) g t cs := (Below.heap_setCell w p u g hp).trans h
theorem Blk.below {B : Nat} (h : Blk w g t cs) (hb : Below B w w') (hg : g < B) : Blk w' g t cs := (hb.block g hg).trans h
theorem Blk.grown {row : Option Nat} (h : Blk w g t cs) (hb : w.grownBy w' row) (hg : some g ≠ row) : Blk w' g t cs := (hb.block g h.lt hg).trans h
end
/-- A whole slice that reads as 'news' is appended onto a row of the call's own. -/
theorem wp_appAll {P : Program} {w : World} {o : Oper} {a : Act} {K : Act → World → Prop} {Q : Exit → Act → World → Prop} (s x : Operand) (t : TypeId)
    (ho : o.op = .call { callee := .builtin .append, args := #[s, x], argTypes := #[t, t] })
    (base : Nat) (e : TypeId) (z : Value) (size bytes : Nat) (ht : P.underlying t = some (.slice e)) (hinfo : (P.info? e).map (fun i => (i.zero, i.size, i.bytes)) = some (some z, size, bytes))
    (hzs : z.cells.size = size) (hsz : 0 < size)
    (v : Value) (n : Nat) (xs : List Value) (hs : a.eval s = v) (hown : w.ownsRow base e size v n xs)
    (B : Nat) (A : Option Addr) (m c : Nat) (news : List Value) (hx : a.eval x = .slice A m c) (hr : Rd w B size A m c news) (h1 : ∀ u ∈ news, u.oneCell' = true)
    (h63 : n + m ≤ 9223372036854775807) (hbytes : (n + m) * bytes ≤ 140737488355328) (hbase : base ≤ w.heap.size)
    (h : ∀ A' c' w', w'.ownsRow base e size (.slice A' (n + m) c') (n + m) (xs ++ news) → w.grownBy w' v.ownBlock → K (a.put o.dst (.slice A' (n + m) c')) w') : o.wp P a w K Q := by
  obtain ⟨i, hi, hz, hsize, hby⟩ := info_parts hinfo
  have fin : ∀ v' w', w'.ownsRow base e size v' (n + m) (xs ++ news) → w.grownBy w' v.ownBlock → K (a.put o.dst v') w' := by
    intro v' w' h2 h3
    have hex : ∃ A' c', v' = .slice A' (n + m) c' := by
      rcases h2.2 with ⟨rfl, h0⟩ | ⟨g', cap, cur, rfl, _⟩
      · exact ⟨none, 0, by rw [h0]⟩
      · exact ⟨_, _, rfl⟩
    obtain ⟨A', c', rfl⟩ := hex
    exact h A' c' w' h2 h3
  rcases A with _ | ad
  · have hm : m = 0 := by
      rcases Nat.eq_zero_or_pos m with h0 | h0
      · exact h0
      · obtain ⟨b, o', h, _⟩ := hr.2.2.2 h0
        cases h
    subst hm
    have hn : news = [] := List.eq_nil_of_length_eq_zero (by simpa using hr.1)
    subst hn
    have hrun : (Builtin.append_ #[t, t] o.type #[v, .slice none 0 c]).run P w = .ok v w := by
      rcases hown.2 with ⟨rfl, rfl⟩ | ⟨g, cap, cur, rfl, _, _, hnc, _⟩
      · simp [Builtin.append_, run_underlying ht, sizeOf, typeInfo, hi, Builtin.lenOf, Builtin.firstCells]
      · simp [Builtin.append_, run_underlying ht, sizeOf, typeInfo, hi, Builtin.lenOf, Builtin.firstCells, hnc, storeCells]
    unfold Oper.wp execOp
    simp only [ho, resolve, invoke, builtin, Sem.run_bind, Sem.run_pure, Result.andThen_ok, List.map_toArray, List.map_cons, List.map_nil, hs, hx, hrun]
    exact (fin v w (by simpa using hown) (World.grownBy.refl _ _))
  · have hcells : ∀ j u, news[j]? = some u → w.cell? (ad.add j) = some u := by
      intro j u hu
      rcases Nat.eq_zero_or_pos m with h0 | h0
      · subst h0
        have hn : news = [] := List.eq_nil_of_length_eq_zero (by simpa using hr.1)
        subst hn
        simp at hu
      · obtain ⟨b, o', h, _, hc⟩ := hr.2.2.2 h0
        injection h with h
        subst h
        rw [Addr.add_lit]
        exact hc j u hu
    obtain ⟨v', w', hrun, h2, h3, _⟩ := run_append_own (P := P) w base t o.type e i z size bytes ht hi hz hsize hby hzs hsz v n xs hown ad m c news hr.1 hcells h1 (by unfold maxLen; omega) hbytes hbase
    unfold Oper.wp execOp
    simp only [ho, resolve, invoke, builtin, Sem.run_bind, Sem.run_pure, Result.andThen_ok, List.map_toArray, List.map_cons, List.map_nil, hs, hx, hrun]
    exact fin v' w' h2 h3
/-- A whole slice that reads as 'news' is appended onto a row of the call's own. -/
theorem wpList_appAll {P : Program} {w : World} {ops : Array Oper} {rest : List Oper} {o : Oper} {a : Act} {Q : Exit → Act → World → Prop} (hgd : o.guard = none) (s x : Operand) (t : TypeId)
    (ho : o.op = .call { callee := .builtin .append, args := #[s, x], argTypes := #[t, t] })
    (base : Nat) (e : TypeId) (z : Value) (size bytes : Nat) (ht : P.underlying t = some (.slice e)) (hinfo : (P.info? e).map (fun i => (i.zero, i.size, i.bytes)) = some (some z, size, bytes))
    (hzs : z.cells.size = size) (hsz : 0 < size)
    (v : Value) (n : Nat) (xs : List Value) (hs : a.eval s = v) (hown : w.ownsRow base e size v n xs)
    (B : Nat) (A : Option Addr) (m c : Nat) (news : List Value) (hx : a.eval x = .slice A m c) (hr : Rd w B size A m c news) (h1 : ∀ u ∈ news, u.oneCell' = true)
    (h63 : n + m ≤ 9223372036854775807) (hbytes : (n + m) * bytes ≤ 140737488355328) (hbase : base ≤ w.heap.size)
    (h : ∀ A' c' w', w'.ownsRow base e size (.slice A' (n + m) c') (n + m) (xs ++ news) → w.grownBy w' v.ownBlock → wpList P ops Q rest (a.put o.dst (.slice A' (n + m) c')) w') : wpList P ops Q (o :: rest) a w :=
  wpList_plain hgd fun _ hK => wp_appAll s x t ho base e z size bytes ht hinfo hzs hsz v n xs hs hown B A m c news hx hr h1 h63 hbytes hbase fun A' c' w' h2 h3 => hK _ _ (h A' c' w' h2 h3)
theorem step_appAll {P : Program} {w : World} {ops : Array Oper} {o : Oper} {a : Act} {K : Act → World → Prop} {Q : Exit → Act → World → Prop} {E : Prop} (hgd : o.guard = none) (s x : Operand) (t : TypeId)
    (ho : o.op = .call { callee := .builtin .append, args := #[s, x], argTypes := #[t, t] })
    (base : Nat) (e : TypeId) (z : Value) (size bytes : Nat) (ht : P.underlying t = some (.slice e)) (hinfo : (P.info? e).map (fun i => (i.zero, i.size, i.bytes)) = some (some z, size, bytes))
    (hzs : z.cells.size = size) (hsz : 0 < size)
    (v : Value) (n : Nat) (xs : List Value) (hs : a.eval s = v) (hown : w.ownsRow base e size v n xs)
    (B : Nat) (A : Option Addr) (m c : Nat) (news : List Value) (hx : a.eval x = .slice A m c) (hr : Rd w B size A m c news) (h1 : ∀ u ∈ news, u.oneCell' = true)
    (h63 : n + m ≤ 9223372036854775807) (hbytes : (n + m) * bytes ≤ 140737488355328) (hbase : base ≤ w.heap.size)
    (h : ∀ A' c' w', w'.ownsRow base e size (.slice A' (n + m) c') (n + m) (xs ++ news) → w.grownBy w' v.ownBlock → K (a.put o.dst (.slice A' (n + m) c')) w') : if Region.wanted o (yielded ops a.tmps) = true then Oper.wp P o a w K Q else E := by
  have hw : Region.wanted o (yielded ops a.tmps) = true := by simp [Region.wanted, hgd]
  rw [if_pos hw]
  exact wp_appAll s x t ho base e z size bytes ht hinfo hzs hsz v n xs hs hown B A m c news hx hr h1 h63 hbytes hbase h
theorem ownEmpty (w : World) (base : Nat) (t : TypeId) (sz : Nat) (hb : base ≤ w.heap.size) : (w.alloc (.cells #[] t)).ownsRow base t sz (.slice (some ⟨w.heap.size, 0, none⟩) 0 0) 0 [] :=
  World.ownsRow_made w #[] 0 hb (by unfold maxLen; omega) (by simp)
theorem ownEmpty' (w : World) (base : Nat) (t : TypeId) (sz H : Nat) (hH : w.heap.size = H) (hb : base ≤ w.heap.size) : (w.alloc (.cells #[] t)).ownsRow base t sz (.slice (some ⟨H, 0, none⟩) 0 0) 0 [] := by
  subst hH
  exact ownEmpty w base t sz hb
theorem gcell {w w1 : World} {g : Nat} (hg : w.grownBy w1 (some g)) : (∀ b o, b < w.heap.size → b ≠ g → w1.cell? ⟨b, o, none⟩ = w.cell? ⟨b, o, none⟩) ∧ (∀ b o, b < w.heap.size → b ≠ g → w1.frozen? ⟨b, o, none⟩ = w.frozen? ⟨b, o, none⟩) :=
  ⟨fun b o h hn => World.cell?_of_block (hg.block b h (fun e => hn (Option.some.inj e))), fun b o h hn => World.frozen?_of_block (hg.block b h (fun e => hn (Option.some.inj e)))⟩
/-- A store into a block of another element type. -/
theorem own_set_blk {w : World} {base : Nat} {e : TypeId} {sz n : Nat} {v : Value} {xs : List Value} {g : Nat} {t : TypeId} {cs : Array Value} (h : w.ownsRow base e sz v n xs) (hk : Blk w g t cs) (hne : e ≠ t) (i : Nat) (u : Value) : (w.setCell ⟨g, i, none⟩ u).ownsRow base e sz v n xs := by
  refine ⟨h.1, ?_⟩
  rcases h.2 with h2 | ⟨g', cap, cur, hv, hb, hh, r⟩
  · exact .inl h2
  · refine .inr ⟨g', cap, cur, hv, hb, ?_, r⟩
    rw [Below.heap_setCell w _ u g' (fun he => ?_)]
    · exact hh
    · simp only at he
      subst he
      unfold Blk at hk
      rw [hk] at hh
      injection hh with hh
      injection hh with _ ht
      exact hne ht.symm
theorem own_set7 {w : World} {base : Nat} {e : TypeId} {sz n : Nat} {v : Value} {xs : List Value} {g : Nat} {t : TypeId} {c0 c1 c2 c3 c4 c5 c6 : Value} (h : w.ownsRow base e sz v n xs) (hk : Blk w g t #[c0, c1, c2, c3, c4, c5, c6]) (hne : e ≠ t) (a0 a1 a2 a3 a4 a5 a6 : Value) :
    (((((((w.setCell ⟨g, 0, none⟩ a0).setCell ⟨g, 1, none⟩ a1).setCell ⟨g, 2, none⟩ a2).setCell ⟨g, 3, none⟩ a3).setCell ⟨g, 4, none⟩ a4).setCell ⟨g, 5, none⟩ a5).setCell ⟨g, 6, none⟩ a6).ownsRow base e sz v n xs := by
  have k0 := hk.set_ 0 a0
  have k1 := k0.set_ 1 a1
  have k2 := k1.set_ 2 a2
  have k3 := k2.set_ 3 a3
  have k4 := k3.set_ 4 a4
  have k5 := k4.set_ 5 a5
  have o0 := own_set_blk h hk hne 0 a0
  have o1 := own_set_blk o0 k0 hne 1 a1
  have o2 := own_set_blk o1 k1 hne 2 a2
  have o3 := own_set_blk o2 k2 hne 3 a3
  have o4 := own_set_blk o3 k3 hne 4 a4
  have o5 := own_set_blk o4 k4 hne 5 a5
  exact own_set_blk o5 k5 hne 6 a6
theorem blk_set7 {w : World} {g : Nat} {t : TypeId} {c0 c1 c2 c3 c4 c5 c6 : Value} (hk : Blk w g t #[c0, c1, c2, c3, c4, c5, c6]) (a0 a1 a2 a3 a4 a5 a6 : Value) :
    Blk (((((((w.setCell ⟨g, 0, none⟩ a0).setCell ⟨g, 1, none⟩ a1).setCell ⟨g, 2, none⟩ a2).setCell ⟨g, 3, none⟩ a3).setCell ⟨g, 4, none⟩ a4).setCell ⟨g, 5, none⟩ a5).setCell ⟨g, 6, none⟩ a6) g t #[a0, a1, a2, a3, a4, a5, a6] := by
    have k0 := hk.set_ 0 a0
    have k1 := k0.set_ 1 a1
    have k2 := k1.set_ 2 a2
    have k3 := k2.set_ 3 a3
    have k4 := k3.set_ 4 a4
    have k5 := k4.set_ 5 a5
    have k6 := k5.set_ 6 a6
    simpa using k6
/-! ### Structs of three ints. -/
structure T3 where
  x : Int
  y : Int
  z : Int
deriving DecidableEq
def T3.cells (t : T3) : List Value := [.int .i64 t.x, .int .i64 t.y, .int .i64 t.z]
def t3s (l : List T3) : List Value := l.flatMap T3.cells
theorem t3s_nil : t3s [] = [] := rfl
theorem t3s_cons (t : T3) (l : List T3) : t3s (t :: l) = .int .i64 t.x :: .int .i64 t.y :: .int .i64 t.z :: t3s l := rfl
theorem t3s_append (l m : List T3) : t3s (l ++ m) = t3s l ++ t3s m := List.flatMap_append
theorem t3s_len : ∀ l : List T3, (t3s l).length = l.length * 3
  | [] => rfl
  | t :: l => by rw [t3s_cons]; simp only [List.length_cons, t3s_len l]; omega
theorem t3s_one : ∀ l : List T3, ∀ u ∈ t3s l, u.oneCell' = true := by
  intro l u hu
  unfold t3s at hu
  obtain ⟨t, _, ht⟩ := List.mem_flatMap.1 hu
  unfold T3.cells at ht
  simp only [List.mem_cons, List.not_mem_nil, or_false] at ht
  rcases ht with rfl | rfl | rfl <;> rfl
theorem t3s_get : ∀ {l : List T3} {k : Nat} {t : T3}, l[k]? = some t → (t3s l)[k * 3]? = some (.int .i64 t.x) ∧ (t3s l)[k * 3 + 1]? = some (.int .i64 t.y) ∧ (t3s l)[k * 3 + 2]? = some (.int .i64 t.z)
  | [], k, t, h => by simp at h
  | s :: l, 0, t, h => by simp at h; subst h; rw [t3s_cons]; simp
  | s :: l, k + 1, t, h => by
    have := t3s_get (l := l) (k := k) (t := t) (by simpa using h)
    rw [t3s_cons]
    have e0 : (k + 1) * 3 = k * 3 + 3 := by omega
    rw [e0]
    simpa using this
def RdT (w : World) (B : Nat) (A : Option Addr) (c : Nat) (l : List T3) : Prop := Rd w B 3 A l.length c (t3s l)
theorem RdT.le {w : World} {B c : Nat} {A : Option Addr} {l : List T3} (h : RdT w B A c l) : l.length ≤ c ∧ c ≤ 9223372036854775807 := ⟨h.2.1, h.2.2.1⟩
theorem RdT.at_ {w : World} {B c : Nat} {A : Option Addr} {l : List T3} (h : RdT w B A c l) {k : Nat} (hk : k < l.length) :
    ∃ b o t, A = some ⟨b, o, none⟩ ∧ b < B ∧ l[k]? = some t ∧ w.cell? ⟨b, o + k * 3, none⟩ = some (.int .i64 t.x) ∧ w.cell? ⟨b, o + k * 3 + 1, none⟩ = some (.int .i64 t.y) ∧ w.cell? ⟨b, o + k * 3 + 2, none⟩ = some (.int .i64 t.z) := by
  obtain ⟨_, _, _, h4⟩ := h
  obtain ⟨b, o, e, hb, hc⟩ := h4 (by omega)
  have hg := t3s_get (List.getElem?_eq_getElem hk)
  exact ⟨b, o, l[k], e, hb, List.getElem?_eq_getElem hk, hc _ _ hg.1, hc _ _ hg.2.1, hc _ _ hg.2.2⟩
theorem RdT.below {w w' : World} {c : Nat} {A : Option Addr} {l : List T3} (h : RdT w w.heap.size A c l) (hb : Below w.heap.size w w') : RdT w' w'.heap.size A c l := Rd.below' h hb
end Go.Proofs.YtpmmjhpmheooeaaDoor

namespace Go.Proofs.YtpmmjhpmheooeaaDoor
set_option linter.unusedSimpArgs false
set_option linter.unusedVariables false
open Go.RowKit
theorem infoI : (Tryd.prog.info? 3).map (fun i => (i.zero, i.size, i.bytes)) = some (some (.int .i64 0), 1, 8) := by kernel_rfl
/-- one int appended to an owned row. -/
theorem wpList_app1 {w : World} {ops : Array Oper} {rest : List Oper} {o : Oper} {a : Act} {Q : Exit → Act → World → Prop} (hgd : o.guard = none) (s x : Operand)
    (ho : o.op = .call { callee := .builtin .append, args := #[s, x], argTypes := #[46, 46] })
    (base : Nat) (A : Option Addr) (c : Nat) (l : List Int) (hs : a.eval s = .slice A l.length c) (hown : OwnI w base A c l)
    (g : Nat) (y : Int) (hx : a.eval x = .slice (some ⟨g, 0, none⟩) 1 1) (hc : w.cell? ⟨g, 0, none⟩ = some (.int .i64 y)) (hlen : l.length ≤ 1099511627776) (hbase : base ≤ w.heap.size)
    (h : ∀ A' c' w', OwnI w' base A' c' (l ++ [y]) → w.grownBy w' (Value.slice A l.length c).ownBlock → wpList Tryd.prog ops Q rest (a.put o.dst (.slice A' (l.length + 1) c')) w') :
    wpList Tryd.prog ops Q (o :: rest) a w := by
  obtain ⟨i0, hi, hz0, hz1, hz2⟩ := info_parts infoI
  refine wpList_append_own _ hgd s x 46 ho base 3 i0 (.int .i64 0) 1 8 Tryd.underlying46 hi hz0 hz1 hz2 rfl (by decide) _ _ _ hs hown ⟨g, 0, none⟩ 1 1 [.int .i64 y] hx rfl ?_ ?_ (by unfold maxLen; omega) (by omega) hbase ?_
  · intro j u hj
    match j, hj with
    | 0, hj => simp at hj; subst hj; rw [Addr.add_lit]; exact hc
  · intro u hu; simp at hu; subst hu; rfl
  · intro v' w1 hown' hgrow _
    have hex : ∃ A' c', v' = .slice A' (l.length + 1) c' := by
      rcases hown'.2 with ⟨rfl, h0⟩ | ⟨g', cap, cur, rfl, _⟩
      · omega
      · exact ⟨_, _, rfl⟩
    obtain ⟨A', c', rfl⟩ := hex
    refine h A' c' w1 ?_ hgrow
    unfold OwnI
    rw [List.length_append]
    have e : ints (l ++ [y]) = ints l ++ [.int .i64 y] := by unfold ints; rw [List.map_append]; rfl
    rw [e]
    exact hown'
theorem cell_new1 (w : World) (x : Value) (t : TypeId) : (w.alloc (.cells #[x] t)).cell? ⟨w.heap.size, 0, none⟩ = some x := by
  have := cell_one_new w x t 0 x rfl
  rwa [Addr.add_lit] at this
theorem own_nil (w : World) (base : Nat) : OwnI w base none 0 [] := World.ownsRow_nil _ _ _ _
end Go.Proofs.YtpmmjhpmheooeaaDoor

namespace Go.Proofs.YtpmmjhpmheooeaaDoor
set_option linter.unusedSimpArgs false
set_option linter.unusedVariables false
open Go.RowKit
theorem own_lt {w : World} {base : Nat} {e : TypeId} {sz n c g : Nat} {xs : List Value} (h : w.ownsRow base e sz (.slice (some ⟨g, 0, none⟩) n c) n xs) : g < w.heap.size := by
  rcases h.2 with ⟨h3, _⟩ | ⟨b, cap, cur, hv, hgg, hh, _⟩
  · cases h3
  · injection hv with e1; injection e1 with e1; injection e1 with e1; subst e1
    exact (Array.getElem?_eq_some_iff.1 hh).1
theorem own_mono' {w : World} {base base' c : Nat} {A : Option Addr} {l : List Int} (h : OwnI w base A c l) (hb : base' ≤ base) : OwnI w base' A c l := by
  refine ⟨h.1, ?_⟩
  rcases h.2 with h2 | ⟨g, cap, cur, hv, hg, r⟩
  · exact .inl h2
  · exact .inr ⟨g, cap, cur, hv, Nat.le_trans hb hg, r⟩
theorem OwnI.row2 {w : World} {base c : Nat} {A : Option Addr} {l : List Int} (h : OwnI w base A c l) : Row2 w base w.heap.size 3 1 A l.length c (ints l) := Row2.born h
theorem Blk.two0 {w : World} {g : Nat} {t : TypeId} {x y : Value} (h : Blk w g t #[x, y]) (u : Value) : Blk (w.setCell ⟨g, 0, none⟩ u) g t #[u, y] := by simpa using h.set_ 0 u
theorem Blk.two1 {w : World} {g : Nat} {t : TypeId} {x y : Value} (h : Blk w g t #[x, y]) (u : Value) : Blk (w.setCell ⟨g, 1, none⟩ u) g t #[x, u] := by simpa using h.set_ 1 u
section
variable {w : World} {lo hi n c : Nat} {A : Option Addr}
theorem Row2.lenI {l : List Int} (h : Row2 w lo hi 3 1 A n c (ints l)) : l.length = n := by have := h.1.1; rw [ints_len] at this; omega
theorem Row2.ownI {l : List Int} (h : Row2 w lo hi 3 1 A n c (ints l)) : OwnI w lo A c l := by
  obtain rfl := h.lenI
  exact h.1
theorem Row2.rdI {l : List Int} (h : Row2 w lo hi 3 1 A n c (ints l)) : RdI w w.heap.size A c l := h.ownI.rd
theorem Row2.setI {l : List Int} (h : Row2 w lo hi 3 1 A n c (ints l)) {k : Nat} (hk : k < n) (x : Int) :
    ∃ g, A = some ⟨g, 0, none⟩ ∧ lo ≤ g ∧ g < hi ∧ g < w.heap.size ∧ w.frozen? ⟨g, k, none⟩ = false ∧ (∃ y, w.cell? ⟨g, k, none⟩ = some (.int .i64 y) ∧ l[k]? = some y) ∧ Row2 (w.setCell ⟨g, k, none⟩ (.int .i64 x)) lo hi 3 1 A n c (ints (l.set k x)) := by
  obtain rfl := h.lenI
  obtain ⟨g, h1, h2, h3, h4, h5, h6, _⟩ := h.ownI.set_ hk x
  subst h1
  refine ⟨g, rfl, h2, h.2 g rfl, h3, h4, h5, ⟨?_, h.2⟩⟩
  unfold OwnI at h6
  rw [List.length_set] at h6
  exact h6
/-- An owned row reads so at place k. -/
theorem Row2.atI {l : List Int} (h : Row2 w lo hi 3 1 A n c (ints l)) {k : Nat} (hk : k < n) :
    ∃ g y, A = some ⟨g, 0, none⟩ ∧ lo ≤ g ∧ g < hi ∧ g < w.heap.size ∧ l[k]? = some y ∧ w.cell? ⟨g, k, none⟩ = some (.int .i64 y) ∧ w.frozen? ⟨g, k, none⟩ = false := by
  obtain ⟨g, h1, h2, h3, h4, h5, ⟨y, h6, h7⟩, _⟩ := h.setI hk 0
  exact ⟨g, y, h1, h2, h3, h4, h7, h6, h5⟩
end
end Go.Proofs.YtpmmjhpmheooeaaDoor

namespace Go.Proofs.YtpmmjhpmheooeaaDoor
set_option linter.unusedSimpArgs false
set_option linter.unusedVariables false
open Go.RowKit
theorem name_wp {P : Program} {c : Code} {Q : Exit → Act → World → Prop} {a : Act} {w : World} (h : ∀ W, W = w → c.wp P Q a W) : c.wp P Q a w := h w rfl
/-- A later world in which nothing of W has turned. -/
structure NewW (W : World) where
  w : World
  h : Below W.heap.size W w
instance (W : World) : Nonempty (NewW W) := ⟨⟨W, Below.refl _ _⟩⟩
theorem wp_region_new {P : Program} {id : Nat} {Q : Exit → Act → World → Prop} {a : Act} {w : World} {l : List Oper} (hm : P.follows .mixedOrders = true) (hB : Region.lexB .any l.toArray = true)
    (h : wpQuiet P l.toArray (fun w' => ∃ x : NewW w, w' = x.w) (fun a' => ∀ w', (∃ x : NewW w, w' = x.w) → Q .normal a' w') l a) : (Code.region id l.toArray true).wp P Q a w :=
  wp_region_quiet (C := fun w' => ∃ x : NewW w, w' = x.w) hm hB ⟨⟨_, (Below.refl w.heap.size w).drew⟩, rfl⟩ (by simpa using h)
theorem NewW.call {P : Program} {f : FuncId} {args : Array Value} {W : World} {x : NewW W} {v : Value} (h : Calls P f args x.w fun e w' => e = .returned v ∧ Below x.w.heap.size x.w w') :
    Calls P f args x.w fun e w'' => e = .returned v ∧ ∃ y : NewW W, w'' = y.w :=
  h.mono fun _ w' ⟨he, hb⟩ => ⟨he, ⟨w', x.h.trans (hb.mono x.h.size)⟩, rfl⟩
theorem NewW.same {P : Program} {f : FuncId} {args : Array Value} {W : World} {x : NewW W} {v : Value} (h : Calls P f args x.w fun e w' => e = .returned v ∧ x.w = w') :
    Calls P f args x.w fun e w'' => e = .returned v ∧ ∃ y : NewW W, w'' = y.w :=
  h.mono fun _ _ ⟨he, hb⟩ => ⟨he, x, hb.symm⟩
theorem NewW.cell {W : World} {p : Addr} {v : Value} (h : W.cell? p = some v) (x : NewW W) : x.w.cell? p = some v := by
  rw [x.h.cell (World.block_lt_of_cell? W _ h)]; exact h
theorem Rd.newW {W : World} {sz n c : Nat} {A : Option Addr} {xs : List Value} (h : Rd W W.heap.size sz A n c xs) (x : NewW W) : Rd x.w x.w.heap.size sz A n c xs := Rd.below' h x.h
/-- All cells of a block that is known whole. -/
theorem Blk.cells {w : World} {g : Nat} {t : TypeId} {cs : Array Value} (h : Blk w g t cs) : ∀ i, w.cell? ⟨g, i, none⟩ = cs[i]? := fun i => h.cell i
theorem Blk.frozens {w : World} {g : Nat} {t : TypeId} {cs : Array Value} (h : Blk w g t cs) : ∀ i, w.frozen? ⟨g, i, none⟩ = false := fun i => h.frozen i
/-- A block carried over a call: what later steps ask of it. -/
theorem Blk.mv {w w' : World} {g B : Nat} {t : TypeId} {cs : Array Value} (h : Blk w g t cs) (hb : Below B w w') (hl : g < w.heap.size → g < B := by intro h9; first | exact h9 | omega) :
    Blk w' g t cs ∧ (∀ i : Nat, w'.cell? ⟨g, i, none⟩ = cs[i]?) ∧ (∀ i : Nat, w'.frozen? ⟨g, i, none⟩ = false) ∧ g < w'.heap.size ∧ g ≠ w'.heap.size :=
  have k := h.below hb (hl h.lt)
  ⟨k, k.cell, k.frozen, k.lt, Nat.ne_of_lt k.lt⟩
theorem Blk.set2 {w : World} {g : Nat} {t : TypeId} {a b : Value} (h : Blk w g t #[a, b]) (x y : Value) : Blk ((w.setCell ⟨g, 0, none⟩ x).setCell ⟨g, 1, none⟩ y) g t #[x, y] := by
  simpa using (h.set_ 0 x).set_ 1 y
theorem Blk.set3 {w : World} {g : Nat} {t : TypeId} {a b c : Value} (h : Blk w g t #[a, b, c]) (x y z : Value) : Blk (((w.setCell ⟨g, 0, none⟩ x).setCell ⟨g, 1, none⟩ y).setCell ⟨g, 2, none⟩ z) g t #[x, y, z] := by
  simpa using ((h.set_ 0 x).set_ 1 y).set_ 2 z
theorem Blk.set7of8 {w : World} {g : Nat} {t : TypeId} {c0 c1 c2 c3 c4 c5 c6 c7 : Value} (h : Blk w g t #[c0, c1, c2, c3, c4, c5, c6, c7]) (x0 x1 x2 x3 x4 x5 x6 : Value) : Blk (((((((w.setCell ⟨g, 0, none⟩ x0).setCell ⟨g, 1, none⟩ x1).setCell ⟨g, 2, none⟩ x2).setCell ⟨g, 3, none⟩ x3).setCell ⟨g, 4, none⟩ x4).setCell ⟨g, 5, none⟩ x5).setCell ⟨g, 6, none⟩ x6) g t #[x0, x1, x2, x3, x4, x5, x6, c7] := by
  simpa using (((((((h.set_ 0 x0).set_ 1 x1).set_ 2 x2).set_ 3 x3).set_ 4 x4).set_ 5 x5).set_ 6 x6)
theorem Blk.set8 {w : World} {g : Nat} {t : TypeId} {c0 c1 c2 c3 c4 c5 c6 c7 : Value} (h : Blk w g t #[c0, c1, c2, c3, c4, c5, c6, c7]) (x0 x1 x2 x3 x4 x5 x6 x7 : Value) : Blk ((((((((w.setCell ⟨g, 0, none⟩ x0).setCell ⟨g, 1, none⟩ x1).setCell ⟨g, 2, none⟩ x2).setCell ⟨g, 3, none⟩ x3).setCell ⟨g, 4, none⟩ x4).setCell ⟨g, 5, none⟩ x5).setCell ⟨g, 6, none⟩ x6).setCell ⟨g, 7, none⟩ x7) g t #[x0, x1, x2, x3, x4, x5, x6, x7] := by
  simpa using ((((((((h.set_ 0 x0).set_ 1 x1).set_ 2 x2).set_ 3 x3).set_ 4 x4).set_ 5 x5).set_ 6 x6).set_ 7 x7)
theorem Blk.set7 {w : World} {g : Nat} {t : TypeId} {c0 c1 c2 c3 c4 c5 c6 : Value} (h : Blk w g t #[c0, c1, c2, c3, c4, c5, c6]) (x0 x1 x2 x3 x4 x5 x6 : Value) : Blk (((((((w.setCell ⟨g, 0, none⟩ x0).setCell ⟨g, 1, none⟩ x1).setCell ⟨g, 2, none⟩ x2).setCell ⟨g, 3, none⟩ x3).setCell ⟨g, 4, none⟩ x4).setCell ⟨g, 5, none⟩ x5).setCell ⟨g, 6, none⟩ x6) g t #[x0, x1, x2, x3, x4, x5, x6] := by
  simpa using (((((((h.set_ 0 x0).set_ 1 x1).set_ 2 x2).set_ 3 x3).set_ 4 x4).set_ 5 x5).set_ 6 x6)
theorem Blk.setlast8 {w : World} {g : Nat} {t : TypeId} {c0 c1 c2 c3 c4 c5 c6 c7 : Value} (h : Blk w g t #[c0, c1, c2, c3, c4, c5, c6, c7]) (x : Value) : Blk (w.setCell ⟨g, 7, none⟩ x) g t #[c0, c1, c2, c3, c4, c5, c6, x] := by
  simpa using h.set_ 7 x
theorem Blk.newW {W : World} {g : Nat} {t : TypeId} {cs : Array Value} (h : Blk W g t cs) (x : NewW W) : Blk x.w g t cs := h.below x.h h.lt
/-- One walk's start: the world of a call under a name, with what it is below. -/
theorem call_b {P : Program} {f : FuncId} {args : Array Value} {w : World} {R : Ending} {Q : Ending → World → Prop} (h : Calls P f args w fun e w' => e = R ∧ Below w.heap.size w w') (hq : ∀ w', Below w.heap.size w w' → Q R w') : Calls P f args w Q :=
  h.mono fun _ w' ⟨he, hb⟩ => he ▸ hq w' hb
end Go.Proofs.YtpmmjhpmheooeaaDoor

namespace Go.Proofs.YtpmmjhpmheooeaaDoor
set_option linter.unusedSimpArgs false
set_option linter.unusedVariables false
open Go.RowKit
def inB (x a b : Int) : Bool := decide (a ≤ x) && decide (x ≤ b)
theorem inB_iff {x a b : Int} : inB x a b = true ↔ a ≤ x ∧ x ≤ b := by unfold inB; simp
theorem inB_no {x a b : Int} : inB x a b = false ↔ ¬ (a ≤ x ∧ x ≤ b) := by rw [← inB_iff]; simp
def allIn (l : List Int) (a b : Int) : Bool := l.all fun x => inB x a b
theorem allIn_nil (a b : Int) : allIn [] a b = true := rfl
theorem allIn_cons (x : Int) (l : List Int) (a b : Int) : allIn (x :: l) a b = (inB x a b && allIn l a b) := rfl
theorem l01In_any (x a b : Int) (w : World) :
    Calls Tryd.prog 25 #[.int .i64 x, .int .i64 a, .int .i64 b] w fun e w' => e = .returned (.bool (inB x a b)) ∧ w = w' := by
  unfold inB
  by_cases h1 : a ≤ x <;> by_cases h2 : x ≤ b
  all_goals
    go_enter Tryd.func25, Tryd.ntmps25
    go_wp2
    go_ret
    simp [h1, h2]
theorem l04Water_any (x : Int) (w : World) :
    Calls Tryd.prog 119 #[.int .i64 x] w fun e w' => e = .returned (.bool (inB x 0 1000000)) ∧ w = w' := by
  go_enter Tryd.func119, Tryd.ntmps119
  go_wp2_with (go_at_call 25; refine (l01In_any _ _ _ _).mono ?_; rintro e w' ⟨rfl, rfl⟩)
  go_ret
  exact ⟨rfl, rfl⟩
theorem within_any (x a b : Int) (w : World) :
    Calls Tryd.prog 41 #[.int .i64 x, .int .i64 a, .int .i64 b] w fun e w' => e = .returned (.bool (inB x a b)) ∧ w = w' := by
  unfold inB
  by_cases h1 : a ≤ x <;> by_cases h2 : x ≤ b
  all_goals
    go_enter Tryd.func41, Tryd.ntmps41
    go_wp2
    go_ret
    simp [h1, h2]
def queueOk (l : List Int) : Bool := allIn l 1 100 && decide (l.length ≤ 12)
end Go.Proofs.YtpmmjhpmheooeaaDoor

namespace Go.Proofs.YtpmmjhpmheooeaaDoor
set_option linter.unusedSimpArgs false
set_option linter.unusedVariables false
open Go.RowKit
section
variable {P : Program}
/-- A stretch of an array written over. -/
def patch (cur : Array Value) (o : Nat) (vs : List Value) : Array Value := (cur.toList.take o ++ vs ++ cur.toList.drop (o + vs.length)).toArray
theorem patch_size {cur : Array Value} {o : Nat} {vs : List Value} (h : o + vs.length ≤ cur.size) : (patch cur o vs).size = cur.size := by
  unfold patch
  simp only [List.size_toArray, List.length_append, List.length_take, List.length_drop, Array.length_toList]
  omega
theorem patch_get {cur : Array Value} {o : Nat} {vs : List Value} (h : o + vs.length ≤ cur.size) (i : Nat) : (patch cur o vs)[i]? = if o ≤ i ∧ i < o + vs.length then vs[i - o]? else cur[i]? := by
  unfold patch
  rw [List.getElem?_toArray, List.append_assoc, List.getElem?_append, List.getElem?_append, List.getElem?_take, List.getElem?_drop, List.length_take, Array.length_toList]
  by_cases h1 : i < o
  · rw [if_pos (by omega), if_pos h1, if_neg (by omega)]; simp
  · rw [if_neg (by omega)]
    have e : i - min o cur.size = i - o := by omega
    rw [e]
    by_cases h2 : i < o + vs.length
    · rw [if_pos (by omega), if_pos (by omega)]
    · rw [if_neg (by omega), if_neg (by omega)]
      have e2 : o + vs.length + (i - o - vs.length) = i := by omega
      rw [e2]; simp
theorem run_copyR (w : World) (dT sT ty elem : TypeId) (sz g o dLen dCap : Nat) (a : Addr) (sLen sCap : Nat) (cur : Array Value) (t : TypeId) (cs : List Value)
    (hu : P.underlying dT = some (.slice elem)) (hs : (P.info? elem).map (·.size) = some sz)
    (hg : w.heap[g]? = some (.cells cur t (0, 0))) (hn : cs.length = Nat.min sLen dLen * sz)
    (hsrc : ∀ j v, cs[j]? = some v → w.cell? (a.add j) = some v) (hfit : o + cs.length ≤ cur.size) (h1 : ∀ v ∈ cs, v.oneCell' = true) :
    (Builtin.copy_ #[dT, sT] ty #[.slice (some ⟨g, o, none⟩) dLen dCap, .slice (some a) sLen sCap]).run P w =
      .ok (goInt (Nat.min sLen dLen)) (w.setRow g (patch cur o cs)) := by
  have hl := run_loadCells_list (P := P) w a cs hsrc
  have hst := run_storeCells_at P g o t cs 0 cur w hg (by simpa using hfit) h1
  rw [hn] at hl
  cases hq : P.info? elem with
  | none => simp [hq] at hs
  | some i =>
    have hi : i.size = sz := by simpa [hq] using hs
    unfold patch
    simp [Builtin.copy_, run_underlying hu, Builtin.lenOf, Builtin.firstCells, sizeOf, typeInfo, hq, hi, hl, hst]
theorem run_clearR (w : World) (t e ty : TypeId) (z : Value) (ht : P.underlying t = some (.slice e)) (hv : ∀ w, (zeroValue e).run P w = .ok z w) (g o n c : Nat) (cur : Array Value) (tt : TypeId) (zs : List Value) (hz : (Builtin.zeroCells z.cells n).toList = zs) (hn : 0 < n)
    (hg : w.heap[g]? = some (.cells cur tt (0, 0))) (hfit : o + zs.length ≤ cur.size) (h1 : ∀ v ∈ zs, v.oneCell' = true) :
    (Builtin.clear_ #[t] ty #[.slice (some ⟨g, o, none⟩) n c]).run P w = .ok (.tuple #[]) (w.setRow g (patch cur o zs)) := by
  have hst := run_storeCells_at P g o tt zs 0 cur w hg (by simpa using hfit) h1
  obtain ⟨m, rfl⟩ : ∃ m, n = m + 1 := ⟨n - 1, by omega⟩
  unfold patch
  simp [Builtin.clear_, run_underlying ht, hv, hz, hst]
theorem run_appR (w : World) (t tx ty e : TypeId) (i : TypeInfo) (ht : P.underlying t = some (.slice e)) (htx : P.underlying tx = some (.slice e)) (hi : P.info? e = some i) (g off sLen sCap : Nat) (cur : Array Value) (tt : TypeId) (ad : Addr) (m c : Nat) (news : List Value)
    (hg : w.heap[g]? = some (.cells cur tt (0, 0))) (hn : news.length = m * i.size) (hsrc : ∀ j u, news[j]? = some u → w.cell? (ad.add j) = some u) (h1 : ∀ u ∈ news, u.oneCell' = true)
    (hroom : sLen + m ≤ sCap) (hfit : off + sLen * i.size + news.length ≤ cur.size) :
    (Builtin.append_ #[t, tx] ty #[.slice (some ⟨g, off, none⟩) sLen sCap, .slice (some ad) m c]).run P w = .ok (.slice (some ⟨g, off, none⟩) (sLen + m) sCap) (w.setRow g (patch cur (off + sLen * i.size) news)) := by
  have hl := run_loadCells_list (P := P) w ad news hsrc
  have hst := run_storeCells_at P g (off + sLen * i.size) tt news 0 cur w hg (by simpa using hfit) h1
  rw [hn] at hl
  simp only [Nat.add_zero] at hst
  unfold patch
  simp [Builtin.append_, run_underlying ht, run_underlying htx, sizeOf, typeInfo, hi, hroom, Builtin.lenOf, Builtin.firstCells, hl, Addr.add_lit, hst]
/-! ### the operations, for the walk and for a drawn region -/
theorem wp_copy_is (w : World) {o : Oper} {a : Act} {K : Act → World → Prop} {Q : Exit → Act → World → Prop} (d s : Operand) (ts : Array TypeId)
    (ho : o.op = .call { callee := .builtin .copy, args := #[d, s], argTypes := ts }) (v u : Value) (hd : a.eval d = v) (hs : a.eval s = u) {v' : Value} {w' : World}
    (hr : (Builtin.copy_ ts o.type #[v, u]).run P w = .ok v' w') (h : K (a.put o.dst v') w') : o.wp P a w K Q := by
  unfold Oper.wp execOp
  simp only [ho, resolve, invoke, builtin, Sem.run_bind, Sem.run_pure, Result.andThen_ok, List.map_toArray, List.map_cons, List.map_nil, hd, hs, hr]
  exact h
theorem wpList_copy_is (w : World) {ops : Array Oper} {rest : List Oper} {o : Oper} {a : Act} {Q : Exit → Act → World → Prop} (hgd : o.guard = none) (d s : Operand) (ts : Array TypeId)
    (ho : o.op = .call { callee := .builtin .copy, args := #[d, s], argTypes := ts }) (v u : Value) (hd : a.eval d = v) (hs : a.eval s = u) {v' : Value} {w' : World}
    (hr : (Builtin.copy_ ts o.type #[v, u]).run P w = .ok v' w') (h : wpList P ops Q rest (a.put o.dst v') w') : wpList P ops Q (o :: rest) a w :=
  wpList_plain hgd fun _ hK => wp_copy_is w d s ts ho v u hd hs hr (hK _ _ h)
theorem step_copy_is {w : World} {ops : Array Oper} {o : Oper} {a : Act} {K : Act → World → Prop} {Q : Exit → Act → World → Prop} {E : Prop} (hgd : o.guard = none) (d s : Operand) (ts : Array TypeId)
    (ho : o.op = .call { callee := .builtin .copy, args := #[d, s], argTypes := ts }) (v u : Value) (hd : a.eval d = v) (hs : a.eval s = u) {v' : Value} {w' : World}
    (hr : (Builtin.copy_ ts o.type #[v, u]).run P w = .ok v' w') (h : K (a.put o.dst v') w') : if Region.wanted o (yielded ops a.tmps) = true then Oper.wp P o a w K Q else E := by
  have hw : Region.wanted o (yielded ops a.tmps) = true := by simp [Region.wanted, hgd]
  rw [if_pos hw]
  exact wp_copy_is w d s ts ho v u hd hs hr h
theorem wp_app_is (w : World) {o : Oper} {a : Act} {K : Act → World → Prop} {Q : Exit → Act → World → Prop} (d s : Operand) (ts : Array TypeId)
    (ho : o.op = .call { callee := .builtin .append, args := #[d, s], argTypes := ts }) (v u : Value) (hd : a.eval d = v) (hs : a.eval s = u) {v' : Value} {w' : World}
    (hr : (Builtin.append_ ts o.type #[v, u]).run P w = .ok v' w') (h : K (a.put o.dst v') w') : o.wp P a w K Q := by
  unfold Oper.wp execOp
  simp only [ho, resolve, invoke, builtin, Sem.run_bind, Sem.run_pure, Result.andThen_ok, List.map_toArray, List.map_cons, List.map_nil, hd, hs, hr]
  exact h
theorem wpList_app_is (w : World) {ops : Array Oper} {rest : List Oper} {o : Oper} {a : Act} {Q : Exit → Act → World → Prop} (hgd : o.guard = none) (d s : Operand) (ts : Array TypeId)
    (ho : o.op = .call { callee := .builtin .append, args := #[d, s], argTypes := ts }) (v u : Value) (hd : a.eval d = v) (hs : a.eval s = u) {v' : Value} {w' : World}
    (hr : (Builtin.append_ ts o.type #[v, u]).run P w = .ok v' w') (h : wpList P ops Q rest (a.put o.dst v') w') : wpList P ops Q (o :: rest) a w :=
  wpList_plain hgd fun _ hK => wp_app_is w d s ts ho v u hd hs hr (hK _ _ h)
theorem step_app_is {w : World} {ops : Array Oper} {o : Oper} {a : Act} {K : Act → World → Prop} {Q : Exit → Act → World → Prop} {E : Prop} (hgd : o.guard = none) (d s : Operand) (ts : Array TypeId)
    (ho : o.op = .call { callee := .builtin .append, args := #[d, s], argTypes := ts }) (v u : Value) (hd : a.eval d = v) (hs : a.eval s = u) {v' : Value} {w' : World}
    (hr : (Builtin.append_ ts o.type #[v, u]).run P w = .ok v' w') (h : K (a.put o.dst v') w') : if Region.wanted o (yielded ops a.tmps) = true then Oper.wp P o a w K Q else E := by
  have hw : Region.wanted o (yielded ops a.tmps) = true := by simp [Region.wanted, hgd]
  rw [if_pos hw]
  exact wp_app_is w d s ts ho v u hd hs hr h
theorem wp_clear_is (w : World) {o : Oper} {a : Act} {K : Act → World → Prop} {Q : Exit → Act → World → Prop} (d : Operand) (ts : Array TypeId)
    (ho : o.op = .call { callee := .builtin .clear, args := #[d], argTypes := ts }) (v : Value) (hd : a.eval d = v) {v' : Value} {w' : World}
    (hr : (Builtin.clear_ ts o.type #[v]).run P w = .ok v' w') (h : K (a.put o.dst v') w') : o.wp P a w K Q := by
  unfold Oper.wp execOp
  simp only [ho, resolve, invoke, builtin, Sem.run_bind, Sem.run_pure, Result.andThen_ok, List.map_toArray, List.map_cons, List.map_nil, hd, hr]
  exact h
theorem wpList_clear_is (w : World) {ops : Array Oper} {rest : List Oper} {o : Oper} {a : Act} {Q : Exit → Act → World → Prop} (hgd : o.guard = none) (d : Operand) (ts : Array TypeId)
    (ho : o.op = .call { callee := .builtin .clear, args := #[d], argTypes := ts }) (v : Value) (hd : a.eval d = v) {v' : Value} {w' : World}
    (hr : (Builtin.clear_ ts o.type #[v]).run P w = .ok v' w') (h : wpList P ops Q rest (a.put o.dst v') w') : wpList P ops Q (o :: rest) a w :=
  wpList_plain hgd fun _ hK => wp_clear_is w d ts ho v hd hr (hK _ _ h)
/-! ### rows -/
theorem grown_setRow (w : World) (g : Nat) (cs : Array Value) : w.grownBy (w.setRow g cs) (some g) :=
  ⟨rfl, rfl, rfl, by simp, fun k _ hn => setRow_other w g k cs (fun e => hn (by rw [e]))⟩
theorem own_of_cells {w : World} {base g n cap sz : Nat} {e : TypeId} {cur : Array Value} {xs : List Value} (hb : base ≤ g) (hg : w.heap[g]? = some (.cells cur e (0, 0))) (hn : n ≤ cap) (hm : cap ≤ maxLen) (hs : cur.size = cap * sz) (hl : xs.length = n * sz) (hx : ∀ i, i < n * sz → cur[i]? = xs[i]?) :
    w.ownsRow base e sz (.slice (some ⟨g, 0, none⟩) n cap) n xs := by
  refine ⟨hl, .inr ⟨g, cap, cur, rfl, hb, hg, hn, hm, hs, ?_⟩⟩
  apply List.ext_getElem?
  intro i
  rw [List.getElem?_take]
  by_cases hi : i < n * sz
  · rw [if_pos hi, ← hx i hi]; simp
  · rw [if_neg hi, List.getElem?_eq_none (by omega)]
theorem own_open {w : World} {base n c sz : Nat} {e : TypeId} {A : Option Addr} {xs : List Value} (h : w.ownsRow base e sz (.slice A n c) n xs) (h0 : 0 < n ∨ 0 < c) :
    ∃ (g : Nat) (cur : Array Value), A = some ⟨g, 0, none⟩ ∧ base ≤ g ∧ w.heap[g]? = some (.cells cur e (0, 0)) ∧ n ≤ c ∧ c ≤ maxLen ∧ cur.size = c * sz ∧ xs.length = n * sz ∧ ∀ i, i < n * sz → cur[i]? = xs[i]? := by
  rcases h.2 with ⟨h2, h3⟩ | ⟨g, cap, cur, hv, hg, hh, hnc, hcm, hcs, ht⟩
  · simp only [Value.slice.injEq] at h2
    omega
  · simp only [Value.slice.injEq, true_and] at hv
    obtain ⟨rfl, rfl⟩ := hv
    refine ⟨g, cur, rfl, hg, hh, hnc, hcm, hcs, h.1, fun i hi => ?_⟩
    rw [← ht, List.getElem?_take, if_pos hi]; simp
end
theorem t3s_drop (l : List T3) : ∀ k, t3s (l.drop k) = (t3s l).drop (k * 3) := by
  induction l with
  | nil => intro k; simp [t3s]
  | cons t l ih =>
    intro k
    cases k with
    | zero => simp
    | succ k =>
      rw [List.drop_succ_cons, ih k, t3s_cons, show (k + 1) * 3 = k * 3 + 3 by omega]
      rfl
theorem t3s_take (l : List T3) : ∀ k, t3s (l.take k) = (t3s l).take (k * 3) := by
  induction l with
  | nil => intro k; simp [t3s]
  | cons t l ih =>
    intro k
    cases k with
    | zero => simp [t3s]
    | succ k =>
      rw [List.take_succ_cons, t3s_cons, t3s_cons, ih k, show (k + 1) * 3 = k * 3 + 3 by omega]
      rfl
end Go.Proofs.YtpmmjhpmheooeaaDoor

namespace Go.Proofs.YtpmmjhpmheooeaaDoor
set_option linter.unusedSimpArgs false
set_option linter.unusedVariables false
open Go.RowKit
/-- d with operation k done. -/
def upd (d : Nat → Bool) (k : Nat) : Nat → Bool := fun i => if i = k then true else d i
theorem upd_same (d : Nat → Bool) (k : Nat) : upd d k k = true := by simp [upd]
theorem upd_ne (d : Nat → Bool) {k i : Nat} (h : i ≠ k) : upd d k i = d i := by simp [upd, h]
/-- What each operation owes: from a state of the invariant to the next one. -/
def StepAt (P : Program) (ops : Array Oper) (Q : Exit → Act → World → Prop) (I : (Nat → Bool) → Act → World → Prop) (k : Nat) (o : Oper) : Prop :=
  ∀ d a w, I d a w → (∀ j p, ops[j]? = some p → d j = true → ∀ e ∈ p.after, Region.binds .any e = true → d e.on = true) → d k = false → (∀ e ∈ o.after, Region.binds .any e = true → d e.on = true) → ∀ K : Act → World → Prop, (∀ a' w', I (upd d k) a' w' → K a' w') →
    if Region.wanted o (yielded ops a.tmps) = true then o.wp P a w K Q else K (a.put o.dst undef) w
def StepsFrom (P : Program) (ops : Array Oper) (Q : Exit → Act → World → Prop) (I : (Nat → Bool) → Act → World → Prop) : Nat → List Oper → Prop
  | _, [] => True
  | k, o :: l => StepAt P ops Q I k o ∧ StepsFrom P ops Q I (k + 1) l
theorem StepsFrom.at_ {P : Program} {ops : Array Oper} {Q : Exit → Act → World → Prop} {I : (Nat → Bool) → Act → World → Prop} : ∀ {l : List Oper} {k : Nat}, StepsFrom P ops Q I k l → ∀ {j : Nat} {o : Oper}, l[j]? = some o → StepAt P ops Q I (k + j) o
  | [], _, _, _, _, h => by simp at h
  | x :: l, k, h, 0, o, ho => by
    simp at ho; subst ho
    exact h.1
  | x :: l, k, h, j + 1, o, ho => by
    have := StepsFrom.at_ h.2 (j := j) (o := o) (by simpa using ho)
    have e : k + 1 + j = k + (j + 1) := by omega
    rwa [e] at this
/-- Each operation waits for earlier ones alone. -/
def lexOk (l : List Oper) : Bool := (List.range l.length).all fun j => match l[j]? with | some o => o.after.all (fun e => !Region.binds .any e || decide (e.on < j)) | none => true
theorem wpAny_inv {P : Program} {ops : Array Oper} {Q : Exit → Act → World → Prop} (I : (Nat → Bool) → Act → World → Prop)
    (hs : ∀ j o, ops[j]? = some o → StepAt P ops Q I j o)
    (hl : ∀ j o, ops[j]? = some o → ∀ e ∈ o.after, Region.binds .any e = true → e.on < j)
    (hd : ∀ d a w, I d a w → (∀ j, j < ops.size → d j = true) → Q .normal a w) :
    ∀ (fuel : Nat) (listed : Array Bool) (a : Act) (w : World), listed.size = ops.size → I (fun i => listed.getD i false) a w → (∀ j p, ops[j]? = some p → listed.getD j false = true → ∀ e ∈ p.after, Region.binds .any e = true → listed.getD e.on false = true) → (∀ j, j < ops.size → listed.getD j false = true ∨ 0 < fuel) → ((listed.toList.filter (fun b => !b)).length ≤ fuel) → wpAny P .any ops Q fuel listed a w := by
  have all_of : ∀ (listed : Array Bool), listed.size = ops.size → Region.ready .any ops listed = [] → ∀ j, j < ops.size → listed.getD j false = true := by
    intro listed hsz hr j
    induction j using Nat.strongRecOn with
    | _ j ih =>
      intro hj
      rcases hb : listed.getD j false with _ | _
      · exfalso
        have ho : ops[j]? = some ops[j] := Array.getElem?_eq_getElem hj
        have : j ∈ Region.ready .any ops listed := mem_ready.2 ⟨by
          have h1 : j < listed.size := by omega
          simpa [Array.getD, h1] using hb, ops[j], ho, fun e he hbd => ih e.on (hl j _ ho e he hbd) (by have := hl j _ ho e he hbd; omega)⟩
        rw [hr] at this
        cases this
      · rfl
  intro fuel
  induction fuel with
  | zero =>
    intro listed a w hsz hI _ hf _
    have hall : ∀ j, j < ops.size → listed.getD j false = true := fun j hj => by
      rcases hf j hj with h | h
      · exact h
      · omega
    refine ⟨?_, hd _ a w hI hall⟩
    apply List.eq_nil_iff_forall_not_mem.2
    intro j hj
    obtain ⟨h1, o, ho, _⟩ := mem_ready.1 hj
    have hjl : j < ops.size := (Array.getElem?_eq_some_iff.1 ho).1
    have h2 := hall j hjl
    have h3 : j < listed.size := by omega
    simp [Array.getD, h3] at h1 h2
    rw [h1] at h2; cases h2
  | succ fuel ih =>
    intro listed a w hsz hI hcl _ hcnt
    refine ⟨fun hr => hd _ a w hI (all_of listed hsz hr), fun j hj => ?_⟩
    obtain ⟨h1, o, ho, hdeps⟩ := mem_ready.1 hj
    have hjl : j < ops.size := (Array.getElem?_eq_some_iff.1 ho).1
    have h3 : j < listed.size := by omega
    have h4 : listed.getD j false = false := by simp [Array.getD, h3] at h1 ⊢; exact h1
    have h5 : (listed.setIfInBounds j true).size = ops.size := by simpa using hsz
    have h6 : ((listed.setIfInBounds j true).toList.filter (fun b => !b)).length ≤ fuel := by
      have h7 : listed[j] = false := by simpa [Array.getD, h3] using h4
      have h8 : ((listed.setIfInBounds j true).toList.filter (fun b => !b)).length + 1 = (listed.toList.filter (fun b => !b)).length := by
        rw [Array.toList_setIfInBounds]
        have e1 : listed.toList = listed.toList.take j ++ false :: listed.toList.drop (j + 1) := by
          conv => lhs; rw [← List.take_append_drop j listed.toList]
          rw [List.drop_eq_getElem_cons (by simpa using h3)]
          simp [h7]
        have e2 : listed.toList.set j true = listed.toList.take j ++ true :: listed.toList.drop (j + 1) := by
          rw [List.set_eq_take_append_cons_drop, if_pos (by simpa using h3)]
        rw [e2]
        conv => rhs; rw [e1]
        simp only [List.filter_append, List.length_append, List.filter_cons, Bool.not_true, Bool.not_false, if_true, List.length_cons]
        simp; omega
      omega
    have hfin : ∀ i, i < ops.size → (listed.setIfInBounds j true).getD i false = true ∨ 0 < fuel := by
      intro i hi
      rcases Nat.eq_zero_or_pos fuel with h7 | h7
      · left
        rw [h7] at h6
        have h8 : (listed.setIfInBounds j true).toList.filter (fun b => !b) = [] := List.eq_nil_of_length_eq_zero (by omega)
        rw [List.filter_eq_nil_iff] at h8
        have h9 : i < (listed.setIfInBounds j true).size := by omega
        have := h8 (listed.setIfInBounds j true)[i] (by rw [Array.mem_toList_iff]; exact Array.getElem_mem h9)
        simp only [Array.getD, h9, dif_pos]
        simpa using this
      · exact .inr h7
    have step := hs j o ho (fun i => listed.getD i false) a w hI hcl h4 (fun e he hb => hdeps e he hb) (wpAny P .any ops Q fuel (listed.setIfInBounds j true)) (fun a' w' hI' => ih _ a' w' h5 (by
      have e : (fun i => (listed.setIfInBounds j true).getD i false) = upd (fun i => listed.getD i false) j := by
        funext i
        unfold upd
        by_cases hij : i = j
        · subst hij; simp [Array.getD, h3]
        · rw [if_neg hij]
          exact getD_set_ne false (fun e => hij e.symm)
      rw [e]; exact hI') (fun i p hp hi e he hbd => by
        by_cases hee : e.on = j
        · rw [hee]; simp [Array.getD, h3]
        · rw [getD_set_ne false (fun x => hee x.symm)]
          by_cases hij : i = j
          · subst hij
            rw [ho] at hp
            obtain rfl := Option.some.inj hp
            exact hdeps e he hbd
          · rw [getD_set_ne false (fun x => hij x.symm)] at hi
            exact hcl i p hp hi e he hbd) hfin h6)
    unfold wpOp
    simp only [ho]
    split
    case isTrue hw => rw [if_pos hw] at step; exact .inl step
    case isFalse hw => rw [if_neg hw] at step; exact step
theorem lexOk_spec {l : List Oper} (h : lexOk l = true) (j : Nat) (o : Oper) (ho : l[j]? = some o) : ∀ e ∈ o.after, Region.binds .any e = true → e.on < j := by
  unfold lexOk at h
  rw [List.all_eq_true] at h
  have := h j (List.mem_range.2 (List.getElem?_eq_some_iff.1 ho).1)
  rw [ho] at this
  simp only [Array.all_eq_true_iff_forall_mem, Bool.or_eq_true, Bool.not_eq_true', decide_eq_true_eq] at this
  intro e he hb
  rcases this e he with h1 | h1
  · rw [hb] at h1; cases h1
  · exact h1
/-- ONE PROOF FOR EVERY ORDER: an invariant that says of each operation what it leaves once it is done. -/
theorem wp_region_inv {P : Program} {id : Nat} {Q : Exit → Act → World → Prop} {a : Act} {w : World} {l : List Oper} (hm : P.follows .mixedOrders = true) (hlex : lexOk l = true)
    (I : (Nat → Bool) → Act → World → Prop) (h0 : I (fun _ => false) a w.drew) (hs : StepsFrom P l.toArray Q I 0 l)
    (hd : ∀ d a w, I d a w → (∀ j, j < l.length → d j = true) → Q .normal a w) : (Code.region id l.toArray true).wp P Q a w := by
  refine wp_region_any hm (wpAny_inv I (fun j o ho => ?_) (fun j o ho => lexOk_spec hlex j o (by simpa using ho)) (fun d a w hI hj => hd d a w hI (by simpa using hj)) _ _ _ _ (by simp) ?_ (fun j p _ hj => by exfalso; simp only [Array.getD] at hj; split at hj <;> simp at hj) (fun j hj => .inr (by simp at hj ⊢; omega)) ?_)
  · have := hs.at_ (j := j) (o := o) (by simpa using ho)
    simpa using this
  · have e : (fun i => (Array.replicate l.toArray.size false).getD i false) = fun _ => false := by
      funext i
      simp only [Array.getD]
      split <;> simp
    rw [e]
    exact h0
  · refine Nat.le_trans (List.length_filter_le _ _) (by simp)
theorem name_act {P : Program} {c : Code} {Q : Exit → Act → World → Prop} {a : Act} {w : World} (h : ∀ b, b = a → c.wp P Q b w) : c.wp P Q a w := h a rfl
theorem Chg.set {lo hi : Nat} {w w' : World} (h : Chg lo hi w w') {p : Addr} (h1 : lo ≤ p.block) (h2 : p.block < hi) (v : Value) : Chg lo hi w (w'.setCell p v) :=
  h.trans ⟨rfl, rfl, rfl, by simp, fun k _ hn => Below.heap_setCell w' p v k (by omega)⟩
theorem dep_of {o : Oper} {d : Nat → Bool} (h : ∀ e ∈ o.after, Region.binds .any e = true → d e.on = true) (k : Nat) (hk : o.after.any (fun e => e.on == k && Region.binds .any e) = true) : d k = true := by
  rw [Array.any_eq_true] at hk
  obtain ⟨i, hi, hk⟩ := hk
  simp only [Bool.and_eq_true, beq_iff_eq] at hk
  have := h o.after[i] (Array.getElem_mem hi) hk.2
  rwa [hk.1] at this
end Go.Proofs.YtpmmjhpmheooeaaDoor

namespace Go.Proofs.YtpmmjhpmheooeaaDoor
set_option linter.unusedSimpArgs false
set_option linter.unusedVariables false
open Go.RowKit
theorem keep3 {w w' : World} {B g : Nat} {v0 v1 v2 : Value} (h : Below B w w') (hg : g < B) (h0 : w.cell? ⟨g, 0, none⟩ = some v0) (h1 : w.cell? ⟨g, 1, none⟩ = some v1) (h2 : w.cell? ⟨g, 2, none⟩ = some v2) :
    w'.cell? ⟨g, 0, none⟩ = some v0 ∧ w'.cell? ⟨g, 1, none⟩ = some v1 ∧ w'.cell? ⟨g, 2, none⟩ = some v2 :=
  ⟨(h.cell (p := ⟨g, 0, none⟩) hg).trans h0, (h.cell (p := ⟨g, 1, none⟩) hg).trans h1, (h.cell (p := ⟨g, 2, none⟩) hg).trans h2⟩
theorem Chg.keep3 {w w' : World} {lo hi g : Nat} {v0 v1 v2 : Value} (h : Chg lo hi w w') (hg : g < w.heap.size) (hn : g < lo ∨ hi ≤ g) (h0 : w.cell? ⟨g, 0, none⟩ = some v0) (h1 : w.cell? ⟨g, 1, none⟩ = some v1) (h2 : w.cell? ⟨g, 2, none⟩ = some v2) :
    w'.cell? ⟨g, 0, none⟩ = some v0 ∧ w'.cell? ⟨g, 1, none⟩ = some v1 ∧ w'.cell? ⟨g, 2, none⟩ = some v2 :=
  ⟨(Chg.cell h (p := ⟨g, 0, none⟩) hg hn).trans h0, (Chg.cell h (p := ⟨g, 1, none⟩) hg hn).trans h1, (Chg.cell h (p := ⟨g, 2, none⟩) hg hn).trans h2⟩
theorem keep7 {w w' : World} {B g : Nat} {v0 v1 v2 v3 v4 v5 v6 : Value} (h : Below B w w') (hg : g < B) (h0 : w.cell? ⟨g, 0, none⟩ = some v0) (h1 : w.cell? ⟨g, 1, none⟩ = some v1) (h2 : w.cell? ⟨g, 2, none⟩ = some v2) (h3 : w.cell? ⟨g, 3, none⟩ = some v3) (h4 : w.cell? ⟨g, 4, none⟩ = some v4) (h5 : w.cell? ⟨g, 5, none⟩ = some v5) (h6 : w.cell? ⟨g, 6, none⟩ = some v6) :
    w'.cell? ⟨g, 0, none⟩ = some v0 ∧ w'.cell? ⟨g, 1, none⟩ = some v1 ∧ w'.cell? ⟨g, 2, none⟩ = some v2 ∧ w'.cell? ⟨g, 3, none⟩ = some v3 ∧ w'.cell? ⟨g, 4, none⟩ = some v4 ∧ w'.cell? ⟨g, 5, none⟩ = some v5 ∧ w'.cell? ⟨g, 6, none⟩ = some v6 :=
  ⟨(h.cell (p := ⟨g, 0, none⟩) hg).trans h0, (h.cell (p := ⟨g, 1, none⟩) hg).trans h1, (h.cell (p := ⟨g, 2, none⟩) hg).trans h2, (h.cell (p := ⟨g, 3, none⟩) hg).trans h3, (h.cell (p := ⟨g, 4, none⟩) hg).trans h4, (h.cell (p := ⟨g, 5, none⟩) hg).trans h5, (h.cell (p := ⟨g, 6, none⟩) hg).trans h6⟩
theorem Chg.keep7 {w w' : World} {lo hi g : Nat} {v0 v1 v2 v3 v4 v5 v6 : Value} (h : Chg lo hi w w') (hg : g < w.heap.size) (hn : g < lo ∨ hi ≤ g) (h0 : w.cell? ⟨g, 0, none⟩ = some v0) (h1 : w.cell? ⟨g, 1, none⟩ = some v1) (h2 : w.cell? ⟨g, 2, none⟩ = some v2) (h3 : w.cell? ⟨g, 3, none⟩ = some v3) (h4 : w.cell? ⟨g, 4, none⟩ = some v4) (h5 : w.cell? ⟨g, 5, none⟩ = some v5) (h6 : w.cell? ⟨g, 6, none⟩ = some v6) :
    w'.cell? ⟨g, 0, none⟩ = some v0 ∧ w'.cell? ⟨g, 1, none⟩ = some v1 ∧ w'.cell? ⟨g, 2, none⟩ = some v2 ∧ w'.cell? ⟨g, 3, none⟩ = some v3 ∧ w'.cell? ⟨g, 4, none⟩ = some v4 ∧ w'.cell? ⟨g, 5, none⟩ = some v5 ∧ w'.cell? ⟨g, 6, none⟩ = some v6 :=
  ⟨(Chg.cell h (p := ⟨g, 0, none⟩) hg hn).trans h0, (Chg.cell h (p := ⟨g, 1, none⟩) hg hn).trans h1, (Chg.cell h (p := ⟨g, 2, none⟩) hg hn).trans h2, (Chg.cell h (p := ⟨g, 3, none⟩) hg hn).trans h3, (Chg.cell h (p := ⟨g, 4, none⟩) hg hn).trans h4, (Chg.cell h (p := ⟨g, 5, none⟩) hg hn).trans h5, (Chg.cell h (p := ⟨g, 6, none⟩) hg hn).trans h6⟩
theorem keep8 {w w' : World} {B g : Nat} {v0 v1 v2 v3 v4 v5 v6 v7 : Value} (h : Below B w w') (hg : g < B) (h0 : w.cell? ⟨g, 0, none⟩ = some v0) (h1 : w.cell? ⟨g, 1, none⟩ = some v1) (h2 : w.cell? ⟨g, 2, none⟩ = some v2) (h3 : w.cell? ⟨g, 3, none⟩ = some v3) (h4 : w.cell? ⟨g, 4, none⟩ = some v4) (h5 : w.cell? ⟨g, 5, none⟩ = some v5) (h6 : w.cell? ⟨g, 6, none⟩ = some v6) (h7 : w.cell? ⟨g, 7, none⟩ = some v7) :
    w'.cell? ⟨g, 0, none⟩ = some v0 ∧ w'.cell? ⟨g, 1, none⟩ = some v1 ∧ w'.cell? ⟨g, 2, none⟩ = some v2 ∧ w'.cell? ⟨g, 3, none⟩ = some v3 ∧ w'.cell? ⟨g, 4, none⟩ = some v4 ∧ w'.cell? ⟨g, 5, none⟩ = some v5 ∧ w'.cell? ⟨g, 6, none⟩ = some v6 ∧ w'.cell? ⟨g, 7, none⟩ = some v7 :=
  ⟨(h.cell (p := ⟨g, 0, none⟩) hg).trans h0, (h.cell (p := ⟨g, 1, none⟩) hg).trans h1, (h.cell (p := ⟨g, 2, none⟩) hg).trans h2, (h.cell (p := ⟨g, 3, none⟩) hg).trans h3, (h.cell (p := ⟨g, 4, none⟩) hg).trans h4, (h.cell (p := ⟨g, 5, none⟩) hg).trans h5, (h.cell (p := ⟨g, 6, none⟩) hg).trans h6, (h.cell (p := ⟨g, 7, none⟩) hg).trans h7⟩
theorem Chg.keep8 {w w' : World} {lo hi g : Nat} {v0 v1 v2 v3 v4 v5 v6 v7 : Value} (h : Chg lo hi w w') (hg : g < w.heap.size) (hn : g < lo ∨ hi ≤ g) (h0 : w.cell? ⟨g, 0, none⟩ = some v0) (h1 : w.cell? ⟨g, 1, none⟩ = some v1) (h2 : w.cell? ⟨g, 2, none⟩ = some v2) (h3 : w.cell? ⟨g, 3, none⟩ = some v3) (h4 : w.cell? ⟨g, 4, none⟩ = some v4) (h5 : w.cell? ⟨g, 5, none⟩ = some v5) (h6 : w.cell? ⟨g, 6, none⟩ = some v6) (h7 : w.cell? ⟨g, 7, none⟩ = some v7) :
    w'.cell? ⟨g, 0, none⟩ = some v0 ∧ w'.cell? ⟨g, 1, none⟩ = some v1 ∧ w'.cell? ⟨g, 2, none⟩ = some v2 ∧ w'.cell? ⟨g, 3, none⟩ = some v3 ∧ w'.cell? ⟨g, 4, none⟩ = some v4 ∧ w'.cell? ⟨g, 5, none⟩ = some v5 ∧ w'.cell? ⟨g, 6, none⟩ = some v6 ∧ w'.cell? ⟨g, 7, none⟩ = some v7 :=
  ⟨(Chg.cell h (p := ⟨g, 0, none⟩) hg hn).trans h0, (Chg.cell h (p := ⟨g, 1, none⟩) hg hn).trans h1, (Chg.cell h (p := ⟨g, 2, none⟩) hg hn).trans h2, (Chg.cell h (p := ⟨g, 3, none⟩) hg hn).trans h3, (Chg.cell h (p := ⟨g, 4, none⟩) hg hn).trans h4, (Chg.cell h (p := ⟨g, 5, none⟩) hg hn).trans h5, (Chg.cell h (p := ⟨g, 6, none⟩) hg hn).trans h6, (Chg.cell h (p := ⟨g, 7, none⟩) hg hn).trans h7⟩
end Go.Proofs.YtpmmjhpmheooeaaDoor
