/- Words for memory that all walks of this seat use: a slice that reads as a list; a slice that the call owns. -/
import Derived.WalkKit
import Derived.WalkSpells
import Derived.WalkLawsBesides
import Derived.Lib.Hide
import Derived.Deep.QuietTactic
import Derived.BigQuiet
namespace Go.Proofs.YtpmmjhpmheooeaaDoor
set_option linter.unusedSimpArgs false
set_option linter.unusedVariables false
open Go.RowKit

theorem ret_int {a b : Int} (h : a = b) : Ending.returned (.int .i64 a) = .returned (.int .i64 b) := by rw [h]
theorem ret_bool {a b : Bool} (h : a = b) : Ending.returned (.bool a) = .returned (.bool b) := by rw [h]
theorem drop_cons {α : Type} {l : List α} {k : Nat} {x : α} (h : l[k]? = some x) : l.drop k = x :: l.drop (k + 1) := by
  obtain ⟨hk, rfl⟩ := List.getElem?_eq_some_iff.1 h
  exact List.drop_eq_getElem_cons hk
theorem drop_end {α : Type} {l : List α} {k : Nat} (h : ¬ k < l.length) : l.drop k = [] := List.drop_of_length_le (by omega)

/-- A slice value '.slice A n c' reads as the cells xs, 'sz' cells an element, below block B. -/
def Rd (w : World) (B sz : Nat) (A : Option Addr) (n c : Nat) (xs : List Value) : Prop :=
  xs.length = n * sz ∧ n ≤ c ∧ c ≤ 9223372036854775807 ∧ (0 < n → ∃ b o, A = some ⟨b, o, none⟩ ∧ b < B ∧ ∀ j u, xs[j]? = some u → w.cell? ⟨b, o + j, none⟩ = some u)

section
variable {w w' : World} {B B' sz n c : Nat} {A : Option Addr} {xs : List Value}
theorem Rd.keep (h : Rd w B sz A n c xs) (hk : ∀ p : Addr, p.block < B → w'.cell? p = w.cell? p) : Rd w' B sz A n c xs :=
  ⟨h.1, h.2.1, h.2.2.1, fun hn => by
    obtain ⟨b, o, e, hb, hc⟩ := h.2.2.2 hn
    exact ⟨b, o, e, hb, fun j u hu => (hk _ hb).trans (hc j u hu)⟩⟩
theorem Rd.more (h : Rd w B sz A n c xs) (hB : B ≤ B') : Rd w B' sz A n c xs :=
  ⟨h.1, h.2.1, h.2.2.1, fun hn => by
    obtain ⟨b, o, e, hb, hc⟩ := h.2.2.2 hn
    exact ⟨b, o, e, by omega, hc⟩⟩
/-- A reading goes on into a later world. -/
theorem Rd.below {W : World} (h : Rd w W.heap.size sz A n c xs) (hb : Below W.heap.size w w') (hs : W.heap.size ≤ w'.heap.size) : Rd w' w'.heap.size sz A n c xs := (h.keep fun _ hp => hb.cell hp).more hs
theorem Rd.below' (h : Rd w w.heap.size sz A n c xs) (hb : Below w.heap.size w w') : Rd w' w'.heap.size sz A n c xs := (h.keep fun _ hp => hb.cell hp).more hb.size
theorem Rd.drewN (h : Rd w B sz A n c xs) (k : Nat) : Rd (w.drewN k) B sz A n c xs := h
theorem Rd.grown (h : Rd w B sz A n c xs) {row : Option Nat} (hg : w.grownBy w' row) (hB : B ≤ w.heap.size) (hr : ∀ g, row = some g → B ≤ g) : Rd w' B sz A n c xs :=
  h.keep fun p hp => World.cell?_of_block (hg.block p.block (by omega) (fun e => by have := hr _ e.symm; omega))
theorem Rd.of_own {base : Nat} {e : TypeId} (h : w.ownsRow base e sz (.slice A n c) n xs) : Rd w w.heap.size sz A n c xs := by
  rcases h.2 with ⟨h1, h2⟩ | ⟨g, cap, cur, hv, _, hh, hnc, hcm, hcs, ht⟩
  · simp only [Value.slice.injEq] at h1
    obtain ⟨rfl, _, rfl⟩ := h1
    exact ⟨h.1, by omega, by omega, fun hn => by omega⟩
  · simp only [Value.slice.injEq, true_and] at hv
    obtain ⟨rfl, rfl⟩ := hv
    have hlt : g < w.heap.size := (Array.getElem?_eq_some_iff.1 hh).1
    refine ⟨h.1, hnc, by unfold maxLen at hcm; omega, fun hn => ⟨g, 0, rfl, hlt, fun j u hu => ?_⟩⟩
    have := h.cells (g := g) rfl j u hu
    rw [Addr.add_lit] at this
    exact this
theorem Rd.nil_ (w : World) (B sz : Nat) : Rd w B sz none 0 0 [] := ⟨by simp, Nat.le_refl _, by omega, fun h => absurd h (by omega)⟩
end

def ints (l : List Int) : List Value := l.map (Value.int .i64)
theorem ints_len (l : List Int) : (ints l).length = l.length := by simp [ints]
theorem ints_get {l : List Int} {k : Nat} {x : Int} (h : l[k]? = some x) : (ints l)[k]? = some (.int .i64 x) := by unfold ints; rw [List.getElem?_map, h]; rfl
theorem ints_one (l : List Int) : ∀ u ∈ ints l, u.oneCell' = true := by
  intro u hu; unfold ints at hu; obtain ⟨_, _, rfl⟩ := List.mem_map.1 hu; rfl
/-- A slice of ints that reads as l. -/
def RdI (w : World) (B : Nat) (A : Option Addr) (c : Nat) (l : List Int) : Prop := Rd w B 1 A l.length c (ints l)
theorem RdI.le {w : World} {B c : Nat} {A : Option Addr} {l : List Int} (h : RdI w B A c l) : l.length ≤ c ∧ c ≤ 9223372036854775807 := ⟨h.2.1, h.2.2.1⟩
theorem RdI.at_ {w : World} {B c : Nat} {A : Option Addr} {l : List Int} (h : RdI w B A c l) {k : Nat} (hk : k < l.length) :
    ∃ b o x, A = some ⟨b, o, none⟩ ∧ b < B ∧ l[k]? = some x ∧ w.cell? ⟨b, o + k, none⟩ = some (.int .i64 x) := by
  obtain ⟨_, _, _, h4⟩ := h
  obtain ⟨b, o, e, hb, hc⟩ := h4 (by omega)
  exact ⟨b, o, l[k], e, hb, List.getElem?_eq_getElem hk, hc k _ (ints_get (List.getElem?_eq_getElem hk))⟩
theorem RdI.below {w w' : World} {c : Nat} {A : Option Addr} {l : List Int} (h : RdI w w.heap.size A c l) (hb : Below w.heap.size w w') : RdI w' w'.heap.size A c l := Rd.below' h hb

/-- A slice of ints that the call owns, its block from 'base' on. -/
def OwnI (w : World) (base : Nat) (A : Option Addr) (c : Nat) (l : List Int) : Prop := w.ownsRow base 3 1 (.slice A l.length c) l.length (ints l)
theorem OwnI.rd {w : World} {base c : Nat} {A : Option Addr} {l : List Int} (h : OwnI w base A c l) : RdI w w.heap.size A c l := Rd.of_own h
theorem OwnI.le {w : World} {base c : Nat} {A : Option Addr} {l : List Int} (h : OwnI w base A c l) : l.length ≤ c ∧ c ≤ 9223372036854775807 := h.rd.le
/-- Owned by an ealier call: later worlds that keep its block keep it. -/
theorem own_below {w w' : World} {base B : Nat} {e : TypeId} {sz n c : Nat} {A : Option Addr} {xs : List Value} (h : w.ownsRow base e sz (.slice A n c) n xs) (hb : Below B w w') (hB : w.heap.size ≤ B) : w'.ownsRow base e sz (.slice A n c) n xs := by
  refine ⟨h.1, ?_⟩
  rcases h.2 with h2 | ⟨g, cap, cur, hv, hg, hh, r⟩
  · exact .inl h2
  · have : g < w.heap.size := (Array.getElem?_eq_some_iff.1 hh).1
    exact .inr ⟨g, cap, cur, hv, hg, by rw [hb.block g (by omega)]; exact hh, r⟩
theorem OwnI.below {w w' : World} {base c : Nat} {A : Option Addr} {l : List Int} (h : OwnI w base A c l) (hb : Below w.heap.size w w') : OwnI w' base A c l := own_below h hb (Nat.le_refl _)
/-- .. and when another row was written. -/
theorem own_kept {w w' : World} {base base' : Nat} {e e' : TypeId} {sz n c sz' n' c' : Nat} {A A' : Option Addr} {xs xs' : List Value} (h : w.ownsRow base e sz (.slice A n c) n xs) (hg : w.grownBy w' (Value.slice A' n' c').ownBlock)
    (h' : ∀ g g', (Value.slice A n c).ownBlock = some g → (Value.slice A' n' c').ownBlock = some g' → g ≠ g') : w'.ownsRow base e sz (.slice A n c) n xs := by
  refine h.kept hg ?_
  cases h1 : (Value.slice A n c).ownBlock with
  | none => exact .inl rfl
  | some g => exact .inr fun h2 => h' g g h1 h2.symm rfl
theorem own_block_ge {w : World} {base : Nat} {e : TypeId} {sz n c : Nat} {A : Option Addr} {xs : List Value} (h : w.ownsRow base e sz (.slice A n c) n xs) {g : Nat} (hg : (Value.slice A n c).ownBlock = some g) : base ≤ g ∧ g < w.heap.size := h.lt g hg
/-- What the law's walk keeps: below B nothing has turned. -/
theorem below_grown_own {B base : Nat} {w0 w w' : World} {e : TypeId} {sz n c : Nat} {A : Option Addr} {xs : List Value} (hb : Below B w0 w) (h : w.ownsRow base e sz (.slice A n c) n xs) (hg : w.grownBy w' (Value.slice A n c).ownBlock) (h1 : B ≤ base) (h2 : B ≤ w.heap.size) : Below B w0 w' :=
  hb.grown hg h2 fun k hk => Nat.le_trans h1 (h.lt k hk).1
/-- A store into an owned row of one-cell elements. -/
theorem own_set {w : World} {base : Nat} {e : TypeId} {n c : Nat} {A : Option Addr} {xs : List Value} (h : w.ownsRow base e 1 (.slice A n c) n xs) {k : Nat} (hk : k < n) (u : Value) :
    ∃ g, A = some ⟨g, 0, none⟩ ∧ base ≤ g ∧ g < w.heap.size ∧ w.frozen? ⟨g, k, none⟩ = false ∧ (∃ y, w.cell? ⟨g, k, none⟩ = some y ∧ xs[k]? = some y) ∧ (w.setCell ⟨g, k, none⟩ u).ownsRow base e 1 (.slice A n c) n (xs.set k u) ∧ w.grownBy (w.setCell ⟨g, k, none⟩ u) (some g) := by
  rcases h.2 with ⟨_, h2⟩ | ⟨g, cap, cur, hv, hg, hh, hnc, hcm, hcs, ht⟩
  · omega
  · simp only [Value.slice.injEq, true_and] at hv
    obtain ⟨rfl, rfl⟩ := hv
    have hlt : g < w.heap.size := (Array.getElem?_eq_some_iff.1 hh).1
    have hc := h.cellAt k (by omega)
    have hl := h.1
    have hx : xs[k]? = some xs[k] := List.getElem?_eq_getElem (by omega)
    have hs := h.stored k u
    exact ⟨g, rfl, hg, hlt, h.frozenAt k, ⟨xs[k], by rw [hc, hx], hx⟩, hs.1, hs.2⟩
/-- A store into an owned row of ints. -/
theorem OwnI.set_ {w : World} {base c : Nat} {A : Option Addr} {l : List Int} (h : OwnI w base A c l) {k : Nat} (hk : k < l.length) (x : Int) :
    ∃ g, A = some ⟨g, 0, none⟩ ∧ base ≤ g ∧ g < w.heap.size ∧ w.frozen? ⟨g, k, none⟩ = false ∧ (∃ y, w.cell? ⟨g, k, none⟩ = some (.int .i64 y) ∧ l[k]? = some y) ∧ OwnI (w.setCell ⟨g, k, none⟩ (.int .i64 x)) base A c (l.set k x) ∧ w.grownBy (w.setCell ⟨g, k, none⟩ (.int .i64 x)) (some g) := by
  unfold OwnI at h
  rcases h.2 with ⟨_, h2⟩ | ⟨g, cap, cur, hv, hg, hh, hnc, hcm, hcs, ht⟩
  · omega
  · simp only [Value.slice.injEq, true_and] at hv
    obtain ⟨rfl, rfl⟩ := hv
    have hlt : g < w.heap.size := (Array.getElem?_eq_some_iff.1 hh).1
    have hs := h.stored k (.int .i64 x)
    have hc := h.cellAt k (by omega)
    have hx : l[k]? = some l[k] := List.getElem?_eq_getElem hk
    refine ⟨g, rfl, hg, hlt, h.frozenAt k, ⟨l[k], by rw [hc]; exact ints_get hx, hx⟩, ?_, hs.2⟩
    unfold OwnI
    rw [List.length_set]
    have e : ints (l.set k x) = (ints l).set k (.int .i64 x) := by unfold ints; rw [List.map_set]
    rw [e]
    exact hs.1
theorem grownBy_trans {a b c : World} {row : Option Nat} (h : a.grownBy b row) (k : b.grownBy c row) : a.grownBy c row :=
  ⟨k.os.trans h.os, k.tape.trans h.tape, k.output.trans h.output, Nat.le_trans h.size k.size, fun i hi hn => (k.block i (Nat.lt_of_lt_of_le hi h.size) hn).trans (h.block i hi hn)⟩
theorem grownBy_drewN {a b : World} {row : Option Nat} (h : a.grownBy b row) (n : Nat) : a.grownBy (b.drewN n) row := ⟨h.os, h.tape, h.output, h.size, h.block⟩
theorem below_of_drew {w w' : World} (h : Below w.drew.heap.size w.drew w') : Below w.heap.size w w' := ⟨h.os, h.tape, h.output, h.size, h.block⟩
theorem below_drewN {B : Nat} {a b : World} (h : Below B a b) (n : Nat) : Below B a (b.drewN n) := ⟨h.os, h.tape, h.output, h.size, h.block⟩
/-- What a walk takes of a callee that only makes memory: all old cells and marks read as before. -/
theorem bcell {W w1 : World} (hb : Below W.heap.size W w1) : (∀ b o, b < W.heap.size → w1.cell? ⟨b, o, none⟩ = W.cell? ⟨b, o, none⟩) ∧ (∀ b o, b < W.heap.size → w1.frozen? ⟨b, o, none⟩ = W.frozen? ⟨b, o, none⟩) :=
  ⟨fun b o h => hb.cell (p := ⟨b, o, none⟩) h, fun b o h => hb.frozen (p := ⟨b, o, none⟩) h⟩
theorem name_world {P : Program} {f : FuncId} {args : Array Value} {w : World} {R : Ending → World → Prop} (h : ∀ W, W = w → Calls P f args W R) : Calls P f args w R := h w rfl
/-- Contracts of callees that only read, in the form that a law's walk takes. -/
theorem post_s {P : Program} {f : FuncId} {args : Array Value} {w : World} {R : Ending} (h : Calls P f args w fun e w' => e = R ∧ w = w') : Calls P f args w fun e w' => e = R ∧ Below w.heap.size w w' :=
  h.mono fun _ _ ⟨h1, h2⟩ => ⟨h1, h2 ▸ Below.refl _ _⟩
theorem post_d {P : Program} {f : FuncId} {args : Array Value} {w : World} {R : Ending} (h : Calls P f args w fun e w' => e = R ∧ ∃ n, w' = w.drewN n) : Calls P f args w fun e w' => e = R ∧ Below w.heap.size w w' :=
  h.mono fun _ _ ⟨h1, n, h2⟩ => ⟨h1, by rw [h2]; exact below_drewN (Below.refl _ _) n⟩
theorem post_b {P : Program} {f : FuncId} {args : Array Value} {w : World} {R : Ending} (h : Calls P f args w fun e w' => e = R ∧ Below w.heap.size w w') : Calls P f args w fun e w' => e = R ∧ Below w.heap.size w w' := h
/-- Nothing outside the blocks lo .. hi has turned. -/
structure Chg (lo hi : Nat) (w w' : World) : Prop where
  os : w'.os = w.os
  tape : w'.tape = w.tape
  output : w'.output = w.output
  size : w.heap.size ≤ w'.heap.size
  block : ∀ k, k < w.heap.size → (k < lo ∨ hi ≤ k) → w'.heap[k]? = w.heap[k]?
theorem Chg.refl (lo hi : Nat) (w : World) : Chg lo hi w w := ⟨rfl, rfl, rfl, Nat.le_refl _, fun _ _ _ => rfl⟩
theorem Chg.trans {lo hi : Nat} {a b c : World} (h : Chg lo hi a b) (k : Chg lo hi b c) : Chg lo hi a c :=
  ⟨k.os.trans h.os, k.tape.trans h.tape, k.output.trans h.output, Nat.le_trans h.size k.size, fun i hi hn => (k.block i (Nat.lt_of_lt_of_le hi h.size) hn).trans (h.block i hi hn)⟩
theorem Chg.below {lo hi B : Nat} {w0 w w' : World} (h : Below B w0 w) (hc : Chg lo hi w w') (h1 : B ≤ lo) (h2 : B ≤ w.heap.size) : Below B w0 w' :=
  h.trans ⟨hc.os, hc.tape, hc.output, hc.size, fun k hk => hc.block k (by omega) (.inl (by omega))⟩
theorem Chg.cell {lo hi : Nat} {w w' : World} (h : Chg lo hi w w') {p : Addr} (hp : p.block < w.heap.size) (hn : p.block < lo ∨ hi ≤ p.block) : w'.cell? p = w.cell? p := World.cell?_of_block (h.block _ hp hn)
theorem Chg.mono {lo hi lo' hi' : Nat} {w w' : World} (h : Chg lo hi w w') (h1 : lo' ≤ lo) (h2 : hi ≤ hi') : Chg lo' hi' w w' := ⟨h.os, h.tape, h.output, h.size, fun k hk hn => h.block k hk (by omega)⟩
/-- A row that the call owns, its block from lo on and below hi. -/
def Row2 (w : World) (lo hi : Nat) (e : TypeId) (sz : Nat) (A : Option Addr) (n c : Nat) (xs : List Value) : Prop :=
  w.ownsRow lo e sz (.slice A n c) n xs ∧ ∀ g, (Value.slice A n c).ownBlock = some g → g < hi
section
variable {w w' : World} {lo hi : Nat} {e : TypeId} {sz n c : Nat} {A : Option Addr} {xs : List Value}
theorem Row2.born (h : w.ownsRow lo e sz (.slice A n c) n xs) : Row2 w lo w.heap.size e sz A n c xs := ⟨h, fun g hg => (h.lt g hg).2⟩
theorem Row2.rd (h : Row2 w lo hi e sz A n c xs) : Rd w w.heap.size sz A n c xs := Rd.of_own h.1
theorem Row2.same (h : Row2 w lo hi e sz A n c xs) (hs : ∀ g, (Value.slice A n c).ownBlock = some g → w'.heap[g]? = w.heap[g]?) : Row2 w' lo hi e sz A n c xs := by
  obtain ⟨h1, h2⟩ := h
  refine ⟨⟨h1.1, ?_⟩, h2⟩
  rcases h1.2 with h3 | ⟨g, cap, cur, hv, hg, hh, r⟩
  · exact .inl h3
  · refine .inr ⟨g, cap, cur, hv, hg, ?_, r⟩
    rw [hs g (by simp only [Value.slice.injEq, true_and] at hv; rw [hv.1]; rfl)]
    exact hh
theorem Row2.below {B : Nat} (h : Row2 w lo hi e sz A n c xs) (hb : Below B w w') (hB : hi ≤ B) : Row2 w' lo hi e sz A n c xs :=
  h.same fun g hg => hb.block g (Nat.lt_of_lt_of_le (h.2 g hg) hB)
theorem Row2.chg {lo' hi' : Nat} (h : Row2 w lo hi e sz A n c xs) (hc : Chg lo' hi' w w') (hs : hi ≤ lo' ∨ hi' ≤ lo) : Row2 w' lo hi e sz A n c xs :=
  h.same fun g hg => hc.block g (h.1.lt g hg).2 (by have := h.2 g hg; have := (h.1.lt g hg).1; omega)
theorem Row2.far (h : Row2 w lo hi e sz A n c xs) {p : Addr} (hp : p.block < lo ∨ hi ≤ p.block) (u : Value) : Row2 (w.setCell p u) lo hi e sz A n c xs :=
  h.same fun g hg => Below.heap_setCell w p u g (fun he => by have := h.2 g hg; have := (h.1.lt g hg).1; omega)
theorem Row2.alloc (h : Row2 w lo hi e sz A n c xs) (o : Obj) : Row2 (w.alloc o) lo hi e sz A n c xs := h.same fun g hg => Below.heap_alloc w o g (h.1.lt g hg).2
theorem Row2.drewN (h : Row2 w lo hi e sz A n c xs) (k : Nat) : Row2 (w.drewN k) lo hi e sz A n c xs := h
theorem Row2.drew (h : Row2 w lo hi e sz A n c xs) : Row2 w.drew lo hi e sz A n c xs := h
/-- What was written through the row's own block. -/
theorem Row2.wrote (h : Row2 w lo hi e sz A n c xs) (hg : w.grownBy w' (Value.slice A n c).ownBlock) : Chg lo hi w w' :=
  ⟨hg.os, hg.tape, hg.output, hg.size, fun k hk hn => hg.block k hk (fun he => by have := h.2 k he.symm; have := (h.1.lt k he.symm).1; omega)⟩
theorem Row2.mono {lo' hi' : Nat} (h : Row2 w lo hi e sz A n c xs) (h1 : lo' ≤ lo) (h2 : hi ≤ hi') : Row2 w lo' hi' e sz A n c xs := by
  obtain ⟨⟨a, b⟩, d⟩ := h
  refine ⟨⟨a, ?_⟩, fun g hg => Nat.lt_of_lt_of_le (d g hg) h2⟩
  rcases b with b | ⟨g, cap, cur, hv, hg, r⟩
  · exact .inl b
  · exact .inr ⟨g, cap, cur, hv, Nat.le_trans h1 hg, r⟩
end
/-- A reading of an argument, in a later world of the call. -/
theorem Rd.later {w w' : World} {sz n c : Nat} {A : Option Addr} {xs : List Value} (h : Rd w w.heap.size sz A n c xs) (hb : Below w.heap.size w w') : Rd w' w'.heap.size sz A n c xs := Rd.below' h hb
/-- Two rows of which the second was made behind the first. -/
theorem own_sep {w1 w2 : World} {base1 base2 : Nat} {e1 e2 : TypeId} {sz1 n1 c1 sz2 n2 c2 : Nat} {A1 A2 : Option Addr} {xs1 xs2 : List Value} (h1 : w1.ownsRow base1 e1 sz1 (.slice A1 n1 c1) n1 xs1) (h2 : w2.ownsRow base2 e2 sz2 (.slice A2 n2 c2) n2 xs2) (hle : w1.heap.size ≤ base2) :
    ∀ g g', (Value.slice A2 n2 c2).ownBlock = some g → (Value.slice A1 n1 c1).ownBlock = some g' → g ≠ g' := by
  intro g g' hg hg' e
  have a := (h1.lt g' hg').2
  have b := (h2.lt g hg).1
  omega
end Go.Proofs.YtpmmjhpmheooeaaDoor
