/- Enter: what it computes; appends that keep blocks of other types. -/
import Derived.Test.YtbkgofjajhplpaaDoorStrike
import Derived.Test.YtbkgofjajhplpaaDoorNew
namespace Go.Proofs.YtbkgofjajhplpaaDoor
set_option linter.unusedSimpArgs false
set_option linter.unusedVariables false
open Go.RowKit
set_option maxRecDepth 20000
def enterOk (b : Bk) (e : T3) : Bool := bookOk b && decide (b.evs.length < 40) && (runEv b.room (b.evs ++ [e]) b.start 0 0 0).2.2.2.2
def enter (b : Bk) (e : T3) : Bk × Bool := if enterOk b e then (madeBk b.room b.start (b.evs ++ [e]), true) else (b, false)
theorem rd_blk {w : World} {g : Nat} {t : TypeId} {x y z : Int} (h : Blk w g t #[.int .i64 x, .int .i64 y, .int .i64 z]) : Rd w w.heap.size 3 (some ⟨g, 0, none⟩) 1 1 (t3s [⟨x, y, z⟩]) :=
  ⟨rfl, Nat.le_refl _, by omega, fun _ => ⟨g, 0, rfl, h.lt, fun j u hu => by
    rw [Nat.zero_add, h.cell]
    match j, hu with
    | 0, hu => exact hu
    | 1, hu => exact hu
    | 2, hu => exact hu⟩⟩
/-- A block of another type is no row's block. -/
theorem blk_keep {w w' : World} {base : Nat} {e t : TypeId} {sz n c g : Nat} {A : Option Addr} {xs : List Value} {cs : Array Value} (h : w.ownsRow base e sz (.slice A n c) n xs) (hg : w.grownBy w' (Value.slice A n c).ownBlock) (hne : e ≠ t) (hk : Blk w g t cs) : Blk w' g t cs :=
  hk.grown hg fun he => by
    rcases h.2 with ⟨hn, _⟩ | ⟨b, cap, cur, hv, _, hh, _⟩
    · rw [hn] at he; cases he
    · rw [hv] at he
      simp only [Value.ownBlock, Option.some.injEq] at he
      subst he
      unfold Blk at hk
      rw [hk] at hh
      injection hh with hh
      injection hh with _ ht
      exact hne ht.symm
theorem keep_below {w w' : World} (h : Below w.heap.size w w') : ∀ g t cs, Blk w g t cs → Blk w' g t cs := fun _ _ _ k => k.below h k.lt
theorem own_name {w : World} {base : Nat} {e : TypeId} {sz n c : Nat} {A : Option Addr} {xs : List Value} (h : w.ownsRow base e sz (.slice A n c) n xs) : ∃ lo hi, lo = base ∧ hi = w.heap.size ∧ Row2 w lo hi e sz A n c xs := ⟨_, _, rfl, rfl, Row2.born h⟩
theorem keep_none {w w' : World} {n c : Nat} (h : w.grownBy w' (Value.slice none n c).ownBlock) : ∀ g t cs, Blk w g t cs → Blk w' g t cs := fun _ _ _ k => k.grown h (fun he => by cases he)
theorem step_appB {P : Program} {w : World} {ops : Array Oper} {o : Oper} {a : Act} {K : Act → World → Prop} {Q : Exit → Act → World → Prop} {E : Prop} (hgd : o.guard = none) (s x : Operand) (t : TypeId)
    (ho : o.op = .call { callee := .builtin .append, args := #[s, x], argTypes := #[t, t] })
    (base : Nat) (e : TypeId) (z : Value) (size bytes : Nat) (ht : P.underlying t = some (.slice e)) (hinfo : (P.info? e).map (fun i => (i.zero, i.size, i.bytes)) = some (some z, size, bytes))
    (hzs : z.cells.size = size) (hsz : 0 < size)
    (v : Value) (n : Nat) (xs : List Value) (hs : a.eval s = v) (hown : w.ownsRow base e size v n xs)
    (B : Nat) (A : Option Addr) (m c : Nat) (news : List Value) (hx : a.eval x = .slice A m c) (hr : Rd w B size A m c news) (h1 : ∀ u ∈ news, u.oneCell' = true)
    (h63 : n + m ≤ 9223372036854775807) (hbytes : (n + m) * bytes ≤ 140737488355328) (hbase : base ≤ w.heap.size)
    (h : ∀ A' c' w', w'.ownsRow base e size (.slice A' (n + m) c') (n + m) (xs ++ news) → w.grownBy w' v.ownBlock → (∀ g t cs, e ≠ t → Blk w g t cs → Blk w' g t cs) → K (a.put o.dst (.slice A' (n + m) c')) w') : if Region.wanted o (yielded ops a.tmps) = true then Oper.wp P o a w K Q else E :=
  step_appAll hgd s x t ho base e z size bytes ht hinfo hzs hsz v n xs hs hown B A m c news hx hr h1 h63 hbytes hbase fun A' c' w' h2 h3 => h A' c' w' h2 h3 (fun g t cs hne hk => by
    rcases hown.2 with ⟨hn, _⟩ | ⟨b, cap, cur, hv, hg, hh, r⟩
    · exact hk.grown h3 (fun he => by rw [hn] at he; cases he)
    · subst hv
      exact blk_keep hown h3 hne hk)
theorem step_appN {P : Program} {w : World} {ops : Array Oper} {o : Oper} {a : Act} {K : Act → World → Prop} {Q : Exit → Act → World → Prop} {E : Prop} (hgd : o.guard = none) (s x : Operand) (t : TypeId)
    (ho : o.op = .call { callee := .builtin .append, args := #[s, x], argTypes := #[t, t] })
    (base : Nat) (e : TypeId) (z : Value) (size bytes : Nat) (ht : P.underlying t = some (.slice e)) (hinfo : (P.info? e).map (fun i => (i.zero, i.size, i.bytes)) = some (some z, size, bytes))
    (hzs : z.cells.size = size) (hsz : 0 < size)
    (hs : a.eval s = .slice none 0 0)
    (B : Nat) (A : Option Addr) (m c : Nat) (news : List Value) (hx : a.eval x = .slice A m c) (hr : Rd w B size A m c news) (h1 : ∀ u ∈ news, u.oneCell' = true)
    (h63 : m ≤ 9223372036854775807) (hbytes : m * bytes ≤ 140737488355328) (hbase : base ≤ w.heap.size)
    (h : ∀ A' c' w', w'.ownsRow base e size (.slice A' m c') m news → w.grownBy w' none → (∀ g t cs, Blk w g t cs → Blk w' g t cs) → K (a.put o.dst (.slice A' m c')) w') : if Region.wanted o (yielded ops a.tmps) = true then Oper.wp P o a w K Q else E :=
  step_appAll hgd s x t ho base e z size bytes ht hinfo hzs hsz (.slice none 0 0) 0 [] hs (World.ownsRow_nil _ _ _ _) B A m c news hx hr h1 (by omega) (by rw [Nat.zero_add]; exact hbytes) hbase fun A' c' w' h2 h3 => by
    rw [Nat.zero_add] at h2 ⊢
    exact h A' c' w' h2 h3 (keep_none h3)
theorem wpList_appB {P : Program} {w : World} {ops : Array Oper} {rest : List Oper} {o : Oper} {a : Act} {Q : Exit → Act → World → Prop} (hgd : o.guard = none) (s x : Operand) (t : TypeId)
    (ho : o.op = .call { callee := .builtin .append, args := #[s, x], argTypes := #[t, t] })
    (base : Nat) (e : TypeId) (z : Value) (size bytes : Nat) (ht : P.underlying t = some (.slice e)) (hinfo : (P.info? e).map (fun i => (i.zero, i.size, i.bytes)) = some (some z, size, bytes))
    (hzs : z.cells.size = size) (hsz : 0 < size)
    (v : Value) (n : Nat) (xs : List Value) (hs : a.eval s = v) (hown : w.ownsRow base e size v n xs)
    (B : Nat) (A : Option Addr) (m c : Nat) (news : List Value) (hx : a.eval x = .slice A m c) (hr : Rd w B size A m c news) (h1 : ∀ u ∈ news, u.oneCell' = true)
    (h63 : n + m ≤ 9223372036854775807) (hbytes : (n + m) * bytes ≤ 140737488355328) (hbase : base ≤ w.heap.size)
    (h : ∀ A' c' w', w'.ownsRow base e size (.slice A' (n + m) c') (n + m) (xs ++ news) → w.grownBy w' v.ownBlock → (∀ g t cs, e ≠ t → Blk w g t cs → Blk w' g t cs) → wpList P ops Q rest (a.put o.dst (.slice A' (n + m) c')) w') : wpList P ops Q (o :: rest) a w :=
  wpList_appAll hgd s x t ho base e z size bytes ht hinfo hzs hsz v n xs hs hown B A m c news hx hr h1 h63 hbytes hbase fun A' c' w' h2 h3 => h A' c' w' h2 h3 (fun g t cs hne hk => by
    rcases hown.2 with ⟨hn, _⟩ | ⟨b, cap, cur, hv, hg, hh, r⟩
    · exact hk.grown h3 (fun he => by rw [hn] at he; cases he)
    · subst hv
      exact blk_keep hown h3 hne hk)
theorem enter_count {b : Bk} {e : T3} {R1 R2 R3 R4 : Int} {ok : Bool} (hq : bookOk b = true) (hR : countBk b.room b.start (b.evs ++ [e]) = (R1, R2, R3, R4, ok)) : enter b e = if ok then (⟨b.room, b.start, b.evs ++ [e], R1, R2, R3, R4⟩, true) else (b, false) := by
  obtain ⟨i1, i2, i3, i4⟩ := bookOk_iff hq
  unfold enter enterOk madeBk
  by_cases h40 : b.evs.length < 40
  · rw [countBk_yes i1 i2 (by rw [List.length_append]; simp; omega)] at hR
    rw [hR, hq]
    simp [h40]
  · rw [countBk_no (.inr (.inr (by rw [List.length_append]; simp; omega)))] at hR
    simp only [Prod.mk.injEq] at hR
    rw [← hR.2.2.2.2]
    simp [h40]
end Go.Proofs.YtbkgofjajhplpaaDoor
