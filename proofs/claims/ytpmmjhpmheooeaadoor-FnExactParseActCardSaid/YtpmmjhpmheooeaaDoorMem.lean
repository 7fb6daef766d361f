/- Blocks known whole; a whole slice appended onto a row of the call's own; slices of three-cell structs. -/
import Derived.Test.YtpmmjhpmheooeaaDoorBase
import Derived.Test.YtpmmjhpmheooeaaDoorProg
import Derived.Maps.AppendAt
namespace Go.Proofs.YtpmmjhpmheooeaaDoor
set_option linter.unusedSimpArgs false
set_option linter.unusedVariables false
open Go.RowKit
/-- Block g holds just the cells cs of element type t. -/
def Blk (w : World) (g : Nat) (t : TypeId) (cs : Array Value) : Prop := w.heap[g]? = some (.cells cs t (0, 0))
section
variable {w w' : World} {g : Nat} {t : TypeId} {cs : Array Value}
theorem Blk.lt (h : Blk w g t cs) : g < w.heap.size := (Array.getElem?_eq_some_iff.1 h).1
theorem Blk.cell (h : Blk w g t cs) (i : Nat) : w.cell? ⟨g, i, none⟩ = cs[i]? := cell_of_row w g i cs t (0, 0) h
theorem Blk.frozen (h : Blk w g t cs) (i : Nat) : w.frozen? ⟨g, i, none⟩ = false := by
  unfold Blk at h
  simp [World.frozen?, h]
theorem Blk.new (w : World) (t : TypeId) (cs : Array Value) : Blk (w.alloc (.cells cs t)) w.heap.size t cs := heap_alloc_new w _
theorem Blk.new' (w : World) (t : TypeId) (cs : Array Value) (H : Nat) (hH : w.heap.size = H) : Blk (w.alloc (.cells cs t)) H t cs := by subst hH; exact Blk.new w t cs
theorem Blk.drew (h : Blk w g t cs) : Blk w.drew g t cs := h
theorem Blk.drewN (h : Blk w g t cs) (n : Nat) : Blk (w.drewN n) g t cs := h
theorem Blk.alloc (h : Blk w g t cs) (o : Obj) : Blk (w.alloc o) g t cs := (Below.heap_alloc w o g h.lt).trans h
theorem Blk.set_ (h : Blk w g t cs) (i : Nat) (u : Value) : Blk (w.setCell ⟨g, i, none⟩ u) g t (cs.setIfInBounds i u) := by
  unfold Blk at h ⊢
  simp [World.setCell, Array.getElem?_modify, h]
theorem Blk.far (h : Blk w g t cs) {p : Addr} (hp : g ≠ p.block) (u : Value) : Blk (w.setCell p u) g t cs := (Below.heap_setCell w p u g hp).trans h
theorem Blk.below {B : Nat} (h : Blk w g t cs) (hb : Below B w w') (hg : g < B) : Blk w' g t cs := (hb.block g hg).trans h
theorem Blk.grown {row : Option Nat} (h : Blk w g t cs) (hb : w.grownBy w' row) (hg : some g ≠ row) : Blk w' g t cs := (hb.block g h.lt hg).trans h
end
/-- A whole slice that reads as 'news' is appended onto a row of the call's own. -/
theorem wp_appAll {P : Program} {w : World} {o : Oper} {a : Act} {K : Act → World → Prop} {Q : Exit → Act → World → Prop} (s x : Operand) (t : TypeId)
    (ho : o.op = .call { callee := .builtin .append, args := #[s, x], argTypes := #[t, t] })
    (base : Nat) (e : TypeId) (z : Value) (size bytes : Nat) (ht : P.underlying t = some (.slice e)) (hinfo : (P.info? e).map (fun i => (i.zero, i.size, i.bytes)) = some (some z, size, bytes))
    (hzs : z.cells.size = size) (hsz : 0 < size)
    (v : Value) (n : Nat) (xs : List Value) (hs : a.eval s = v) (hown : w.ownsRow base e size v n xs)
    (B : Nat) (A : Option Addr) (m c : Nat) (news : List Value) (hx : a.eval x = .slice A m c) (hr : Rd w B size A m c news) (h1 : ∀ u ∈ news, u.oneCell' = true)
    (h63 : n + m ≤ 9223372036854775807) (hbytes : (n + m) * bytes ≤ 140737488355328) (hbase : base ≤ w.heap.size)
    (h : ∀ A' c' w', w'.ownsRow base e size (.slice A' (n + m) c') (n + m) (xs ++ news) → w.grownBy w' v.ownBlock → K (a.put o.dst (.slice A' (n + m) c')) w') : o.wp P a w K Q := by
  obtain ⟨i, hi, hz, hsize, hby⟩ := info_parts hinfo
  have fin : ∀ v' w', w'.ownsRow base e size v' (n + m) (xs ++ news) → w.grownBy w' v.ownBlock → K (a.put o.dst v') w' := by
    intro v' w' h2 h3
    have hex : ∃ A' c', v' = .slice A' (n + m) c' := by
      rcases h2.2 with ⟨rfl, h0⟩ | ⟨g', cap, cur, rfl, _⟩
      · exact ⟨none, 0, by rw [h0]⟩
      · exact ⟨_, _, rfl⟩
    obtain ⟨A', c', rfl⟩ := hex
    exact h A' c' w' h2 h3
  rcases A with _ | ad
  · have hm : m = 0 := by
      rcases Nat.eq_zero_or_pos m with h0 | h0
      · exact h0
      · obtain ⟨b, o', h, _⟩ := hr.2.2.2 h0
        cases h
    subst hm
    have hn : news = [] := List.eq_nil_of_length_eq_zero (by simpa using hr.1)
    subst hn
    have hrun : (Builtin.append_ #[t, t] o.type #[v, .slice none 0 c]).run P w = .ok v w := by
      rcases hown.2 with ⟨rfl, rfl⟩ | ⟨g, cap, cur, rfl, _, _, hnc, _⟩
      · simp [Builtin.append_, run_underlying ht, sizeOf, typeInfo, hi, Builtin.lenOf, Builtin.firstCells]
      · simp [Builtin.append_, run_underlying ht, sizeOf, typeInfo, hi, Builtin.lenOf, Builtin.firstCells, hnc, storeCells]
    unfold Oper.wp execOp
    simp only [ho, resolve, invoke, builtin, Sem.run_bind, Sem.run_pure, Result.andThen_ok, List.map_toArray, List.map_cons, List.map_nil, hs, hx, hrun]
    exact (fin v w (by simpa using hown) (World.grownBy.refl _ _))
  · have hcells : ∀ j u, news[j]? = some u → w.cell? (ad.add j) = some u := by
      intro j u hu
      rcases Nat.eq_zero_or_pos m with h0 | h0
      · subst h0
        have hn : news = [] := List.eq_nil_of_length_eq_zero (by simpa using hr.1)
        subst hn
        simp at hu
      · obtain ⟨b, o', h, _, hc⟩ := hr.2.2.2 h0
        injection h with h
        subst h
        rw [Addr.add_lit]
        exact hc j u hu
    obtain ⟨v', w', hrun, h2, h3, _⟩ := run_append_own (P := P) w base t o.type e i z size bytes ht hi hz hsize hby hzs hsz v n xs hown ad m c news hr.1 hcells h1 (by unfold maxLen; omega) hbytes hbase
    unfold Oper.wp execOp
    simp only [ho, resolve, invoke, builtin, Sem.run_bind, Sem.run_pure, Result.andThen_ok, List.map_toArray, List.map_cons, List.map_nil, hs, hx, hrun]
    exact fin v' w' h2 h3
/-- A whole slice that reads as 'news' is appended onto a row of the call's own. -/
theorem wpList_appAll {P : Program} {w : World} {ops : Array Oper} {rest : List Oper} {o : Oper} {a : Act} {Q : Exit → Act → World → Prop} (hgd : o.guard = none) (s x : Operand) (t : TypeId)
    (ho : o.op = .call { callee := .builtin .append, args := #[s, x], argTypes := #[t, t] })
    (base : Nat) (e : TypeId) (z : Value) (size bytes : Nat) (ht : P.underlying t = some (.slice e)) (hinfo : (P.info? e).map (fun i => (i.zero, i.size, i.bytes)) = some (some z, size, bytes))
    (hzs : z.cells.size = size) (hsz : 0 < size)
    (v : Value) (n : Nat) (xs : List Value) (hs : a.eval s = v) (hown : w.ownsRow base e size v n xs)
    (B : Nat) (A : Option Addr) (m c : Nat) (news : List Value) (hx : a.eval x = .slice A m c) (hr : Rd w B size A m c news) (h1 : ∀ u ∈ news, u.oneCell' = true)
    (h63 : n + m ≤ 9223372036854775807) (hbytes : (n + m) * bytes ≤ 140737488355328) (hbase : base ≤ w.heap.size)
    (h : ∀ A' c' w', w'.ownsRow base e size (.slice A' (n + m) c') (n + m) (xs ++ news) → w.grownBy w' v.ownBlock → wpList P ops Q rest (a.put o.dst (.slice A' (n + m) c')) w') : wpList P ops Q (o :: rest) a w :=
  wpList_plain hgd fun _ hK => wp_appAll s x t ho base e z size bytes ht hinfo hzs hsz v n xs hs hown B A m c news hx hr h1 h63 hbytes hbase fun A' c' w' h2 h3 => hK _ _ (h A' c' w' h2 h3)
theorem step_appAll {P : Program} {w : World} {ops : Array Oper} {o : Oper} {a : Act} {K : Act → World → Prop} {Q : Exit → Act → World → Prop} {E : Prop} (hgd : o.guard = none) (s x : Operand) (t : TypeId)
    (ho : o.op = .call { callee := .builtin .append, args := #[s, x], argTypes := #[t, t] })
    (base : Nat) (e : TypeId) (z : Value) (size bytes : Nat) (ht : P.underlying t = some (.slice e)) (hinfo : (P.info? e).map (fun i => (i.zero, i.size, i.bytes)) = some (some z, size, bytes))
    (hzs : z.cells.size = size) (hsz : 0 < size)
    (v : Value) (n : Nat) (xs : List Value) (hs : a.eval s = v) (hown : w.ownsRow base e size v n xs)
    (B : Nat) (A : Option Addr) (m c : Nat) (news : List Value) (hx : a.eval x = .slice A m c) (hr : Rd w B size A m c news) (h1 : ∀ u ∈ news, u.oneCell' = true)
    (h63 : n + m ≤ 9223372036854775807) (hbytes : (n + m) * bytes ≤ 140737488355328) (hbase : base ≤ w.heap.size)
    (h : ∀ A' c' w', w'.ownsRow base e size (.slice A' (n + m) c') (n + m) (xs ++ news) → w.grownBy w' v.ownBlock → K (a.put o.dst (.slice A' (n + m) c')) w') : if Region.wanted o (yielded ops a.tmps) = true then Oper.wp P o a w K Q else E := by
  have hw : Region.wanted o (yielded ops a.tmps) = true := by simp [Region.wanted, hgd]
  rw [if_pos hw]
  exact wp_appAll s x t ho base e z size bytes ht hinfo hzs hsz v n xs hs hown B A m c news hx hr h1 h63 hbytes hbase h
theorem ownEmpty (w : World) (base : Nat) (t : TypeId) (sz : Nat) (hb : base ≤ w.heap.size) : (w.alloc (.cells #[] t)).ownsRow base t sz (.slice (some ⟨w.heap.size, 0, none⟩) 0 0) 0 [] :=
  World.ownsRow_made w #[] 0 hb (by unfold maxLen; omega) (by simp)
theorem ownEmpty' (w : World) (base : Nat) (t : TypeId) (sz H : Nat) (hH : w.heap.size = H) (hb : base ≤ w.heap.size) : (w.alloc (.cells #[] t)).ownsRow base t sz (.slice (some ⟨H, 0, none⟩) 0 0) 0 [] := by
  subst hH
  exact ownEmpty w base t sz hb
theorem gcell {w w1 : World} {g : Nat} (hg : w.grownBy w1 (some g)) : (∀ b o, b < w.heap.size → b ≠ g → w1.cell? ⟨b, o, none⟩ = w.cell? ⟨b, o, none⟩) ∧ (∀ b o, b < w.heap.size → b ≠ g → w1.frozen? ⟨b, o, none⟩ = w.frozen? ⟨b, o, none⟩) :=
  ⟨fun b o h hn => World.cell?_of_block (hg.block b h (fun e => hn (Option.some.inj e))), fun b o h hn => World.frozen?_of_block (hg.block b h (fun e => hn (Option.some.inj e)))⟩
/-- A store into a block of another element type. -/
theorem own_set_blk {w : World} {base : Nat} {e : TypeId} {sz n : Nat} {v : Value} {xs : List Value} {g : Nat} {t : TypeId} {cs : Array Value} (h : w.ownsRow base e sz v n xs) (hk : Blk w g t cs) (hne : e ≠ t) (i : Nat) (u : Value) : (w.setCell ⟨g, i, none⟩ u).ownsRow base e sz v n xs := by
  refine ⟨h.1, ?_⟩
  rcases h.2 with h2 | ⟨g', cap, cur, hv, hb, hh, r⟩
  · exact .inl h2
  · refine .inr ⟨g', cap, cur, hv, hb, ?_, r⟩
    rw [Below.heap_setCell w _ u g' (fun he => ?_)]
    · exact hh
    · simp only at he
      subst he
      unfold Blk at hk
      rw [hk] at hh
      injection hh with hh
      injection hh with _ ht
      exact hne ht.symm
theorem own_set7 {w : World} {base : Nat} {e : TypeId} {sz n : Nat} {v : Value} {xs : List Value} {g : Nat} {t : TypeId} {c0 c1 c2 c3 c4 c5 c6 : Value} (h : w.ownsRow base e sz v n xs) (hk : Blk w g t #[c0, c1, c2, c3, c4, c5, c6]) (hne : e ≠ t) (a0 a1 a2 a3 a4 a5 a6 : Value) :
    (((((((w.setCell ⟨g, 0, none⟩ a0).setCell ⟨g, 1, none⟩ a1).setCell ⟨g, 2, none⟩ a2).setCell ⟨g, 3, none⟩ a3).setCell ⟨g, 4, none⟩ a4).setCell ⟨g, 5, none⟩ a5).setCell ⟨g, 6, none⟩ a6).ownsRow base e sz v n xs := by
  have k0 := hk.set_ 0 a0
  have k1 := k0.set_ 1 a1
  have k2 := k1.set_ 2 a2
  have k3 := k2.set_ 3 a3
  have k4 := k3.set_ 4 a4
  have k5 := k4.set_ 5 a5
  have o0 := own_set_blk h hk hne 0 a0
  have o1 := own_set_blk o0 k0 hne 1 a1
  have o2 := own_set_blk o1 k1 hne 2 a2
  have o3 := own_set_blk o2 k2 hne 3 a3
  have o4 := own_set_blk o3 k3 hne 4 a4
  have o5 := own_set_blk o4 k4 hne 5 a5
  exact own_set_blk o5 k5 hne 6 a6
theorem blk_set7 {w : World} {g : Nat} {t : TypeId} {c0 c1 c2 c3 c4 c5 c6 : Value} (hk : Blk w g t #[c0, c1, c2, c3, c4, c5, c6]) (a0 a1 a2 a3 a4 a5 a6 : Value) :
    Blk (((((((w.setCell ⟨g, 0, none⟩ a0).setCell ⟨g, 1, none⟩ a1).setCell ⟨g, 2, none⟩ a2).setCell ⟨g, 3, none⟩ a3).setCell ⟨g, 4, none⟩ a4).setCell ⟨g, 5, none⟩ a5).setCell ⟨g, 6, none⟩ a6) g t #[a0, a1, a2, a3, a4, a5, a6] := by
    have k0 := hk.set_ 0 a0
    have k1 := k0.set_ 1 a1
    have k2 := k1.set_ 2 a2
    have k3 := k2.set_ 3 a3
    have k4 := k3.set_ 4 a4
    have k5 := k4.set_ 5 a5
    have k6 := k5.set_ 6 a6
    simpa using k6
/-! ### Structs of three ints. -/
structure T3 where
  x : Int
  y : Int
  z : Int
deriving DecidableEq
def T3.cells (t : T3) : List Value := [.int .i64 t.x, .int .i64 t.y, .int .i64 t.z]
def t3s (l : List T3) : List Value := l.flatMap T3.cells
theorem t3s_nil : t3s [] = [] := rfl
theorem t3s_cons (t : T3) (l : List T3) : t3s (t :: l) = .int .i64 t.x :: .int .i64 t.y :: .int .i64 t.z :: t3s l := rfl
theorem t3s_append (l m : List T3) : t3s (l ++ m) = t3s l ++ t3s m := List.flatMap_append
theorem t3s_len : ∀ l : List T3, (t3s l).length = l.length * 3
  | [] => rfl
  | t :: l => by rw [t3s_cons]; simp only [List.length_cons, t3s_len l]; omega
theorem t3s_one : ∀ l : List T3, ∀ u ∈ t3s l, u.oneCell' = true := by
  intro l u hu
  unfold t3s at hu
  obtain ⟨t, _, ht⟩ := List.mem_flatMap.1 hu
  unfold T3.cells at ht
  simp only [List.mem_cons, List.not_mem_nil, or_false] at ht
  rcases ht with rfl | rfl | rfl <;> rfl
theorem t3s_get : ∀ {l : List T3} {k : Nat} {t : T3}, l[k]? = some t → (t3s l)[k * 3]? = some (.int .i64 t.x) ∧ (t3s l)[k * 3 + 1]? = some (.int .i64 t.y) ∧ (t3s l)[k * 3 + 2]? = some (.int .i64 t.z)
  | [], k, t, h => by simp at h
  | s :: l, 0, t, h => by simp at h; subst h; rw [t3s_cons]; simp
  | s :: l, k + 1, t, h => by
    have := t3s_get (l := l) (k := k) (t := t) (by simpa using h)
    rw [t3s_cons]
    have e0 : (k + 1) * 3 = k * 3 + 3 := by omega
    rw [e0]
    simpa using this
def RdT (w : World) (B : Nat) (A : Option Addr) (c : Nat) (l : List T3) : Prop := Rd w B 3 A l.length c (t3s l)
theorem RdT.le {w : World} {B c : Nat} {A : Option Addr} {l : List T3} (h : RdT w B A c l) : l.length ≤ c ∧ c ≤ 9223372036854775807 := ⟨h.2.1, h.2.2.1⟩
theorem RdT.at_ {w : World} {B c : Nat} {A : Option Addr} {l : List T3} (h : RdT w B A c l) {k : Nat} (hk : k < l.length) :
    ∃ b o t, A = some ⟨b, o, none⟩ ∧ b < B ∧ l[k]? = some t ∧ w.cell? ⟨b, o + k * 3, none⟩ = some (.int .i64 t.x) ∧ w.cell? ⟨b, o + k * 3 + 1, none⟩ = some (.int .i64 t.y) ∧ w.cell? ⟨b, o + k * 3 + 2, none⟩ = some (.int .i64 t.z) := by
  obtain ⟨_, _, _, h4⟩ := h
  obtain ⟨b, o, e, hb, hc⟩ := h4 (by omega)
  have hg := t3s_get (List.getElem?_eq_getElem hk)
  exact ⟨b, o, l[k], e, hb, List.getElem?_eq_getElem hk, hc _ _ hg.1, hc _ _ hg.2.1, hc _ _ hg.2.2⟩
theorem RdT.below {w w' : World} {c : Nat} {A : Option Addr} {l : List T3} (h : RdT w w.heap.size A c l) (hb : Below w.heap.size w w') : RdT w' w'.heap.size A c l := Rd.below' h hb
end Go.Proofs.YtpmmjhpmheooeaaDoor
