/- Texts of the proof, joined: RightsDraw0, To3, Mark3, To3R, InfoR, Run3, Store, To3S. -/
import Derived.Test.YtpmmjhpmheooeaaGreatDoorQ11
import Derived.Test.YtpmmjhpmheooeaaGreatDoorQ0
import Derived.Deep.RegionHeld3
import Derived.Test.YtpmmjhpmheooeaaGreatDoorQ1
import Derived.Lib.AppendZerosOnto
import Derived.Lib.Overlaps
import Derived.Laws.CopyRow
import Derived.Laws.IdiomCopy
namespace Go.Proofs.YtpmmjhpmheooeaaGreatDoor
set_option linter.unusedSimpArgs false
set_option linter.unusedVariables false
section
/-- What drawn rights are. -/
def RtD (l : List T3) : Prop := rightsOk l = true ∧ ∀ e ∈ l, e.x ≤ 12
theorem rt_one {x : Int} (h1 : 1 ≤ x) (h2 : x ≤ 9) : RtD [⟨x, 1, 1⟩] := by
 refine ⟨?_, fun e he => by simp at he; subst he; show x ≤ 12; omega⟩
 have : x = 1 ∨ x = 2 ∨ x = 3 ∨ x = 4 ∨ x = 5 ∨ x = 6 ∨ x = 7 ∨ x = 8 ∨ x = 9 := by omega
 rcases this with rfl | rfl | rfl | rfl | rfl | rfl | rfl | rfl | rfl <;> decide +kernel
theorem cutS_own (P : Int → Prop) : ∀ (l : List T3) (o y z : Int), (∀ e ∈ l, P e.x) → ∀ e ∈ cutS l o y z, P e.x
 | [], _, _, _, _, _, he => by simp [cutS] at he
 |a :: l, o, y, z, h, e, he => by
  rw [cutS_cons] at he
  split at he
  ·rename_i hx
   split at he
   ·exact h e (by simp [he])
   ·rcases List.mem_cons.1 he with rfl | he
    ·show P o; rw [← hx]; exact h a (by simp)
    ·exact h e (by simp [he])
  ·rcases List.mem_cons.1 he with rfl | he
   ·exact h e (by simp)
   ·exact cutS_own P l o y z (fun e' he' => h e' (by simp [he'])) e he
theorem addSh_own (P : Int → Prop) : ∀ (l : List T3) (o y z : Int) (r : List T3), P o → (∀ e ∈ l, P e.x) → addSh l o y z = some r → ∀ e ∈ r, P e.x
 | [], o, y, z, r, ho, _, h, e, he => by
  rw [addSh_nil] at h
  obtain rfl := Option.some.inj h
  simp at he; subst he; exact ho
 |a :: l, o, y, z, r, ho, hl, h, e, he => by
  rw [addSh_cons] at h
  split at h
  ·cases h1 : addSh l o y z with
   |none => rw [h1] at h; cases h
   |some r1 =>
    rw [h1] at h
    obtain rfl := Option.some.inj h
    rcases List.mem_cons.1 he with rfl | he
    ·exact hl e (by simp)
    ·exact addSh_own P l o y z r1 ho (fun e' he' => hl e' (by simp [he'])) h1 e he
  ·split at h
   ·split at h
    ·obtain rfl := Option.some.inj h
     rcases List.mem_cons.1 he with rfl | he
     ·exact ho
     ·exact hl e (by simp [he])
    ·cases h
   ·obtain rfl := Option.some.inj h
    rcases List.mem_cons.1 he with rfl | he
    ·exact ho
    ·exact hl e he
theorem sell_own (P : Int → Prop) {l : List T3} {f t a b : Int} (ht : P t) (hl : ∀ e ∈ l, P e.x) : ∀ e ∈ (sellF l f t a b).1, P e.x := by
 cases hg : sellG l f t a b
 ·rw [sellF_no hg]; exact hl
 cases hs : sellTo l f t a b with
 |none => rw [sellF_none hs]; exact hl
 |some r =>
  rw [sellF_some hg hs]
  split
  ·unfold sellTo at hs
   simp only at hs
   split at hs
   ·split at hs
    ·obtain rfl := Option.some.inj hs
     exact cutS_own P l _ _ _ hl
    ·exact addSh_own P _ _ _ _ r ht (cutS_own P l _ _ _ hl) hs
   ·cases hs
  ·exact hl
theorem sell_rights {l : List T3} {f t a b : Int} (hl : rightsOk l = true) : rightsOk (sellF l f t a b).1 = true := by
 cases hg : sellG l f t a b
 ·rw [sellF_no hg]; exact hl
 cases hs : sellTo l f t a b with
 |none => rw [sellF_none hs]; exact hl
 |some r =>
  rw [sellF_some hg hs]
  split
  ·assumption
  ·exact hl
theorem rtD_sell {l : List T3} {f t a b : Int} (h : RtD l) (ht : t ≤ 12) : RtD (sellF l f t a b).1 :=
 ⟨sell_rights h.1, sell_own (fun x => x ≤ 12) ht h.2⟩
end
section
theorem infoRight : (Tryz.prog.info? 69).map (fun i => (i.zero, i.size, i.bytes)) = some (some (.agg #[.int .i64 0, .int .i64 0, .int .i64 0]), 3, 24) := by kernel_rfl
end
section
open Go.RowKit
section
variable {P : Program}
/-- A stretch of an array written over. -/
def patch (cur : Array Value) (o : Nat) (vs : List Value) : Array Value := (cur.toList.take o ++ vs ++ cur.toList.drop (o + vs.length)).toArray
theorem patch_size {cur : Array Value} {o : Nat} {vs : List Value} (h : o + vs.length ≤ cur.size) : (patch cur o vs).size = cur.size := by
 unfold patch
 simp only [List.size_toArray, List.length_append, List.length_take, List.length_drop, Array.length_toList]
 omega
theorem patch_get {cur : Array Value} {o : Nat} {vs : List Value} (h : o + vs.length ≤ cur.size) (i : Nat) : (patch cur o vs)[i]? = if o ≤ i ∧ i < o + vs.length then vs[i - o]? else cur[i]? := by
 unfold patch
 rw [List.getElem?_toArray, List.append_assoc, List.getElem?_append, List.getElem?_append, List.getElem?_take, List.getElem?_drop, List.length_take, Array.length_toList]
 by_cases h1 : i < o
 ·rw [if_pos (by omega), if_pos h1, if_neg (by omega)]; simp
 ·rw [if_neg (by omega)]
  have e : i - min o cur.size = i - o := by omega
  rw [e]
  by_cases h2 : i < o + vs.length
  ·rw [if_pos (by omega), if_pos (by omega)]
  ·rw [if_neg (by omega), if_neg (by omega)]
   have e2 : o + vs.length + (i - o - vs.length) = i := by omega
   rw [e2]; simp
theorem run_copyR (w : World) (dT sT ty elem : TypeId) (sz g o dLen dCap : Nat) (a : Addr) (sLen sCap : Nat) (cur : Array Value) (t : TypeId) (cs : List Value)
  (hu : P.underlying dT = some (.slice elem)) (hs : (P.info? elem).map (·.size) = some sz)
  (hg : w.heap[g]? = some (.cells cur t (0, 0))) (hn : cs.length = Nat.min sLen dLen * sz)
  (hsrc : ∀ j v, cs[j]? = some v → w.cell? (a.add j) = some v) (hfit : o + cs.length ≤ cur.size) (h1 : ∀ v ∈ cs, v.oneCell' = true) :
  (Builtin.copy_ #[dT, sT] ty #[.slice (some ⟨g, o, none⟩) dLen dCap, .slice (some a) sLen sCap]).run P w =
   .ok (goInt (Nat.min sLen dLen)) (w.setRow g (patch cur o cs)) := by
 have hl := run_loadCells_list (P := P) w a cs hsrc
 have hst := run_storeCells_at P g o t cs 0 cur w hg (by simpa using hfit) h1
 rw [hn] at hl
 cases hq : P.info? elem with
 |none => simp [hq] at hs
 |some i =>
  have hi : i.size = sz := by simpa [hq] using hs
  unfold patch
  simp [Builtin.copy_, run_underlying hu, Builtin.lenOf, Builtin.firstCells, sizeOf, typeInfo, hq, hi, hl, hst]
theorem run_clearR (w : World) (t e ty : TypeId) (z : Value) (ht : P.underlying t = some (.slice e)) (hv : ∀ w, (zeroValue e).run P w = .ok z w) (g o n c : Nat) (cur : Array Value) (tt : TypeId) (zs : List Value) (hz : (Builtin.zeroCells z.cells n).toList = zs) (hn : 0 < n)
  (hg : w.heap[g]? = some (.cells cur tt (0, 0))) (hfit : o + zs.length ≤ cur.size) (h1 : ∀ v ∈ zs, v.oneCell' = true) :
  (Builtin.clear_ #[t] ty #[.slice (some ⟨g, o, none⟩) n c]).run P w = .ok (.tuple #[]) (w.setRow g (patch cur o zs)) := by
 have hst := run_storeCells_at P g o tt zs 0 cur w hg (by simpa using hfit) h1
 obtain ⟨m, rfl⟩ : ∃ m, n = m + 1 := ⟨n - 1, by omega⟩
 unfold patch
 simp [Builtin.clear_, run_underlying ht, hv, hz, hst]
theorem run_appR (w : World) (t tx ty e : TypeId) (i : TypeInfo) (ht : P.underlying t = some (.slice e)) (htx : P.underlying tx = some (.slice e)) (hi : P.info? e = some i) (g off sLen sCap : Nat) (cur : Array Value) (tt : TypeId) (ad : Addr) (m c : Nat) (news : List Value)
  (hg : w.heap[g]? = some (.cells cur tt (0, 0))) (hn : news.length = m * i.size) (hsrc : ∀ j u, news[j]? = some u → w.cell? (ad.add j) = some u) (h1 : ∀ u ∈ news, u.oneCell' = true)
  (hroom : sLen + m ≤ sCap) (hfit : off + sLen * i.size + news.length ≤ cur.size) :
  (Builtin.append_ #[t, tx] ty #[.slice (some ⟨g, off, none⟩) sLen sCap, .slice (some ad) m c]).run P w = .ok (.slice (some ⟨g, off, none⟩) (sLen + m) sCap) (w.setRow g (patch cur (off + sLen * i.size) news)) := by
 have hl := run_loadCells_list (P := P) w ad news hsrc
 have hst := run_storeCells_at P g (off + sLen * i.size) tt news 0 cur w hg (by simpa using hfit) h1
 rw [hn] at hl
 simp only [Nat.add_zero] at hst
 unfold patch
 simp [Builtin.append_, run_underlying ht, run_underlying htx, sizeOf, typeInfo, hi, hroom, Builtin.lenOf, Builtin.firstCells, hl, Addr.add_lit, hst]
/-! ### the operations, for the walk and for a drawn region -/
theorem wp_copy_is (w : World) {o : Oper} {a : Act} {K : Act → World → Prop} {Q : Exit → Act → World → Prop} (d s : Operand) (ts : Array TypeId)
  (ho : o.op = .call { callee := .builtin .copy, args := #[d, s], argTypes := ts }) (v u : Value) (hd : a.eval d = v) (hs : a.eval s = u) {v' : Value} {w' : World}
  (hr : (Builtin.copy_ ts o.type #[v, u]).run P w = .ok v' w') (h : K (a.put o.dst v') w') : o.wp P a w K Q := by
 unfold Oper.wp execOp
 simp only [ho, resolve, invoke, builtin, Sem.run_bind, Sem.run_pure, Result.andThen_ok, List.map_toArray, List.map_cons, List.map_nil, hd, hs, hr]
 exact h
theorem wpList_copy_is (w : World) {ops : Array Oper} {rest : List Oper} {o : Oper} {a : Act} {Q : Exit → Act → World → Prop} (hgd : o.guard = none) (d s : Operand) (ts : Array TypeId)
  (ho : o.op = .call { callee := .builtin .copy, args := #[d, s], argTypes := ts }) (v u : Value) (hd : a.eval d = v) (hs : a.eval s = u) {v' : Value} {w' : World}
  (hr : (Builtin.copy_ ts o.type #[v, u]).run P w = .ok v' w') (h : wpList P ops Q rest (a.put o.dst v') w') : wpList P ops Q (o :: rest) a w :=
 wpList_plain hgd fun _ hK => wp_copy_is w d s ts ho v u hd hs hr (hK _ _ h)
theorem step_copy_is {w : World} {ops : Array Oper} {o : Oper} {a : Act} {K : Act → World → Prop} {Q : Exit → Act → World → Prop} {E : Prop} (hgd : o.guard = none) (d s : Operand) (ts : Array TypeId)
  (ho : o.op = .call { callee := .builtin .copy, args := #[d, s], argTypes := ts }) (v u : Value) (hd : a.eval d = v) (hs : a.eval s = u) {v' : Value} {w' : World}
  (hr : (Builtin.copy_ ts o.type #[v, u]).run P w = .ok v' w') (h : K (a.put o.dst v') w') : if Region.wanted o (yielded ops a.tmps) = true then Oper.wp P o a w K Q else E := by
 have hw : Region.wanted o (yielded ops a.tmps) = true := by simp [Region.wanted, hgd]
 rw [if_pos hw]
 exact wp_copy_is w d s ts ho v u hd hs hr h
theorem wp_app_is (w : World) {o : Oper} {a : Act} {K : Act → World → Prop} {Q : Exit → Act → World → Prop} (d s : Operand) (ts : Array TypeId)
  (ho : o.op = .call { callee := .builtin .append, args := #[d, s], argTypes := ts }) (v u : Value) (hd : a.eval d = v) (hs : a.eval s = u) {v' : Value} {w' : World}
  (hr : (Builtin.append_ ts o.type #[v, u]).run P w = .ok v' w') (h : K (a.put o.dst v') w') : o.wp P a w K Q := by
 unfold Oper.wp execOp
 simp only [ho, resolve, invoke, builtin, Sem.run_bind, Sem.run_pure, Result.andThen_ok, List.map_toArray, List.map_cons, List.map_nil, hd, hs, hr]
 exact h
theorem wpList_app_is (w : World) {ops : Array Oper} {rest : List Oper} {o : Oper} {a : Act} {Q : Exit → Act → World → Prop} (hgd : o.guard = none) (d s : Operand) (ts : Array TypeId)
  (ho : o.op = .call { callee := .builtin .append, args := #[d, s], argTypes := ts }) (v u : Value) (hd : a.eval d = v) (hs : a.eval s = u) {v' : Value} {w' : World}
  (hr : (Builtin.append_ ts o.type #[v, u]).run P w = .ok v' w') (h : wpList P ops Q rest (a.put o.dst v') w') : wpList P ops Q (o :: rest) a w :=
 wpList_plain hgd fun _ hK => wp_app_is w d s ts ho v u hd hs hr (hK _ _ h)
theorem step_app_is {w : World} {ops : Array Oper} {o : Oper} {a : Act} {K : Act → World → Prop} {Q : Exit → Act → World → Prop} {E : Prop} (hgd : o.guard = none) (d s : Operand) (ts : Array TypeId)
  (ho : o.op = .call { callee := .builtin .append, args := #[d, s], argTypes := ts }) (v u : Value) (hd : a.eval d = v) (hs : a.eval s = u) {v' : Value} {w' : World}
  (hr : (Builtin.append_ ts o.type #[v, u]).run P w = .ok v' w') (h : K (a.put o.dst v') w') : if Region.wanted o (yielded ops a.tmps) = true then Oper.wp P o a w K Q else E := by
 have hw : Region.wanted o (yielded ops a.tmps) = true := by simp [Region.wanted, hgd]
 rw [if_pos hw]
 exact wp_app_is w d s ts ho v u hd hs hr h
theorem wp_clear_is (w : World) {o : Oper} {a : Act} {K : Act → World → Prop} {Q : Exit → Act → World → Prop} (d : Operand) (ts : Array TypeId)
  (ho : o.op = .call { callee := .builtin .clear, args := #[d], argTypes := ts }) (v : Value) (hd : a.eval d = v) {v' : Value} {w' : World}
  (hr : (Builtin.clear_ ts o.type #[v]).run P w = .ok v' w') (h : K (a.put o.dst v') w') : o.wp P a w K Q := by
 unfold Oper.wp execOp
 simp only [ho, resolve, invoke, builtin, Sem.run_bind, Sem.run_pure, Result.andThen_ok, List.map_toArray, List.map_cons, List.map_nil, hd, hr]
 exact h
theorem wpList_clear_is (w : World) {ops : Array Oper} {rest : List Oper} {o : Oper} {a : Act} {Q : Exit → Act → World → Prop} (hgd : o.guard = none) (d : Operand) (ts : Array TypeId)
  (ho : o.op = .call { callee := .builtin .clear, args := #[d], argTypes := ts }) (v : Value) (hd : a.eval d = v) {v' : Value} {w' : World}
  (hr : (Builtin.clear_ ts o.type #[v]).run P w = .ok v' w') (h : wpList P ops Q rest (a.put o.dst v') w') : wpList P ops Q (o :: rest) a w :=
 wpList_plain hgd fun _ hK => wp_clear_is w d ts ho v hd hr (hK _ _ h)
/-! ### rows -/
theorem grown_setRow (w : World) (g : Nat) (cs : Array Value) : w.grownBy (w.setRow g cs) (some g) :=
 ⟨rfl, rfl, rfl, by simp, fun k _ hn => setRow_other w g k cs (fun e => hn (by rw [e]))⟩
theorem own_of_cells {w : World} {base g n cap sz : Nat} {e : TypeId} {cur : Array Value} {xs : List Value} (hb : base ≤ g) (hg : w.heap[g]? = some (.cells cur e (0, 0))) (hn : n ≤ cap) (hm : cap ≤ maxLen) (hs : cur.size = cap * sz) (hl : xs.length = n * sz) (hx : ∀ i, i < n * sz → cur[i]? = xs[i]?) :
  w.ownsRow base e sz (.slice (some ⟨g, 0, none⟩) n cap) n xs := by
 refine ⟨hl, .inr ⟨g, cap, cur, rfl, hb, hg, hn, hm, hs, ?_⟩⟩
 apply List.ext_getElem?
 intro i
 rw [List.getElem?_take]
 by_cases hi : i < n * sz
 ·rw [if_pos hi, ← hx i hi]; simp
 ·rw [if_neg hi, List.getElem?_eq_none (by omega)]
theorem own_open {w : World} {base n c sz : Nat} {e : TypeId} {A : Option Addr} {xs : List Value} (h : w.ownsRow base e sz (.slice A n c) n xs) (h0 : 0 < n ∨ 0 < c) :
  ∃ (g : Nat) (cur : Array Value), A = some ⟨g, 0, none⟩ ∧ base ≤ g ∧ w.heap[g]? = some (.cells cur e (0, 0)) ∧ n ≤ c ∧ c ≤ maxLen ∧ cur.size = c * sz ∧ xs.length = n * sz ∧ ∀ i, i < n * sz → cur[i]? = xs[i]? := by
 rcases h.2 with ⟨h2, h3⟩ | ⟨g, cap, cur, hv, hg, hh, hnc, hcm, hcs, ht⟩
 ·simp only [Value.slice.injEq] at h2
  omega
 ·simp only [Value.slice.injEq, true_and] at hv
  obtain ⟨rfl, rfl⟩ := hv
  refine ⟨g, cur, rfl, hg, hh, hnc, hcm, hcs, h.1, fun i hi => ?_⟩
  rw [← ht, List.getElem?_take, if_pos hi]; simp
end
theorem t3s_drop (l : List T3) : ∀ k, t3s (l.drop k) = (t3s l).drop (k * 3) := by
 induction l with
 |nil => intro k; simp [t3s]
 |cons t l ih =>
  intro k
  cases k with
  |zero => simp
  |succ k =>
   rw [List.drop_succ_cons, ih k, t3s_cons, show (k + 1) * 3 = k * 3 + 3 by omega]
   rfl
end
end Go.Proofs.YtpmmjhpmheooeaaGreatDoor
