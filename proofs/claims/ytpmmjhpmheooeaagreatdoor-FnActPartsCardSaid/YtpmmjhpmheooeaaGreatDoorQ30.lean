/- Texts of the proof, joined: Open, OpenBytes, Wrap, Places, StepG, Reg. -/
import Derived.Test.YtpmmjhpmheooeaaGreatDoorQ0
import Derived.Test.YtpmmjhpmheooeaaGreatDoorRows
import Derived.ProofKit
import Derived.OpenShut
import Derived.ShutString
import Derived.ChangeOld
import Derived.Test.YtpmmjhpmheooeaaGreatDoorQ1
import Derived.HandedShaped
import Derived.Handed
import Derived.Shelf.Vars
import Derived.Orders
namespace Go.Proofs.YtpmmjhpmheooeaaGreatDoor
set_option linter.unusedSimpArgs false
set_option linter.unusedVariables false
section
open Go.ChangeShapes Go.WideShapes Go.ChangeAt Go.RowKit
open Go.ChangeMaps (open_string shut_string)
set_option maxRecDepth 20000
theorem own_knob : ownKnob Tryz.prog.godebug = none := by kernel_rfl
theorem laid_out : laidOutB Tryz.prog = true := by kernel_rfl
section
variable {H : Type} {enc : TypeId × Value → H} {W : World} {base : Nat} {spare : Nat → Bool} {held : Bool} {r : Reach}
/-- The fields of a struct, each read off its own cells. -/
theorem fields {t : TypeId} {fs : Array Field} {fuel : Nat} {cs : List Value} {x : DataW H × List MemPlace} (ht : Tryz.prog.underlying t = some (.struct fs)) (h : DataW.trod enc Tryz.prog W 0 (fun _ => true) true fuel t cs = some x) :
  cs.length = Tryz.prog.cellsOf t ∧ ∃ n, ∀ (i : Nat) (f : Field), fs[i]? = some f → ∃ y, DataW.trod enc Tryz.prog W 0 (fun _ => true) true n f.type ((cs.drop f.offset).take (Tryz.prog.cellsOf f.type)) = some y := by
 obtain ⟨xs, n, _, _, hl, hlen, hf⟩ := DataW.trod_struct ht h
 refine ⟨hl, n, fun i f hi => ?_⟩
 have hil : i < fs.size := (Array.getElem?_eq_some_iff.1 hi).1
 exact ⟨xs[i]'(by omega), by rw [hf i f hi]; exact List.getElem?_eq_getElem (by omega)⟩
end
end
section
open Go.ChangeShapes Go.WideShapes Go.ChangeAt Go.RowKit
set_option maxRecDepth 20000
section
variable {H : Type} {enc : TypeId × Value → H} {W : World} {base : Nat} {r : Reach}
theorem cells_bytes {x : Addr} {l c : Nat} {zs : List Int} (hl : l ≤ c) (hm : c ≤ maxLen) (hz : l ≤ zs.length) (hcell : ∀ i, i < zs.length → W.cell? (x.add i) = some (.int .u8 (zs.getD i 0))) (hw : ∀ n ∈ zs, 0 ≤ n ∧ n ≤ 255) : ∃ m : List Int, l = m.length ∧ RdY W W.heap.size (some x) c m := by
 refine ⟨zs.take l, by rw [List.length_take]; omega, ?_, fun n hn => hw n (List.mem_of_mem_take hn)⟩
 have hl' : (zs.take l).length = l := by rw [List.length_take]; omega
 refine ⟨by rw [bts_len]; omega, by omega, by unfold maxLen at hm; omega, fun hn => ?_⟩
 obtain ⟨b, o, spot⟩ := x
 have hc0 := hcell 0 (by omega)
 have hspot : spot = none := by simpa [Addr.add] using World.cell?_spot hc0
 subst hspot
 have hlt := World.block_lt_of_cell? W _ hc0
 refine ⟨b, o, rfl, by simpa [Addr.add] using hlt, fun j u hu => ?_⟩
 have hj : j < (bts (zs.take l)).length := (List.getElem?_eq_some_iff.1 hu).1
 rw [bts_len, hl'] at hj
 have := hcell j (by omega)
 rw [Addr.add_lit] at this
 rw [this]
 unfold bts at hu
 rw [List.getElem?_map, List.getElem?_take, if_pos hj, List.getElem?_eq_getElem (by omega)] at hu
 simp only [Option.map_some, Option.some.injEq] at hu
 rw [← hu]
 simp [List.getD, List.getElem?_eq_getElem (show j < zs.length by omega)]
theorem arg_bytes {v : Value} {d : DataW H} {p : List MemPlace} (hv : Value.okWide Tryz.prog W r base 28 v) (h : DataW.Trod enc Tryz.prog W 0 (fun _ => true) true 28 v d p) :
  ∃ (A : Option Addr) (c : Nat) (l : List Int), v = .slice A l.length c ∧ RdY W W.heap.size A c l := by
 obtain ⟨a, len, cap, rfl⟩ := okWide_slice Tryz.underlying28 hv
 obtain ⟨fuel, hf⟩ := h
 rcases open_ints Tryz.underlying28 Tryz.underlying5 (by kernel_rfl) hf with ⟨hcs, _⟩ | ⟨x, l, c, zs, hcs, _, hl, hm, hz, _, hcell, hwz⟩
 ·simp [Value.cells] at hcs
  obtain ⟨rfl, rfl, rfl⟩ := hcs
  exact ⟨none, 0, [], rfl, Rd.nil_ _ _ _, fun x hx => by cases hx⟩
 ·simp [Value.cells] at hcs
  obtain ⟨rfl, rfl, rfl⟩ := hcs
  obtain ⟨m, rfl, hr⟩ := cells_bytes (W := W) hl hm (by simp at hz; omega) hcell (fun n hn => by
   have h9 := hwz n hn
   unfold Lit.wf at h9
   simp only [Bool.and_eq_true, decide_eq_true_eq] at h9
   exact ⟨h9.1, h9.2⟩)
  exact ⟨some x, cap, m, rfl, hr⟩
end
end
section
open Go
variable {H : Type} {enc : TypeId × Value → H}
/-- An extra condition on the world and the world's shape, both at once. -/
theorem wrap_shaped {a : Assume} {C : Checked} {os : Os} {f : FuncId} {fn : Func} {s : ChangeSpec} {conds : List PathCond} {apart fresh handsOn again : Bool} {X : World → Prop}
  (hX : ∀ w w' : World, w.heap = w'.heap → X w → X w')
  (own : ownKnob C.prog.godebug = none) (started : os.Started) (noInit : C.prog.inits.idxOf? f = none) (hfn : C.prog.funcs[f]? = some fn)
  (wit : ∃ (w : World) (tape : Tape) (i : Input), w.os = os ∧ (w.forCall tape i).Shaped C.prog ∧ i.vars = [] ∧ Input.okWide C.prog (w.forCall tape i) .any w.heap.size f i ∧
   ((s.pre enc C.prog fn conds apart (w.forCall tape i).memory i.args ∧ X (w.forCall tape i).memory) ∧ sizedMet enc C.prog fn (OpenSpec.ofChange s) apart (w.forCall tape i).memory i.args) ∧ a.holds C.prog (lone (Frame.enter C.prog f i.args .normal) [] (w.forCall tape i)))
  (walk : ∀ (W : World) (base : Nat) (args : Array Value) (ds gs : List (DataW H)) (before : List MemPlace),
   (∀ (j : Nat) t v, fn.params[j]? = some t → args[j]? = some v → Value.okWide C.prog W .any base t v) →
   DataW.Whole enc C.prog fn.params.toList s.vars apart W args.toList ds gs before → X W → W.ShapedOpen C.prog →
   Calls C.prog f args W fun e W' => ∃ v, e = .returned v ∧ s.post enc C.prog fn apart fresh handsOn again W args v W') :
  ReturnsInHanded a C os f .any (fun w args => (s.pre enc C.prog fn conds apart w args ∧ X w) ∧ sizedMet enc C.prog fn (OpenSpec.ofChange s) apart w args) (s.post enc C.prog fn apart fresh handsOn again) := by
 apply returnsInHanded_of_calls own started noInit wit
 rintro w tape i - hshape - ⟨_, _, _, g, hg, _, _, _, _, hval⟩ ⟨⟨⟨ds, gs, bf, hw, _⟩, hx⟩, _⟩ -
 obtain rfl : g = fn := Option.some.inj (hg.symm.trans hfn)
 have h := walk (w.forCall tape i) w.heap.size i.args ds gs bf hval (DataW.Whole.of_heap (by rfl) hw) (hX _ _ (by rfl) hx) hshape
 refine h.mono ?_
 rintro e W' ⟨v, rfl, hp⟩
 exact ChangeSpec.post_blind hp
end
section
open Go.RowKit
set_option maxRecDepth 20000
set_option maxHeartbeats 1600000 in
theorem DrawPlaces_any (A : Option Addr) (c : Nat) (l : List Int) (w : World) (h : RdY w w.heap.size A c l) (hs : l.length ≤ 1048576) :
  Calls Tryz.prog 19 #[.slice A l.length c] w fun e w' => ∃ (A' : Option Addr) (c' : Nat) (y : List Int), e = .returned (.slice A' y.length c') ∧ RdI w' w'.heap.size A' c' y ∧ (y.length = 12 ∧ ∀ x ∈ y, 0 ≤ x ∧ x ≤ 9999) ∧ Below w.heap.size w w' := by
 go_enter Tryz.func19, Tryz.ntmps19
 go_wp2_with fail
 refine (l01New_any A c l w h hs).mono ?_
 rintro e w1 ⟨p, rfl, hp, hc, hb⟩
 have hpl := hc.lt
 have hz1 := hb.size
 have H0 : Hid (Cur (w1.alloc (.cells #[] 3)) p ∧ OwnI (w1.alloc (.cells #[] 3)) w1.heap.size (some ⟨w1.heap.size, 0, none⟩) 0 [] ∧ w1.grownBy (w1.alloc (.cells #[] 3)) (some p)) := ⟨hc.below (Below.alloc (Below.refl w1.heap.size w1) (Nat.le_refl _) _) hpl, ownEmpty w1 w1.heap.size _ _ (Nat.le_refl _), ⟨rfl, rfl, rfl, by simp, fun k hk _ => Below.heap_alloc w1 _ k hk⟩⟩
 have HB := Lib.hid hb
 clear hc hb
 go_wp2_with fail
 go_loopw [4, 5] (fun v i wr => ∃ (k : Nat) (A : Option Addr) (c : Nat) (l : List Int), k ≤ 12 ∧ i = .int .i64 k ∧ v = .slice A l.length c ∧ Hid (Cur wr p ∧ OwnI wr w1.heap.size A c l ∧ w1.grownBy wr (some p)) ∧ Hid (l.length = k ∧ ∀ x ∈ l, 0 ≤ x ∧ x ≤ 9999)) (fun _ i _ => 12 - (intOf i).toNat)
 case atStart => exact ⟨0, _, 0, [], Nat.zero_le _, rfl, rfl, H0.out, ⟨rfl, by simp⟩⟩
 case round =>
  clear H0
  obtain ⟨k, A, c, l, hk, rfl, rfl, HO, HL⟩ := hrel
  have hlk := HL.out.1
  have hal := Lib.hid HL.out.2
  clear HL
  subst hlk
  have hsz := HO.out.2.2.size
  by_cases hlt : l.length < 12
  ·have hki : (l.length : Int) < 12 := by omega
   go_wp2_with fail
   refine (l01Below_any p 10000 wr HO.out.1 (by omega)).mono ?_
   rintro e w2 ⟨x, rfl, x0, x1, _, hd⟩
   replace x1 := x1 (by omega)
   have D2 := Lib.hid hd
   clear hd
   have ho1 : OwnI (w2.alloc (.cells #[.int .i64 x] 3)) w1.heap.size A c l := (show OwnI w2 w1.heap.size A c l from Drew.rd D2.out HO.out.2.1 hpl).alloc _
   have hg1 := grownBy_trans HO.out.2.2 D2.out.2
   have hc1 := D2.out.1
   go_wp2_with (at_builtin; refine wpList_app1 rfl _ _ rfl w1.heap.size A c l rfl ho1 w2.heap.size _ rfl (cell_new1 _ _ _) (by omega) (by have := D2.out.size; first | omega | (simp; omega)) ?_)
   intro A2 c2 w4 ho2 hg2
   have hC4 : Cur w4 p := (hc1.below (Below.alloc (Below.refl w2.heap.size w2) (Nat.le_refl _) (.cells #[.int .i64 x] 3)) hc1.lt).other hg2 (fun k hk => by have := (own_block_ge ho1 hk).1; omega)
   have hg4 : w1.grownBy w4 (some p) := ⟨hg2.os.trans hg1.os, hg2.tape.trans hg1.tape, hg2.output.trans hg1.output, Nat.le_trans hg1.size (Nat.le_trans (by simp) hg2.size), fun k hk hn => (hg2.block k (by have := hg1.size; simp; omega) (fun e => by have := (own_block_ge ho1 e.symm).1; omega)).trans ((Below.heap_alloc w2 _ k (by have := hg1.size; omega)).trans (hg1.block k hk hn))⟩
   have H4 := Lib.hid (And.intro hC4 (And.intro ho2 hg4))
   have HL4 : Hid ((l ++ [x]).length = l.length + 1 ∧ ∀ y ∈ l ++ [x], 0 ≤ y ∧ y ≤ 9999) := ⟨by simp, fun y hy => by
    rcases List.mem_append.1 hy with hy | hy
    ·exact hal.out y hy
    ·simp only [List.mem_cons, List.not_mem_nil, or_false] at hy
     rw [hy]; omega⟩
   clear hC4 ho2 hg4 hg2 ho1 hg1 hc1
   go_wp2_with fail
   go_roundw
   case rel => exact ⟨l.length + 1, A2, c2, _, by omega, by go_num, by rw [List.length_append]; rfl, H4.out, HL4.out⟩
   case measure => simp [intOf]; omega
  ·have hki : ¬ (l.length : Int) < 12 := by omega
   go_wp2_with fail
   go_ret
   exact ⟨A, c, l, rfl, HO.out.2.1.rd, ⟨by omega, hal.out⟩, HB.out.grown HO.out.2.2 HB.out.size (fun k hk => by have := Option.some.inj hk; omega)⟩
end
section
open Go.RowKit
set_option maxRecDepth 20000
theorem step_appGE {P : Program} {w : World} {ops : Array Oper} {o : Oper} {a : Act} {K : Act → World → Prop} {Q : Exit → Act → World → Prop} {E : Prop} (hw : Region.wanted o (yielded ops a.tmps) = true) (s x : Operand) (t : TypeId)
  (ho : o.op = .call { callee := .builtin .append, args := #[s, x], argTypes := #[t, t] })
  (base : Nat) (e : TypeId) (z : Value) (size bytes : Nat) (ht : P.underlying t = some (.slice e)) (hinfo : (P.info? e).map (fun i => (i.zero, i.size, i.bytes)) = some (some z, size, bytes))
  (hzs : z.cells.size = size) (hsz : 0 < size)
  (v : Value) (hs : a.eval s = v) (hown : w.ownsRow base e size v 0 [])
  (B : Nat) (A : Option Addr) (m c : Nat) (news : List Value) (hx : a.eval x = .slice A m c) (hr : Rd w B size A m c news) (h1 : ∀ u ∈ news, u.oneCell' = true)
  (h63 : m ≤ 9223372036854775807) (hbytes : m * bytes ≤ 140737488355328) (hbase : base ≤ w.heap.size)
  (h : ∀ A' c' w', w'.ownsRow base e size (.slice A' m c') m news → w.grownBy w' v.ownBlock → K (a.put o.dst (.slice A' m c')) w') : if Region.wanted o (yielded ops a.tmps) = true then Oper.wp P o a w K Q else E := by
 rw [if_pos hw]
 refine wp_appAll s x t ho base e z size bytes ht hinfo hzs hsz v 0 [] hs hown B A m c news hx hr h1 (by omega) (by rw [Nat.zero_add]; exact hbytes) hbase fun A' c' w' h2 h3 => ?_
 rw [Nat.zero_add] at h2 ⊢
 rw [List.nil_append] at h2
 exact h A' c' w' h2 h3
theorem step_appGA {P : Program} {w : World} {ops : Array Oper} {o : Oper} {a : Act} {K : Act → World → Prop} {Q : Exit → Act → World → Prop} {E : Prop} (hw : Region.wanted o (yielded ops a.tmps) = true) (s x : Operand) (t : TypeId)
  (ho : o.op = .call { callee := .builtin .append, args := #[s, x], argTypes := #[t, t] })
  (base : Nat) (e : TypeId) (z : Value) (size bytes : Nat) (ht : P.underlying t = some (.slice e)) (hinfo : (P.info? e).map (fun i => (i.zero, i.size, i.bytes)) = some (some z, size, bytes))
  (hzs : z.cells.size = size) (hsz : 0 < size)
  (v : Value) (n : Nat) (xs : List Value) (hs : a.eval s = v) (hown : w.ownsRow base e size v n xs)
  (B : Nat) (A : Option Addr) (m c : Nat) (news : List Value) (hx : a.eval x = .slice A m c) (hr : Rd w B size A m c news) (h1 : ∀ u ∈ news, u.oneCell' = true)
  (h63 : n + m ≤ 9223372036854775807) (hbytes : (n + m) * bytes ≤ 140737488355328) (hbase : base ≤ w.heap.size)
  (h : ∀ A' c' w', w'.ownsRow base e size (.slice A' (n + m) c') (n + m) (xs ++ news) → w.grownBy w' v.ownBlock → K (a.put o.dst (.slice A' (n + m) c')) w') : if Region.wanted o (yielded ops a.tmps) = true then Oper.wp P o a w K Q else E := by
 rw [if_pos hw]
 exact wp_appAll s x t ho base e z size bytes ht hinfo hzs hsz v n xs hs hown B A m c news hx hr h1 h63 hbytes hbase h
/-- A part of a row of three-cell structs. -/
theorem rdT_take {w : World} {H n k : Nat} {B : Option Addr} {l : List T3} (h : RdT w H B n l) (hk : k ≤ l.length) : RdT w H B n (l.take k) := by
 have h9 : (l.take k).length = k := by rw [List.length_take]; omega
 unfold RdT at h ⊢
 rw [h9]
 refine ⟨by rw [t3s_len, h9], Nat.le_trans hk h.2.1, h.2.2.1, fun h0 => ?_⟩
 obtain ⟨b, o, e, hb, hc⟩ := h.2.2.2 (by omega)
 refine ⟨b, o, e, hb, fun j u hj => hc j u ?_⟩
 have e9 : t3s l = t3s (l.take k) ++ t3s (l.drop k) := by rw [← t3s_append, List.take_append_drop]
 rw [e9, List.getElem?_append_left (List.getElem?_eq_some_iff.1 hj).1]
 exact hj
theorem rdT_drop {w : World} {H n k b o : Nat} {l : List T3} (h : RdT w H (some ⟨b, o, none⟩) n l) (hk : k < l.length) : RdT w H (some ⟨b, o + k * 3, none⟩) (n - k) (l.drop k) := by
 have h9 : (l.drop k).length = l.length - k := List.length_drop
 have h2 := h.2.1
 have h3 := h.2.2.1
 unfold RdT at h ⊢
 rw [h9]
 refine ⟨by rw [t3s_len, h9], by omega, by omega, fun h0 => ?_⟩
 obtain ⟨b', o', e, hb, hc⟩ := h.2.2.2 (by omega)
 simp only [Option.some.injEq, Addr.mk.injEq, and_true] at e
 obtain ⟨rfl, rfl⟩ := e
 refine ⟨b, o + k * 3, rfl, hb, fun j u hj => ?_⟩
 have e9 : t3s l = t3s (l.take k) ++ t3s (l.drop k) := by rw [← t3s_append, List.take_append_drop]
 have h8 : (t3s (l.take k)).length = k * 3 := by rw [t3s_len, List.length_take, Nat.min_eq_left (by omega)]
 have := hc (k * 3 + j) u (by rw [e9, List.getElem?_append_right (by omega), h8, Nat.add_sub_cancel_left]; exact hj)
 rw [← Nat.add_assoc] at this
 exact this
theorem rdT_none {w : World} {H n : Nat} {B : Option Addr} {l : List T3} (hl : l.length = 0) (hn : n ≤ 9223372036854775807) : RdT w H B n l := by
 obtain rfl := List.eq_nil_of_length_eq_zero hl
 exact ⟨rfl, Nat.zero_le _, hn, fun h => by simp at h⟩
end
section
open Go.RowKit
/-- d with operation k done. -/
def upd (d : Nat → Bool) (k : Nat) : Nat → Bool := fun i => if i = k then true else d i
/-- What each operation owes: from a state of the invariant to the next one. -/
def StepAt (P : Program) (ops : Array Oper) (Q : Exit → Act → World → Prop) (I : (Nat → Bool) → Act → World → Prop) (k : Nat) (o : Oper) : Prop :=
 ∀ d a w, I d a w → (∀ j p, ops[j]? = some p → d j = true → ∀ e ∈ p.after, Region.binds .any e = true → d e.on = true) → d k = false → (∀ e ∈ o.after, Region.binds .any e = true → d e.on = true) → ∀ K : Act → World → Prop, (∀ a' w', I (upd d k) a' w' → K a' w') →
  if Region.wanted o (yielded ops a.tmps) = true then o.wp P a w K Q else K (a.put o.dst undef) w
def StepsFrom (P : Program) (ops : Array Oper) (Q : Exit → Act → World → Prop) (I : (Nat → Bool) → Act → World → Prop) : Nat → List Oper → Prop
 |_, [] => True
 |k, o :: l => StepAt P ops Q I k o ∧ StepsFrom P ops Q I (k + 1) l
theorem StepsFrom.at_ {P : Program} {ops : Array Oper} {Q : Exit → Act → World → Prop} {I : (Nat → Bool) → Act → World → Prop} : ∀ {l : List Oper} {k : Nat}, StepsFrom P ops Q I k l → ∀ {j : Nat} {o : Oper}, l[j]? = some o → StepAt P ops Q I (k + j) o
 | [], _, _, _, _, h => by simp at h
 |x :: l, k, h, 0, o, ho => by
  simp at ho; subst ho
  exact h.1
 |x :: l, k, h, j + 1, o, ho => by
  have := StepsFrom.at_ h.2 (j := j) (o := o) (by simpa using ho)
  have e : k + 1 + j = k + (j + 1) := by omega
  rwa [e] at this
/-- Each operation waits for earlier ones alone. -/
def lexOk (l : List Oper) : Bool := (List.range l.length).all fun j => match l[j]? with | some o => o.after.all (fun e => !Region.binds .any e || decide (e.on < j)) | none => true
theorem wpAny_inv {P : Program} {ops : Array Oper} {Q : Exit → Act → World → Prop} (I : (Nat → Bool) → Act → World → Prop)
  (hs : ∀ j o, ops[j]? = some o → StepAt P ops Q I j o)
  (hl : ∀ j o, ops[j]? = some o → ∀ e ∈ o.after, Region.binds .any e = true → e.on < j)
  (hd : ∀ d a w, I d a w → (∀ j, j < ops.size → d j = true) → Q .normal a w) :
  ∀ (fuel : Nat) (listed : Array Bool) (a : Act) (w : World), listed.size = ops.size → I (fun i => listed.getD i false) a w → (∀ j p, ops[j]? = some p → listed.getD j false = true → ∀ e ∈ p.after, Region.binds .any e = true → listed.getD e.on false = true) → (∀ j, j < ops.size → listed.getD j false = true ∨ 0 < fuel) → ((listed.toList.filter (fun b => !b)).length ≤ fuel) → wpAny P .any ops Q fuel listed a w := by
 have all_of : ∀ (listed : Array Bool), listed.size = ops.size → Region.ready .any ops listed = [] → ∀ j, j < ops.size → listed.getD j false = true := by
  intro listed hsz hr j
  induction j using Nat.strongRecOn with
  |_ j ih =>
   intro hj
   rcases hb : listed.getD j false with _ | _
   ·exfalso
    have ho : ops[j]? = some ops[j] := Array.getElem?_eq_getElem hj
    have : j ∈ Region.ready .any ops listed := mem_ready.2 ⟨by
     have h1 : j < listed.size := by omega
     simpa [Array.getD, h1] using hb, ops[j], ho, fun e he hbd => ih e.on (hl j _ ho e he hbd) (by have := hl j _ ho e he hbd; omega)⟩
    rw [hr] at this
    cases this
   ·rfl
 intro fuel
 induction fuel with
 |zero =>
  intro listed a w hsz hI _ hf _
  have hall : ∀ j, j < ops.size → listed.getD j false = true := fun j hj => by
   rcases hf j hj with h | h
   ·exact h
   ·omega
  refine ⟨?_, hd _ a w hI hall⟩
  apply List.eq_nil_iff_forall_not_mem.2
  intro j hj
  obtain ⟨h1, o, ho, _⟩ := mem_ready.1 hj
  have hjl : j < ops.size := (Array.getElem?_eq_some_iff.1 ho).1
  have h2 := hall j hjl
  have h3 : j < listed.size := by omega
  simp [Array.getD, h3] at h1 h2
  rw [h1] at h2; cases h2
 |succ fuel ih =>
  intro listed a w hsz hI hcl _ hcnt
  refine ⟨fun hr => hd _ a w hI (all_of listed hsz hr), fun j hj => ?_⟩
  obtain ⟨h1, o, ho, hdeps⟩ := mem_ready.1 hj
  have hjl : j < ops.size := (Array.getElem?_eq_some_iff.1 ho).1
  have h3 : j < listed.size := by omega
  have h4 : listed.getD j false = false := by simp [Array.getD, h3] at h1 ⊢; exact h1
  have h5 : (listed.setIfInBounds j true).size = ops.size := by simpa using hsz
  have h6 : ((listed.setIfInBounds j true).toList.filter (fun b => !b)).length ≤ fuel := by
   have h7 : listed[j] = false := by simpa [Array.getD, h3] using h4
   have h8 : ((listed.setIfInBounds j true).toList.filter (fun b => !b)).length + 1 = (listed.toList.filter (fun b => !b)).length := by
    rw [Array.toList_setIfInBounds]
    have e1 : listed.toList = listed.toList.take j ++ false :: listed.toList.drop (j + 1) := by
     conv => lhs; rw [← List.take_append_drop j listed.toList]
     rw [List.drop_eq_getElem_cons (by simpa using h3)]
     simp [h7]
    have e2 : listed.toList.set j true = listed.toList.take j ++ true :: listed.toList.drop (j + 1) := by
     rw [List.set_eq_take_append_cons_drop, if_pos (by simpa using h3)]
    rw [e2]
    conv => rhs; rw [e1]
    simp only [List.filter_append, List.length_append, List.filter_cons, Bool.not_true, Bool.not_false, if_true, List.length_cons]
    simp; omega
   omega
  have hfin : ∀ i, i < ops.size → (listed.setIfInBounds j true).getD i false = true ∨ 0 < fuel := by
   intro i hi
   rcases Nat.eq_zero_or_pos fuel with h7 | h7
   ·left
    rw [h7] at h6
    have h8 : (listed.setIfInBounds j true).toList.filter (fun b => !b) = [] := List.eq_nil_of_length_eq_zero (by omega)
    rw [List.filter_eq_nil_iff] at h8
    have h9 : i < (listed.setIfInBounds j true).size := by omega
    have := h8 (listed.setIfInBounds j true)[i] (by rw [Array.mem_toList_iff]; exact Array.getElem_mem h9)
    simp only [Array.getD, h9, dif_pos]
    simpa using this
   ·exact .inr h7
  have step := hs j o ho (fun i => listed.getD i false) a w hI hcl h4 (fun e he hb => hdeps e he hb) (wpAny P .any ops Q fuel (listed.setIfInBounds j true)) (fun a' w' hI' => ih _ a' w' h5 (by
   have e : (fun i => (listed.setIfInBounds j true).getD i false) = upd (fun i => listed.getD i false) j := by
    funext i
    unfold upd
    by_cases hij : i = j
    ·subst hij; simp [Array.getD, h3]
    ·rw [if_neg hij]
     exact getD_set_ne false (fun e => hij e.symm)
   rw [e]; exact hI') (fun i p hp hi e he hbd => by
    by_cases hee : e.on = j
    ·rw [hee]; simp [Array.getD, h3]
    ·rw [getD_set_ne false (fun x => hee x.symm)]
     by_cases hij : i = j
     ·subst hij
      rw [ho] at hp
      obtain rfl := Option.some.inj hp
      exact hdeps e he hbd
     ·rw [getD_set_ne false (fun x => hij x.symm)] at hi
      exact hcl i p hp hi e he hbd) hfin h6)
  unfold wpOp
  simp only [ho]
  split
  case isTrue hw => rw [if_pos hw] at step; exact .inl step
  case isFalse hw => rw [if_neg hw] at step; exact step
theorem lexOk_spec {l : List Oper} (h : lexOk l = true) (j : Nat) (o : Oper) (ho : l[j]? = some o) : ∀ e ∈ o.after, Region.binds .any e = true → e.on < j := by
 unfold lexOk at h
 rw [List.all_eq_true] at h
 have := h j (List.mem_range.2 (List.getElem?_eq_some_iff.1 ho).1)
 rw [ho] at this
 simp only [Array.all_eq_true_iff_forall_mem, Bool.or_eq_true, Bool.not_eq_true', decide_eq_true_eq] at this
 intro e he hb
 rcases this e he with h1 | h1
 ·rw [hb] at h1; cases h1
 ·exact h1
/-- ONE PROOF FOR EVERY ORDER: an invariant that says of each operation what it leaves once it is done. -/
theorem wp_region_inv {P : Program} {id : Nat} {Q : Exit → Act → World → Prop} {a : Act} {w : World} {l : List Oper} (hm : P.follows .mixedOrders = true) (hlex : lexOk l = true)
  (I : (Nat → Bool) → Act → World → Prop) (h0 : I (fun _ => false) a w.drew) (hs : StepsFrom P l.toArray Q I 0 l)
  (hd : ∀ d a w, I d a w → (∀ j, j < l.length → d j = true) → Q .normal a w) : (Code.region id l.toArray true).wp P Q a w := by
 refine wp_region_any hm (wpAny_inv I (fun j o ho => ?_) (fun j o ho => lexOk_spec hlex j o (by simpa using ho)) (fun d a w hI hj => hd d a w hI (by simpa using hj)) _ _ _ _ (by simp) ?_ (fun j p _ hj => by exfalso; simp only [Array.getD] at hj; split at hj <;> simp at hj) (fun j hj => .inr (by simp at hj ⊢; omega)) ?_)
 ·have := hs.at_ (j := j) (o := o) (by simpa using ho)
  simpa using this
 ·have e : (fun i => (Array.replicate l.toArray.size false).getD i false) = fun _ => false := by
   funext i
   simp only [Array.getD]
   split <;> simp
  rw [e]
  exact h0
 ·refine Nat.le_trans (List.length_filter_le _ _) (by simp)
theorem name_act {P : Program} {c : Code} {Q : Exit → Act → World → Prop} {a : Act} {w : World} (h : ∀ b, b = a → c.wp P Q b w) : c.wp P Q a w := h a rfl
theorem Chg.set {lo hi : Nat} {w w' : World} (h : Chg lo hi w w') {p : Addr} (h1 : lo ≤ p.block) (h2 : p.block < hi) (v : Value) : Chg lo hi w (w'.setCell p v) :=
 h.trans ⟨rfl, rfl, rfl, by simp, fun k _ hn => Below.heap_setCell w' p v k (by omega)⟩
theorem dep_of {o : Oper} {d : Nat → Bool} (h : ∀ e ∈ o.after, Region.binds .any e = true → d e.on = true) (k : Nat) (hk : o.after.any (fun e => e.on == k && Region.binds .any e) = true) : d k = true := by
 rw [Array.any_eq_true] at hk
 obtain ⟨i, hi, hk⟩ := hk
 simp only [Bool.and_eq_true, beq_iff_eq] at hk
 have := h o.after[i] (Array.getElem_mem hi) hk.2
 rwa [hk.1] at this
end
end Go.Proofs.YtpmmjhpmheooeaaGreatDoor
