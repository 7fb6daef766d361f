/- Texts of the proof, joined: IsReplay, ReplayPure, InfoA, To, Open, Wrap. -/
import Derived.Test.YtpmmjhpmheooeaaGreatDoorP31
import Derived.Test.YtpmmjhpmheooeaaGreatDoorP33
import Derived.Test.YtpmmjhpmheooeaaGreatDoorP29
import Derived.Test.YtpmmjhpmheooeaaGreatDoorP6
import Derived.Test.YtpmmjhpmheooeaaGreatDoorProg
import Derived.Test.YtpmmjhpmheooeaaGreatDoorP0
import Derived.Test.YtpmmjhpmheooeaaGreatDoorRows
import Derived.ProofKit
import Derived.OpenShut
import Derived.ShutString
import Derived.ChangeOld
import Derived.HandedShaped
import Derived.Handed
import Derived.Shelf.Vars
namespace Go.Proofs.YtpmmjhpmheooeaaGreatDoor
set_option linter.unusedSimpArgs false
set_option linter.unusedVariables false
section
theorem may_le {v : Vg} (hv : villageOk v = true) (o : Int) : 0 ≤ mayDrink v o ∧ mayDrink v o ≤ 100000000000 := by
 cases ho : hasO v.rights o
 ·rw [may_not hv ho]; omega
 obtain ⟨hb, hr⟩ := vg_ok hv
 obtain ⟨y, z, hy, hz, hf, o1, o2, hm⟩ := may_have hr ho
 have hmv := hm v.book hb
 rw [show (⟨v.book, v.rights⟩ : Vg) = v from rfl] at hmv
 have hq := fracOk_iff hf
 have hd := dby_bd o v.book.evs (book_liters hb)
 rw [hmv]
 have hp : partOf y z (min 1000000 (v.book.start + v.book.rained)) ≤ 100000000000 := by
  unfold partOf
  split
  ·rename_i h9
   simp only [Bool.and_eq_true] at h9
   have h8 := inB_iff.1 h9.2
   obtain ⟨a, ha⟩ : ∃ a, a = min 1000000 (v.book.start + v.book.rained) := ⟨_, rfl⟩
   rw [← ha] at h8 ⊢
   have h7 : a * y ≤ 1000000 * 10000 := Int.mul_le_mul h8.2 hq.2.1 hy (by omega)
   have h6 : 0 ≤ a * y := Int.mul_nonneg h8.1 hy
   have h5 := Int.ediv_le_self z h6
   omega
  ·omega
 omega
theorem num_bd {v : Vg} (hv : villageOk v = true) (x y z : Int) : -1 ≤ (doAct v x y z).2 ∧ (doAct v x y z).2 ≤ 100000000000 := by
 have hb : ∀ r : Vg × Bool, -1 ≤ (bi r).2 ∧ (bi r).2 ≤ 100000000000 := fun r => by
  unfold bi; simp only; split <;> omega
 have hm := may_le hv y
 unfold doAct
 by_cases h0 : villageOk v = true ∧ actOk x y z = true
 ·rw [if_pos h0]
  by_cases h1 : x = 1
  ·rw [if_pos h1]; exact hb _
  rw [if_neg h1]
  by_cases h2 : x = 2
  ·rw [if_pos h2]; exact hb _
  rw [if_neg h2]
  by_cases h3 : x = 3
  ·rw [if_pos h3]; exact hb _
  rw [if_neg h3]
  by_cases h4 : x = 4
  ·rw [if_pos h4]; exact hb _
  rw [if_neg h4]
  by_cases h5 : x = 5
  ·rw [if_pos h5]; exact hb _
  rw [if_neg h5]
  exact ⟨by show -1 ≤ mayDrink v y; omega, hm.2⟩
 ·rw [if_neg h0]
  exact ⟨by show (-1 : Int) ≤ -1; omega, by show (-1 : Int) ≤ _; omega⟩
theorem nums_bd {v : Vg} (hv : villageOk v = true) (l : List T3) : ∀ k, k ≤ l.length → ∀ n ∈ (runL v (l.take k)).2, -1 ≤ n ∧ n ≤ 100000000000
 |0, _, n, hn => by simp [runL_nil] at hn
 |k + 1, hk, n, hn => by
  have ha : l[k]? = some l[k] := List.getElem?_eq_getElem (by omega)
  rw [take_snocT ha, runL_snoc] at hn
  simp only at hn
  rcases List.mem_append.1 hn with hn | hn
  ·exact nums_bd hv l k (by omega) n hn
  ·simp only [List.mem_cons, List.not_mem_nil, or_false] at hn
   rw [hn]
   exact num_bd (runL_keeps hv l k (by omega)) _ _ _
theorem run_nums {v : Vg} (hv : villageOk v = true) {l : List T3} (hl : l.length ≤ 40) : ∀ n ∈ (runActs v l).2, -1 ≤ n ∧ n ≤ 100000000000 := by
 unfold runActs
 rw [if_pos ⟨hv, hl⟩]
 have h1 := nums_bd hv l l.length (Nat.le_refl _)
 rwa [List.take_length] at h1
end
section
theorem infoAct9 : (Tryz.prog.info? 50).map (fun i => (i.zero, i.size, i.bytes)) = some (some (.agg #[.int .i64 0, .int .i64 0, .int .i64 0]), 3, 24) := by kernel_rfl
end
section
open Go.RowKit
def marks (k n : Nat) : List Int := (List.range' k n).map Int.ofNat
def mk (l : List Int) (k i : Nat) : List Int := marks k i ++ l.drop i
end
section
open Go.ChangeShapes Go.WideShapes Go.ChangeAt Go.RowKit
open Go.ChangeMaps (open_string shut_string)
set_option maxRecDepth 20000
theorem own_knob : ownKnob Tryz.prog.godebug = none := by kernel_rfl
theorem laid_out : laidOutB Tryz.prog = true := by kernel_rfl
section
variable {H : Type} {enc : TypeId × Value → H} {W : World} {base : Nat} {spare : Nat → Bool} {held : Bool} {r : Reach}
/-- The fields of a struct, each read off its own cells. -/
theorem fields {t : TypeId} {fs : Array Field} {fuel : Nat} {cs : List Value} {x : DataW H × List MemPlace} (ht : Tryz.prog.underlying t = some (.struct fs)) (h : DataW.trod enc Tryz.prog W 0 (fun _ => true) true fuel t cs = some x) :
  cs.length = Tryz.prog.cellsOf t ∧ ∃ n, ∀ (i : Nat) (f : Field), fs[i]? = some f → ∃ y, DataW.trod enc Tryz.prog W 0 (fun _ => true) true n f.type ((cs.drop f.offset).take (Tryz.prog.cellsOf f.type)) = some y := by
 obtain ⟨xs, n, _, _, hl, hlen, hf⟩ := DataW.trod_struct ht h
 refine ⟨hl, n, fun i f hi => ?_⟩
 have hil : i < fs.size := (Array.getElem?_eq_some_iff.1 hi).1
 exact ⟨xs[i]'(by omega), by rw [hf i f hi]; exact List.getElem?_eq_getElem (by omega)⟩
end
end
section
open Go
variable {H : Type} {enc : TypeId × Value → H}
/-- An extra condition on the world and the world's shape, both at once. -/
theorem wrap_shaped {a : Assume} {C : Checked} {os : Os} {f : FuncId} {fn : Func} {s : ChangeSpec} {conds : List PathCond} {apart fresh handsOn again : Bool} {X : World → Prop}
  (hX : ∀ w w' : World, w.heap = w'.heap → X w → X w')
  (own : ownKnob C.prog.godebug = none) (started : os.Started) (noInit : C.prog.inits.idxOf? f = none) (hfn : C.prog.funcs[f]? = some fn)
  (wit : ∃ (w : World) (tape : Tape) (i : Input), w.os = os ∧ (w.forCall tape i).Shaped C.prog ∧ i.vars = [] ∧ Input.okWide C.prog (w.forCall tape i) .any w.heap.size f i ∧
   ((s.pre enc C.prog fn conds apart (w.forCall tape i).memory i.args ∧ X (w.forCall tape i).memory) ∧ sizedMet enc C.prog fn (OpenSpec.ofChange s) apart (w.forCall tape i).memory i.args) ∧ a.holds C.prog (lone (Frame.enter C.prog f i.args .normal) [] (w.forCall tape i)))
  (walk : ∀ (W : World) (base : Nat) (args : Array Value) (ds gs : List (DataW H)) (before : List MemPlace),
   (∀ (j : Nat) t v, fn.params[j]? = some t → args[j]? = some v → Value.okWide C.prog W .any base t v) →
   DataW.Whole enc C.prog fn.params.toList s.vars apart W args.toList ds gs before → X W → W.ShapedOpen C.prog →
   Calls C.prog f args W fun e W' => ∃ v, e = .returned v ∧ s.post enc C.prog fn apart fresh handsOn again W args v W') :
  ReturnsInHanded a C os f .any (fun w args => (s.pre enc C.prog fn conds apart w args ∧ X w) ∧ sizedMet enc C.prog fn (OpenSpec.ofChange s) apart w args) (s.post enc C.prog fn apart fresh handsOn again) := by
 apply returnsInHanded_of_calls own started noInit wit
 rintro w tape i - hshape - ⟨_, _, _, g, hg, _, _, _, _, hval⟩ ⟨⟨⟨ds, gs, bf, hw, _⟩, hx⟩, _⟩ -
 obtain rfl : g = fn := Option.some.inj (hg.symm.trans hfn)
 have h := walk (w.forCall tape i) w.heap.size i.args ds gs bf hval (DataW.Whole.of_heap (by rfl) hw) (hX _ _ (by rfl) hx) hshape
 refine h.mono ?_
 rintro e W' ⟨v, rfl, hp⟩
 exact ChangeSpec.post_blind hp
end
end Go.Proofs.YtpmmjhpmheooeaaGreatDoor
