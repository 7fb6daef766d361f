/- A drawn region by an invariant: what holds of the operations that are done. -/
import Derived.Test.YtljidaniidfdoaaMem
import Derived.Orders
namespace Go.Proofs.Ytljidaniidfdoaa
open Go.RowKit
/-- d with operation k done. -/
def upd (d : Nat → Bool) (k : Nat) : Nat → Bool := fun i => if i = k then true else d i
theorem upd_same (d : Nat → Bool) (k : Nat) : upd d k k = true := by simp [upd]
theorem upd_ne (d : Nat → Bool) {k i : Nat} (h : i ≠ k) : upd d k i = d i := by simp [upd, h]
/-- What each operation owes: from a state of the invariant to the next one. -/
def StepAt (P : Program) (ops : Array Oper) (Q : Exit → Act → World → Prop) (I : (Nat → Bool) → Act → World → Prop) (k : Nat) (o : Oper) : Prop :=
  ∀ d a w, I d a w → (∀ j p, ops[j]? = some p → d j = true → ∀ e ∈ p.after, Region.binds .any e = true → d e.on = true) → d k = false → (∀ e ∈ o.after, Region.binds .any e = true → d e.on = true) → ∀ K : Act → World → Prop, (∀ a' w', I (upd d k) a' w' → K a' w') →
    if Region.wanted o (yielded ops a.tmps) = true then o.wp P a w K Q else K (a.put o.dst undef) w
def StepsFrom (P : Program) (ops : Array Oper) (Q : Exit → Act → World → Prop) (I : (Nat → Bool) → Act → World → Prop) : Nat → List Oper → Prop
  | _, [] => True
  | k, o :: l => StepAt P ops Q I k o ∧ StepsFrom P ops Q I (k + 1) l
theorem StepsFrom.at_ {P : Program} {ops : Array Oper} {Q : Exit → Act → World → Prop} {I : (Nat → Bool) → Act → World → Prop} : ∀ {l : List Oper} {k : Nat}, StepsFrom P ops Q I k l → ∀ {j : Nat} {o : Oper}, l[j]? = some o → StepAt P ops Q I (k + j) o
  | [], _, _, _, _, h => by simp at h
  | x :: l, k, h, 0, o, ho => by
    simp at ho; subst ho
    exact h.1
  | x :: l, k, h, j + 1, o, ho => by
    have := StepsFrom.at_ h.2 (j := j) (o := o) (by simpa using ho)
    have e : k + 1 + j = k + (j + 1) := by omega
    rwa [e] at this
/-- Each operation waits for earlier ones alone. -/
def lexOk (l : List Oper) : Bool := (List.range l.length).all fun j => match l[j]? with | some o => o.after.all (fun e => !Region.binds .any e || decide (e.on < j)) | none => true
theorem wpAny_inv {P : Program} {ops : Array Oper} {Q : Exit → Act → World → Prop} (I : (Nat → Bool) → Act → World → Prop)
    (hs : ∀ j o, ops[j]? = some o → StepAt P ops Q I j o)
    (hl : ∀ j o, ops[j]? = some o → ∀ e ∈ o.after, Region.binds .any e = true → e.on < j)
    (hd : ∀ d a w, I d a w → (∀ j, j < ops.size → d j = true) → Q .normal a w) :
    ∀ (fuel : Nat) (listed : Array Bool) (a : Act) (w : World), listed.size = ops.size → I (fun i => listed.getD i false) a w → (∀ j p, ops[j]? = some p → listed.getD j false = true → ∀ e ∈ p.after, Region.binds .any e = true → listed.getD e.on false = true) → (∀ j, j < ops.size → listed.getD j false = true ∨ 0 < fuel) → ((listed.toList.filter (fun b => !b)).length ≤ fuel) → wpAny P .any ops Q fuel listed a w := by
  have all_of : ∀ (listed : Array Bool), listed.size = ops.size → Region.ready .any ops listed = [] → ∀ j, j < ops.size → listed.getD j false = true := by
    intro listed hsz hr j
    induction j using Nat.strongRecOn with
    | _ j ih =>
      intro hj
      rcases hb : listed.getD j false with _ | _
      · exfalso
        have ho : ops[j]? = some ops[j] := Array.getElem?_eq_getElem hj
        have : j ∈ Region.ready .any ops listed := mem_ready.2 ⟨by
          have h1 : j < listed.size := by omega
          simpa [Array.getD, h1] using hb, ops[j], ho, fun e he hbd => ih e.on (hl j _ ho e he hbd) (by have := hl j _ ho e he hbd; omega)⟩
        rw [hr] at this
        cases this
      · rfl
  intro fuel
  induction fuel with
  | zero =>
    intro listed a w hsz hI _ hf _
    have hall : ∀ j, j < ops.size → listed.getD j false = true := fun j hj => by
      rcases hf j hj with h | h
      · exact h
      · omega
    refine ⟨?_, hd _ a w hI hall⟩
    apply List.eq_nil_iff_forall_not_mem.2
    intro j hj
    obtain ⟨h1, o, ho, _⟩ := mem_ready.1 hj
    have hjl : j < ops.size := (Array.getElem?_eq_some_iff.1 ho).1
    have h2 := hall j hjl
    have h3 : j < listed.size := by omega
    simp [Array.getD, h3] at h1 h2
    rw [h1] at h2; cases h2
  | succ fuel ih =>
    intro listed a w hsz hI hcl _ hcnt
    refine ⟨fun hr => hd _ a w hI (all_of listed hsz hr), fun j hj => ?_⟩
    obtain ⟨h1, o, ho, hdeps⟩ := mem_ready.1 hj
    have hjl : j < ops.size := (Array.getElem?_eq_some_iff.1 ho).1
    have h3 : j < listed.size := by omega
    have h4 : listed.getD j false = false := by simp [Array.getD, h3] at h1 ⊢; exact h1
    have h5 : (listed.setIfInBounds j true).size = ops.size := by simpa using hsz
    have h6 : ((listed.setIfInBounds j true).toList.filter (fun b => !b)).length ≤ fuel := by
      have h7 : listed[j] = false := by simpa [Array.getD, h3] using h4
      have h8 : ((listed.setIfInBounds j true).toList.filter (fun b => !b)).length + 1 = (listed.toList.filter (fun b => !b)).length := by
        rw [Array.toList_setIfInBounds]
        have e1 : listed.toList = listed.toList.take j ++ false :: listed.toList.drop (j + 1) := by
          conv => lhs; rw [← List.take_append_drop j listed.toList]
          rw [List.drop_eq_getElem_cons (by simpa using h3)]
          simp [h7]
        have e2 : listed.toList.set j true = listed.toList.take j ++ true :: listed.toList.drop (j + 1) := by
          rw [List.set_eq_take_append_cons_drop, if_pos (by simpa using h3)]
        rw [e2]
        conv => rhs; rw [e1]
        simp only [List.filter_append, List.length_append, List.filter_cons, Bool.not_true, Bool.not_false, if_true, List.length_cons]
        simp; omega
      omega
    have hfin : ∀ i, i < ops.size → (listed.setIfInBounds j true).getD i false = true ∨ 0 < fuel := by
      intro i hi
      rcases Nat.eq_zero_or_pos fuel with h7 | h7
      · left
        rw [h7] at h6
        have h8 : (listed.setIfInBounds j true).toList.filter (fun b => !b) = [] := List.eq_nil_of_length_eq_zero (by omega)
        rw [List.filter_eq_nil_iff] at h8
        have h9 : i < (listed.setIfInBounds j true).size := by omega
        have := h8 (listed.setIfInBounds j true)[i] (by rw [Array.mem_toList_iff]; exact Array.getElem_mem h9)
        simp only [Array.getD, h9, dif_pos]
        simpa using this
      · exact .inr h7
    have step := hs j o ho (fun i => listed.getD i false) a w hI hcl h4 (fun e he hb => hdeps e he hb) (wpAny P .any ops Q fuel (listed.setIfInBounds j true)) (fun a' w' hI' => ih _ a' w' h5 (by
      have e : (fun i => (listed.setIfInBounds j true).getD i false) = upd (fun i => listed.getD i false) j := by
        funext i
        unfold upd
        by_cases hij : i = j
        · subst hij; simp [Array.getD, h3]
        · rw [if_neg hij]
          exact getD_set_ne false (fun e => hij e.symm)
      rw [e]; exact hI') (fun i p hp hi e he hbd => by
        by_cases hee : e.on = j
        · rw [hee]; simp [Array.getD, h3]
        · rw [getD_set_ne false (fun x => hee x.symm)]
          by_cases hij : i = j
          · subst hij
            rw [ho] at hp
            obtain rfl := Option.some.inj hp
            exact hdeps e he hbd
          · rw [getD_set_ne false (fun x => hij x.symm)] at hi
            exact hcl i p hp hi e he hbd) hfin h6)
    unfold wpOp
    simp only [ho]
    split
    case isTrue hw => rw [if_pos hw] at step; exact .inl step
    case isFalse hw => rw [if_neg hw] at step; exact step
theorem lexOk_spec {l : List Oper} (h : lexOk l = true) (j : Nat) (o : Oper) (ho : l[j]? = some o) : ∀ e ∈ o.after, Region.binds .any e = true → e.on < j := by
  unfold lexOk at h
  rw [List.all_eq_true] at h
  have := h j (List.mem_range.2 (List.getElem?_eq_some_iff.1 ho).1)
  rw [ho] at this
  simp only [Array.all_eq_true_iff_forall_mem, Bool.or_eq_true, Bool.not_eq_true', decide_eq_true_eq] at this
  intro e he hb
  rcases this e he with h1 | h1
  · rw [hb] at h1; cases h1
  · exact h1
/-- ONE PROOF FOR EVERY ORDER: an invariant that says of each operation what it leaves once it is done. -/
theorem wp_region_inv {P : Program} {id : Nat} {Q : Exit → Act → World → Prop} {a : Act} {w : World} {l : List Oper} (hm : P.follows .mixedOrders = true) (hlex : lexOk l = true)
    (I : (Nat → Bool) → Act → World → Prop) (h0 : I (fun _ => false) a w.drew) (hs : StepsFrom P l.toArray Q I 0 l)
    (hd : ∀ d a w, I d a w → (∀ j, j < l.length → d j = true) → Q .normal a w) : (Code.region id l.toArray true).wp P Q a w := by
  refine wp_region_any hm (wpAny_inv I (fun j o ho => ?_) (fun j o ho => lexOk_spec hlex j o (by simpa using ho)) (fun d a w hI hj => hd d a w hI (by simpa using hj)) _ _ _ _ (by simp) ?_ (fun j p _ hj => by exfalso; simp only [Array.getD] at hj; split at hj <;> simp at hj) (fun j hj => .inr (by simp at hj ⊢; omega)) ?_)
  · have := hs.at_ (j := j) (o := o) (by simpa using ho)
    simpa using this
  · have e : (fun i => (Array.replicate l.toArray.size false).getD i false) = fun _ => false := by
      funext i
      simp only [Array.getD]
      split <;> simp
    rw [e]
    exact h0
  · refine Nat.le_trans (List.length_filter_le _ _) (by simp)
theorem name_act {P : Program} {c : Code} {Q : Exit → Act → World → Prop} {a : Act} {w : World} (h : ∀ b, b = a → c.wp P Q b w) : c.wp P Q a w := h a rfl
theorem Chg.set {lo hi : Nat} {w w' : World} (h : Chg lo hi w w') {p : Addr} (h1 : lo ≤ p.block) (h2 : p.block < hi) (v : Value) : Chg lo hi w (w'.setCell p v) :=
  h.trans ⟨rfl, rfl, rfl, by simp, fun k _ hn => Below.heap_setCell w' p v k (by omega)⟩
theorem dep_of {o : Oper} {d : Nat → Bool} (h : ∀ e ∈ o.after, Region.binds .any e = true → d e.on = true) (k : Nat) (hk : o.after.any (fun e => e.on == k && Region.binds .any e) = true) : d k = true := by
  rw [Array.any_eq_true] at hk
  obtain ⟨i, hi, hk⟩ := hk
  simp only [Bool.and_eq_true, beq_iff_eq] at hk
  have := h o.after[i] (Array.getElem_mem hi) hk.2
  rwa [hk.1] at this
end Go.Proofs.Ytljidaniidfdoaa
