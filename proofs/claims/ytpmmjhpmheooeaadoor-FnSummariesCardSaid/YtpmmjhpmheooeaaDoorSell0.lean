/- SellShare, the program's side. -/
import Derived.Test.YtpmmjhpmheooeaaDoorAddShare
import Derived.Test.YtpmmjhpmheooeaaDoorFrac2
import Derived.Test.YtpmmjhpmheooeaaDoorVillCopy
namespace Go.Proofs.YtpmmjhpmheooeaaDoor
set_option linter.unusedSimpArgs false
set_option linter.unusedVariables false
open Go.RowKit
set_option maxRecDepth 20000
/-- What a sale or an inheritance leaves: rights of the call's own, and whether it is done. -/
def SellRet (r : List T3 × Bool) (w : World) (e : Ending) (w' : World) : Prop :=
  ∃ A' c', e = .returned (.tuple #[.slice A' r.1.length c', .bool r.2]) ∧ w'.ownsRow w.heap.size 51 3 (.slice A' r.1.length c') r.1.length (t3s r.1) ∧ Below w.heap.size w w'
theorem sellG_iff {l : List T3} {f t a b : Int} : sellG l f t a b = true ↔ rightsOk l = true ∧ hasO l f = true ∧ f ≠ t ∧ inB t 1 999 = true ∧ fracOk a b = true ∧ a ≤ b := by
  unfold sellG
  simp only [Bool.and_eq_true, decide_eq_true_eq, and_assoc]
theorem sellG_no {l : List T3} {f t a b : Int} (h : ¬ (rightsOk l = true ∧ hasO l f = true ∧ f ≠ t ∧ inB t 1 999 = true ∧ fracOk a b = true ∧ a ≤ b)) : sellF l f t a b = (l, false) :=
  sellF_no (Bool.eq_false_iff.2 (fun hg => h (sellG_iff.1 hg)))
theorem Row2.wrote' {w w' : World} {lo hi g sz n c : Nat} {e : TypeId} {xs : List Value} (h : Row2 w lo hi e sz (some ⟨g, 0, none⟩) n c xs) (hg : w.grownBy w' (some g)) : Chg lo hi w w' := h.wrote hg
theorem sellTo_is {l : List T3} {f t a b y z u1 u2 r1 r2 : Int} {mok rok : Bool} (gs : shareOf l f = (y, z)) (hm : mulF y z a b = (u1, u2, mok)) (hr : mulF y z (b - a) b = (r1, r2, rok)) : sellTo l f t a b = if mok && rok then (if u1 = 0 then some (cutS l f r1 r2) else addSh (cutS l f r1 r2) t u1 u2) else none := by
  unfold sellTo
  simp only [gs, hm, hr]
theorem sell_end {l : List T3} {f t a b y z u1 u2 r1 r2 : Int} {r : List T3} {ok : Bool} (hG : sellG l f t a b = true) (gs : shareOf l f = (y, z)) (hm : mulF y z a b = (u1, u2, true)) (hr : mulF y z (b - a) b = (r1, r2, true)) (h : AddIs (cutS l f r1 r2) t u1 u2 r ok) :
    sellF l f t a b = if ok && rightsOk r then (r, true) else (l, false) := by
  have h1 := sellTo_is (t := t) gs hm hr
  cases ok
  · obtain ⟨h2, h3, _⟩ := h.2 rfl
    rw [sellF_none (by rw [h1, if_neg h2, h3]; rfl)]; rfl
  · rcases h.1 rfl with ⟨h2, h3⟩ | ⟨h2, h3⟩
    · rw [sellF_some hG (by rw [h1, if_pos h2]; rfl), h3]; rfl
    · rw [sellF_some hG (by rw [h1, if_neg h2, h3]; rfl)]; rfl
end Go.Proofs.YtpmmjhpmheooeaaDoor
