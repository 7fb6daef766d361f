/- Drawn rights: the plain part. -/
import Derived.Test.YtpmmjhpmheooeaaDoorKd
namespace Go.Proofs.YtpmmjhpmheooeaaDoor
set_option linter.unusedSimpArgs false
set_option linter.unusedVariables false
/-- What drawn rights are. -/
def RtD (l : List T3) : Prop := rightsOk l = true ∧ ∀ e ∈ l, e.x ≤ 12
theorem rt_one {x : Int} (h1 : 1 ≤ x) (h2 : x ≤ 9) : RtD [⟨x, 1, 1⟩] := by
  refine ⟨?_, fun e he => by simp at he; subst he; show x ≤ 12; omega⟩
  have : x = 1 ∨ x = 2 ∨ x = 3 ∨ x = 4 ∨ x = 5 ∨ x = 6 ∨ x = 7 ∨ x = 8 ∨ x = 9 := by omega
  rcases this with rfl | rfl | rfl | rfl | rfl | rfl | rfl | rfl | rfl <;> decide +kernel
theorem cutS_own (P : Int → Prop) : ∀ (l : List T3) (o y z : Int), (∀ e ∈ l, P e.x) → ∀ e ∈ cutS l o y z, P e.x
  | [], _, _, _, _, _, he => by simp [cutS] at he
  | a :: l, o, y, z, h, e, he => by
    rw [cutS_cons] at he
    split at he
    · rename_i hx
      split at he
      · exact h e (by simp [he])
      · rcases List.mem_cons.1 he with rfl | he
        · show P o; rw [← hx]; exact h a (by simp)
        · exact h e (by simp [he])
    · rcases List.mem_cons.1 he with rfl | he
      · exact h e (by simp)
      · exact cutS_own P l o y z (fun e' he' => h e' (by simp [he'])) e he
theorem addSh_own (P : Int → Prop) : ∀ (l : List T3) (o y z : Int) (r : List T3), P o → (∀ e ∈ l, P e.x) → addSh l o y z = some r → ∀ e ∈ r, P e.x
  | [], o, y, z, r, ho, _, h, e, he => by
    rw [addSh_nil] at h
    obtain rfl := Option.some.inj h
    simp at he; subst he; exact ho
  | a :: l, o, y, z, r, ho, hl, h, e, he => by
    rw [addSh_cons] at h
    split at h
    · cases h1 : addSh l o y z with
      | none => rw [h1] at h; cases h
      | some r1 =>
        rw [h1] at h
        obtain rfl := Option.some.inj h
        rcases List.mem_cons.1 he with rfl | he
        · exact hl e (by simp)
        · exact addSh_own P l o y z r1 ho (fun e' he' => hl e' (by simp [he'])) h1 e he
    · split at h
      · split at h
        · obtain rfl := Option.some.inj h
          rcases List.mem_cons.1 he with rfl | he
          · exact ho
          · exact hl e (by simp [he])
        · cases h
      · obtain rfl := Option.some.inj h
        rcases List.mem_cons.1 he with rfl | he
        · exact ho
        · exact hl e he
theorem sell_own (P : Int → Prop) {l : List T3} {f t a b : Int} (ht : P t) (hl : ∀ e ∈ l, P e.x) : ∀ e ∈ (sellF l f t a b).1, P e.x := by
  cases hg : sellG l f t a b
  · rw [sellF_no hg]; exact hl
  cases hs : sellTo l f t a b with
  | none => rw [sellF_none hs]; exact hl
  | some r =>
    rw [sellF_some hg hs]
    split
    · unfold sellTo at hs
      simp only at hs
      split at hs
      · split at hs
        · obtain rfl := Option.some.inj hs
          exact cutS_own P l _ _ _ hl
        · exact addSh_own P _ _ _ _ r ht (cutS_own P l _ _ _ hl) hs
      · cases hs
    · exact hl
theorem sell_rights {l : List T3} {f t a b : Int} (hl : rightsOk l = true) : rightsOk (sellF l f t a b).1 = true := by
  cases hg : sellG l f t a b
  · rw [sellF_no hg]; exact hl
  cases hs : sellTo l f t a b with
  | none => rw [sellF_none hs]; exact hl
  | some r =>
    rw [sellF_some hg hs]
    split
    · assumption
    · exact hl
theorem rtD_sell {l : List T3} {f t a b : Int} (h : RtD l) (ht : t ≤ 12) : RtD (sellF l f t a b).1 :=
  ⟨sell_rights h.1, sell_own (fun x => x ≤ 12) ht h.2⟩
end Go.Proofs.YtpmmjhpmheooeaaDoor
