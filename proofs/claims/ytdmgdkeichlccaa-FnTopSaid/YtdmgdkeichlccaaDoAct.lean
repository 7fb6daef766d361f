/- DoAct. -/
import Derived.Test.YtdmgdkeichlccaaKb
import Derived.Deep.RegionHeld3
import Derived.Test.YtdmgdkeichlccaaDrink
import Derived.Test.YtdmgdkeichlccaaVillSell
import Derived.Test.YtdmgdkeichlccaaVillPass
namespace Go.Proofs.Ytdmgdkeichlccaa
set_option linter.unusedSimpArgs false
set_option linter.unusedVariables false
open Go.RowKit
set_option maxRecDepth 20000
def bi (r : Vg × Bool) : Vg × Int := (r.1, if r.2 then 1 else 0)
def doAct (v : Vg) (k a b : Int) : Vg × Int :=
  if villageOk v = true ∧ actOk k a b = true then
    if k = 1 then bi (vEnter v ⟨1, a, 0⟩) else if k = 2 then bi (vDrink v a b) else if k = 3 then bi (vEnter v ⟨3, a, 0⟩)
    else if k = 4 then bi (vSell v a b 1 2) else if k = 5 then bi (vPass v a [b, b + 1]) else (v, mayDrink v a)
  else (v, -1)
def VgRetI (r : Vg × Int) (w : World) (e : Ending) (w' : World) : Prop := ∃ A c R d, e = .returned (.tuple #[r.1.val A c R d, .int .i64 r.2]) ∧ w'.ownsRow w.heap.size 66 3 (.slice A r.1.book.evs.length c) r.1.book.evs.length (t3s r.1.book.evs) ∧ w'.ownsRow w.heap.size 51 3 (.slice R r.1.rights.length d) r.1.rights.length (t3s r.1.rights) ∧ Below w.heap.size w w'
theorem actOk_kind {k a b : Int} (h : actOk k a b = true) : k = 1 ∨ k = 2 ∨ k = 3 ∨ k = 4 ∨ k = 5 ∨ k = 6 := by
  unfold actOk at h
  repeat' split at h
  all_goals first | omega | simp at h
theorem actOk_5 {a b : Int} (h : actOk 5 a b = true) : 1 ≤ b ∧ b ≤ 98 := by
  unfold actOk inB at h
  simp at h
  omega
theorem doAct_len (v : Vg) (k a b : Int) : (doAct v k a b).1.book.evs.length ≤ v.book.evs.length + 1 ∧ (doAct v k a b).1.rights.length ≤ v.rights.length + 12 := by
  have h1 := vEnter_len v ⟨1, a, 0⟩
  have h2 := vDrink_len v a b
  have h3 := vEnter_len v ⟨3, a, 0⟩
  have h4 := vSell_len v a b 1 2
  have h5 := vPass_len v a [b, b + 1]
  unfold doAct bi
  repeat' split
  all_goals (simp only; omega)
/-- Two ints of a made array. -/
theorem rd_two {W : World} {g : Nat} {t : TypeId} {a b : Int} (h : Blk W g t #[.int .i64 a, .int .i64 b]) : RdI W W.heap.size (some ⟨g, 0, none⟩) 2 [a, b] :=
  ⟨by simp [ints], by simp, by omega, fun _ => ⟨g, 0, rfl, h.lt, fun j u hu => by
    match j, hu with
    | 0, hu => simp [ints] at hu; subst hu; simpa using h.cell 0
    | 1, hu => simp [ints] at hu; subst hu; simpa using h.cell 1
    | j + 2, hu => simp [ints] at hu⟩⟩
theorem l39Bool_any (b : Bool) (w : World) :
    Calls Try.prog 35 #[.bool b] w fun e w' => e = .returned (.int .i64 (if b then 1 else 0)) ∧ Below w.heap.size w w' := by
  cases b
  all_goals
    go_enter Try.func35, Try.ntmps35
    go_wp2_with fail
    go_ret
    exact ⟨rfl, Below.refl _ _⟩
end Go.Proofs.Ytdmgdkeichlccaa
