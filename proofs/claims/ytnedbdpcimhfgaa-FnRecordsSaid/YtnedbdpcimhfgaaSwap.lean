/- copyInts, SwapSaves. -/
import Derived.Test.YtnedbdpcimhfgaaWait
import Derived.Test.YtnedbdpcimhfgaaMem
namespace Go.Proofs.Ytnedbdpcimhfgaa
open Go.RowKit
set_option maxHeartbeats 400000 in
theorem copyInts_any (A : Option Addr) (c : Nat) (l : List Int) (w : World) (h : RdI w w.heap.size A c l) (hs : l.length ≤ 1048576) :
    Calls Try.prog 71 #[.slice A l.length c] w fun e w' => ∃ A' c', e = .returned (.slice A' l.length c') ∧ OwnI w' w.heap.size A' c' l ∧ Below w.heap.size w w' := by
  obtain ⟨hl, hm⟩ := h.le
  go_enter Try.func71, Try.ntmps71
  go_wp2_with (at_builtin; refine wpList_appAll rfl _ _ 47 rfl w.heap.size 3 (.int .i64 0) 1 8 Try.underlying47 infoI rfl (by decide) (.slice none 0 0) 0 [] rfl (World.ownsRow_nil _ _ _ _) _ A l.length c (ints l) rfl h (ints_one l) (by omega) (by omega) (by simp) ?_)
  intro A1 c1 w1 ho1 hg1
  have hb1 : Below w.heap.size w w1 := (Below.refl _ _).grown hg1 (by simp) (by simp [Value.ownBlock])
  try simp only [Nat.zero_add, List.nil_append] at ho1
  have H1 := Lib.hid (And.intro ho1 hb1)
  clear ho1 hb1 hg1
  go_wp2
  go_ret
  exact ⟨A1, c1, by simp, H1.out.1, H1.out.2⟩
end Go.Proofs.Ytnedbdpcimhfgaa
