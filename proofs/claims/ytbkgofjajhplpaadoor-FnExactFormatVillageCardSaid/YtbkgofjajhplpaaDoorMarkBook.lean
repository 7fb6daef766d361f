/- Marks in a book, and the look for them. -/
import Derived.Test.YtbkgofjajhplpaaDoorMark3
import Derived.Test.YtbkgofjajhplpaaDoorBook
namespace Go.Proofs.YtbkgofjajhplpaaDoor
set_option linter.unusedSimpArgs false
set_option linter.unusedVariables false
open Go.RowKit
set_option maxRecDepth 20000
theorem Chg.of_alloc {lo hi : Nat} {w w' : World} (o : Obj) (h : Chg lo hi (w.alloc o) w') : Chg lo hi w w' :=
  ⟨h.os, h.tape, h.output, by have := h.size; simp at this; omega, fun k hk hn => (h.block k (by simp; omega) hn).trans (Below.heap_alloc w o k hk)⟩
set_option maxHeartbeats 800000 in
theorem markBook_2 (A : Option Addr) (c lo hi : Nat) (b : Bk) (k : Nat) (kz : Int) (hk : kz = k) (w : World) (h : Row2 w lo hi 139 3 A b.evs.length c (t3s b.evs)) (hs : 3 * b.evs.length + k ≤ 1048576 * 64) :
    Calls Tryd.prog 54 #[b.val A c, .int .i64 kz] w fun e w' => e = .returned (.int .i64 (kz + 3 * b.evs.length)) ∧ Row2 w' lo hi 139 3 A b.evs.length c (t3s (marksT k b.evs.length)) ∧ Chg lo hi w w' := by
  have hcall := fun (W : World) (h : Row2 W lo hi 139 3 A b.evs.length c (t3s b.evs)) => markEventS_2 A c lo hi b.evs k kz hk W h (by omega) (by omega)
  obtain ⟨room, start, l, lv, ra, dr, lo'⟩ := b
  unfold Bk.val
  simp only at h hcall hs ⊢
  have HCALL := Lib.hid hcall; clear hcall hk
  have HH := Lib.hid h; clear h
  go_enter Tryd.func54, Tryd.ntmps54
  go_wp2_with fail
  refine (HCALL.out _ (HH.out.alloc _)).mono ?_
  rintro e w1 ⟨rfl, h1, hc1⟩
  go_wp2_with fail
  go_ret
  exact ⟨rfl, h1, hc1.of_alloc _⟩
end Go.Proofs.YtbkgofjajhplpaaDoor
