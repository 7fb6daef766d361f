/- Drawn events. -/
import Derived.Test.YtpmmjhpmheooeaaDoorDrewK
import Derived.Test.YtpmmjhpmheooeaaDoorKf
import Derived.Test.YtpmmjhpmheooeaaDoorBooksPure
import Derived.Deep.RegionHeld3
namespace Go.Proofs.YtpmmjhpmheooeaaDoor
set_option linter.unusedSimpArgs false
set_option linter.unusedVariables false
open Go.RowKit
set_option maxRecDepth 20000
/-- What a drawn event is. -/
def EvD (x y z : Int) : Prop := (x = 1 ∧ 0 ≤ y ∧ y < 120 ∧ z = 0) ∨ (x = 2 ∧ 0 ≤ y ∧ y < 60 ∧ 1 ≤ z ∧ z ≤ 4) ∨ (x = 3 ∧ 0 ≤ y ∧ y < 20 ∧ z = 0)
set_option maxHeartbeats 1600000 in
theorem l37Event_any (p : Nat) (w : World) (h : Cur w p) :
    Calls Tryd.prog 91 #[.pointer (some ⟨p, 0, none⟩)] w fun e w' => ∃ x y z : Int, e = .returned (.agg #[.int .i64 x, .int .i64 y, .int .i64 z]) ∧ EvD x y z ∧ Drew p w w' := by
  have hpl := h.lt
  have D0 : Hid (Drew p w (w.alloc (.cells #[.int .i64 0, .int .i64 0, .int .i64 0] 110))) := (Drew.here h).alloc _
  have kb := Blk.new w 110 #[.int .i64 0, .int .i64 0, .int .i64 0]
  have hne : w.heap.size ≠ p := by omega
  go_enter Tryd.func91, Tryd.ntmps91
  go_wp2_with fail
  refine (l01Below_any p 3 _ D0.out.1 (by omega)).mono ?_
  rintro e w1 ⟨x, rfl, x0, x1, _, hd⟩
  replace x1 := x1 (by omega)
  have kb1 := hd.blk kb hne
  have D1 := Lib.hid (D0.out.trans hd)
  clear hd kb D0
  have hs1 : w.heap.size < w1.heap.size := kb1.lt
  by_cases e0 : x = 0
  · subst e0
    have K1 := Lib.hid kb1
    clear kb1
    go_wp2_with fail
    refine (l01Below_any p 120 w1 D1.out.1 (by omega)).mono ?_
    rintro e w2 ⟨y, rfl, y0, y1, _, hd⟩
    replace y1 := y1 (by omega)
    have kb2 := hd.blk K1.out hne
    have D2 := Lib.hid (D1.out.trans hd)
    have kc := kb2.cells
    have kf := kb2.frozens
    have hl2 := kb2.lt
    clear hd
    go_wp2_with fail
    refine bodyPost_ret (v := .agg #[.int .i64 1, .int .i64 y, .int .i64 0]) (by simp [results, Tryd.results91, go_sem, kc, hl2]) rfl ⟨1, y, 0, rfl, .inl ⟨rfl, y0, y1, rfl⟩, ?_⟩
    repeat' (first | exact D2.out | (refine Drew.store ?_ hpl (Nat.le_refl _) _ _))
  by_cases e1 : x = 1
  · subst e1
    have K1 := Lib.hid kb1
    clear kb1
    go_wp2_with fail
    refine (l01Below_any p 60 w1 D1.out.1 (by omega)).mono ?_
    rintro e w2 ⟨y, rfl, y0, y1, _, hd⟩
    replace y1 := y1 (by omega)
    have K2 := Lib.hid (hd.blk K1.out hne)
    have D2 := Lib.hid (D1.out.trans hd)
    clear hd
    go_wp2_with fail
    refine (l01Below_any p 4 w2 D2.out.1 (by omega)).mono ?_
    rintro e w3 ⟨z, rfl, z0, z1, _, hd⟩
    replace z1 := z1 (by omega)
    have kb3 := hd.blk K2.out hne
    have D3 := Lib.hid (D2.out.trans hd)
    have kc := kb3.cells
    have kf := kb3.frozens
    have hl3 := kb3.lt
    clear hd
    go_wp2_with fail
    refine bodyPost_ret (v := .agg #[.int .i64 2, .int .i64 y, .int .i64 (1 + z)]) (by simp [results, Tryd.results91, go_sem, kc, hl3]) rfl ⟨2, y, 1 + z, rfl, .inr (.inl ⟨rfl, y0, y1, by omega, by omega⟩), ?_⟩
    repeat' (first | exact D3.out | (refine Drew.store ?_ hpl (Nat.le_refl _) _ _))
  · have K1 := Lib.hid kb1
    clear kb1
    have e0' : (x == 0) = false := by simpa using e0
    have e1' : (x == 1) = false := by simpa using e1
    go_wp2_with fail
    refine (l01Below_any p 20 w1 D1.out.1 (by omega)).mono ?_
    rintro e w2 ⟨y, rfl, y0, y1, _, hd⟩
    replace y1 := y1 (by omega)
    have kb2 := hd.blk K1.out hne
    have D2 := Lib.hid (D1.out.trans hd)
    have kc := kb2.cells
    have kf := kb2.frozens
    have hl2 := kb2.lt
    clear hd
    go_wp2_with fail
    refine bodyPost_ret (v := .agg #[.int .i64 3, .int .i64 y, .int .i64 0]) (by simp [results, Tryd.results91, go_sem, kc, hl2]) rfl ⟨3, y, 0, rfl, .inr (.inr ⟨rfl, y0, y1, rfl⟩), ?_⟩
    repeat' (first | exact D2.out | (refine Drew.store ?_ hpl (Nat.le_refl _) _ _))
end Go.Proofs.YtpmmjhpmheooeaaDoor
