/- The law FnExactEventOn answers true for every level, room and event. No conditions. -/
import Derived.Test.YtimjnliajnknbaaEvent
import Derived.Test.YtimjnliajnknbaaOpen
namespace Go.Proofs.Ytimjnliajnknbaa
open Go.ChangeShapes Go.WideShapes Go.ChangeAt Go.RowKit
set_option maxHeartbeats 1600000 in
theorem walk_FnExactEventOn (w : World) (a0 : Int) (h0_0 : I64 a0) (a1 : Int) (h1_0 : I64 a1) (x2 : Int) (y2 : Int) (z2 : Int) (h2_0 : I64 x2) (h2_1 : I64 y2) (h2_2 : I64 z2) :
    Calls Try.prog 6 #[.int .i64 a0, .int .i64 a1, .agg #[.int .i64 x2, .int .i64 y2, .int .i64 z2]] w fun e w' => e = .returned (.bool true) ∧ Below w.heap.size w w' := by
  obtain ⟨r0, hr_0⟩ : ∃ r, r = (evOn a0 a1 x2 y2 z2).1 := ⟨_, rfl⟩
  have HR0 := Lib.hid hr_0; clear hr_0
  have hq0 : (r0 != r0) = false := by simp
  obtain ⟨r1, hr_1⟩ : ∃ r, r = (evOn a0 a1 x2 y2 z2).2.1 := ⟨_, rfl⟩
  have HR1 := Lib.hid hr_1; clear hr_1
  have hq1 : (r1 != r1) = false := by simp
  obtain ⟨r2, hr_2⟩ : ∃ r, r = (evOn a0 a1 x2 y2 z2).2.2.1 := ⟨_, rfl⟩
  have HR2 := Lib.hid hr_2; clear hr_2
  have hq2 : (r2 != r2) = false := by simp
  obtain ⟨r3, hr_3⟩ : ∃ r, r = (evOn a0 a1 x2 y2 z2).2.2.2.1 := ⟨_, rfl⟩
  have HR3 := Lib.hid hr_3; clear hr_3
  have hq3 : (r3 != r3) = false := by simp
  obtain ⟨r4, hr_4⟩ : ∃ r, r = (evOn a0 a1 x2 y2 z2).2.2.2.2 := ⟨_, rfl⟩
  have HR4 := Lib.hid hr_4; clear hr_4
  have hq4 : (r4 != r4) = false := by simp
  have hB0 : Below w.heap.size w w := Below.refl _ _
  go_enter Try.func6, Try.ntmps6
  go_wp2_with fail
  refine name_world ?_
  intro W1 hW1
  have hp1 : Below w.heap.size w W1 := by rw [hW1]; repeat' (first | exact Below.refl _ _ | refine Below.alloc ?_ ?_ _ | refine Below.setCell ?_ ?_ _ | refine Below.drew ?_ | (simp; done) | (simp; omega))
  have kb1_0_1 : W1.cell? ⟨w.heap.size, 0, none⟩ = some (.int .i64 x2) := by rw [hW1]; simp [go_sem]
  have kb1_1_1 : W1.cell? ⟨w.heap.size, 1, none⟩ = some (.int .i64 y2) := by rw [hW1]; simp [go_sem]
  have kb1_2_1 : W1.cell? ⟨w.heap.size, 2, none⟩ = some (.int .i64 z2) := by rw [hW1]; simp [go_sem]
  have hl_b1 : w.heap.size < W1.heap.size := by rw [hW1]; simp
  have hB1 := hB0.trans (hp1.mono hB0.size)
  have hz1 : w.heap.size ≤ W1.heap.size := hp1.size
  have HW1 := Lib.hid hW1; clear hW1
  refine (toEvent_any x2 y2 z2 _).mono ?_
  rintro e w1 ⟨rfl, hb1⟩
  have kb1_0_1' := (hb1.cell (p := ⟨w.heap.size, 0, none⟩) (by show w.heap.size < _; omega)).trans kb1_0_1
  clear kb1_0_1
  have kb1_1_1' := (hb1.cell (p := ⟨w.heap.size, 1, none⟩) (by show w.heap.size < _; omega)).trans kb1_1_1
  clear kb1_1_1
  have kb1_2_1' := (hb1.cell (p := ⟨w.heap.size, 2, none⟩) (by show w.heap.size < _; omega)).trans kb1_2_1
  clear kb1_2_1
  have hB1' := hB1.trans (hb1.mono hB1.size)
  have hz1' : W1.heap.size ≤ w1.heap.size := hb1.size
  go_wp2_with fail
  refine name_world ?_
  intro W2 hW2
  have hp2 : Below w1.heap.size w1 W2 := by rw [hW2]; repeat' (first | exact Below.refl _ _ | refine Below.alloc ?_ ?_ _ | refine Below.setCell ?_ ?_ _ | refine Below.drew ?_ | (simp; done) | (simp; omega))
  have kb1_0_2 := (hp2.cell (p := ⟨w.heap.size, 0, none⟩) (by show w.heap.size < _; omega)).trans kb1_0_1'
  clear kb1_0_1'
  have kb1_1_2 := (hp2.cell (p := ⟨w.heap.size, 1, none⟩) (by show w.heap.size < _; omega)).trans kb1_1_1'
  clear kb1_1_1'
  have kb1_2_2 := (hp2.cell (p := ⟨w.heap.size, 2, none⟩) (by show w.heap.size < _; omega)).trans kb1_2_1'
  clear kb1_2_1'
  have hB2 := hB1'.trans (hp2.mono hB1'.size)
  have hz2 : w1.heap.size ≤ W2.heap.size := hp2.size
  have HW2 := Lib.hid hW2; clear hW2
  refine (post_b (EventOnS_any a0 a1 x2 y2 z2 _)).mono ?_
  rintro e w2 ⟨rfl, hb2⟩
  have kb1_0_2' := (hb2.cell (p := ⟨w.heap.size, 0, none⟩) (by show w.heap.size < _; omega)).trans kb1_0_2
  clear kb1_0_2
  have kb1_1_2' := (hb2.cell (p := ⟨w.heap.size, 1, none⟩) (by show w.heap.size < _; omega)).trans kb1_1_2
  clear kb1_1_2
  have kb1_2_2' := (hb2.cell (p := ⟨w.heap.size, 2, none⟩) (by show w.heap.size < _; omega)).trans kb1_2_2
  clear kb1_2_2
  have hB2' := hB2.trans (hb2.mono hB2.size)
  have hz2' : W2.heap.size ≤ w2.heap.size := hb2.size
  simp only [evRet]
  rw [← HR0.out]
  rw [← HR1.out]
  rw [← HR2.out]
  rw [← HR3.out]
  rw [← HR4.out]
  go_wp2_with fail
  refine name_world ?_
  intro W3 hW3
  have hp3 : Below w2.heap.size w2 W3 := by rw [hW3]; repeat' (first | exact Below.refl _ _ | refine Below.alloc ?_ ?_ _ | refine Below.setCell ?_ ?_ _ | refine Below.drew ?_ | (simp; done) | (simp; omega))
  have kb1_0_3 := (hp3.cell (p := ⟨w.heap.size, 0, none⟩) (by show w.heap.size < _; omega)).trans kb1_0_2'
  clear kb1_0_2'
  have kb1_1_3 := (hp3.cell (p := ⟨w.heap.size, 1, none⟩) (by show w.heap.size < _; omega)).trans kb1_1_2'
  clear kb1_1_2'
  have kb1_2_3 := (hp3.cell (p := ⟨w.heap.size, 2, none⟩) (by show w.heap.size < _; omega)).trans kb1_2_2'
  clear kb1_2_2'
  have hB3 := hB2'.trans (hp3.mono hB2'.size)
  have hz3 : w2.heap.size ≤ W3.heap.size := hp3.size
  have HW3 := Lib.hid hW3; clear hW3
  refine (toEvent_any x2 y2 z2 _).mono ?_
  rintro e w3 ⟨rfl, hb3⟩
  have kb1_0_3' := (hb3.cell (p := ⟨w.heap.size, 0, none⟩) (by show w.heap.size < _; omega)).trans kb1_0_3
  clear kb1_0_3
  have kb1_1_3' := (hb3.cell (p := ⟨w.heap.size, 1, none⟩) (by show w.heap.size < _; omega)).trans kb1_1_3
  clear kb1_1_3
  have kb1_2_3' := (hb3.cell (p := ⟨w.heap.size, 2, none⟩) (by show w.heap.size < _; omega)).trans kb1_2_3
  clear kb1_2_3
  have hB3' := hB3.trans (hb3.mono hB3.size)
  have hz3' : W3.heap.size ≤ w3.heap.size := hb3.size
  go_wp2_with fail
  refine name_world ?_
  intro W4 hW4
  have hp4 : Below w3.heap.size w3 W4 := by rw [hW4]; repeat' (first | exact Below.refl _ _ | refine Below.alloc ?_ ?_ _ | refine Below.setCell ?_ ?_ _ | refine Below.drew ?_ | (simp; done) | (simp; omega))
  have kb1_0_4 := (hp4.cell (p := ⟨w.heap.size, 0, none⟩) (by show w.heap.size < _; omega)).trans kb1_0_3'
  clear kb1_0_3'
  have kb1_1_4 := (hp4.cell (p := ⟨w.heap.size, 1, none⟩) (by show w.heap.size < _; omega)).trans kb1_1_3'
  clear kb1_1_3'
  have kb1_2_4 := (hp4.cell (p := ⟨w.heap.size, 2, none⟩) (by show w.heap.size < _; omega)).trans kb1_2_3'
  clear kb1_2_3'
  have hB4 := hB3'.trans (hp4.mono hB3'.size)
  have hz4 : w3.heap.size ≤ W4.heap.size := hp4.size
  have HW4 := Lib.hid hW4; clear hW4
  refine (post_b (EventOn_any a0 a1 x2 y2 z2 _)).mono ?_
  rintro e w4 ⟨rfl, hb4⟩
  have kb1_0_4' := (hb4.cell (p := ⟨w.heap.size, 0, none⟩) (by show w.heap.size < _; omega)).trans kb1_0_4
  clear kb1_0_4
  have kb1_1_4' := (hb4.cell (p := ⟨w.heap.size, 1, none⟩) (by show w.heap.size < _; omega)).trans kb1_1_4
  clear kb1_1_4
  have kb1_2_4' := (hb4.cell (p := ⟨w.heap.size, 2, none⟩) (by show w.heap.size < _; omega)).trans kb1_2_4
  clear kb1_2_4
  have hB4' := hB4.trans (hb4.mono hB4.size)
  have hz4' : W4.heap.size ≤ w4.heap.size := hb4.size
  simp only [evRet]
  rw [← HR0.out]
  rw [← HR1.out]
  rw [← HR2.out]
  rw [← HR3.out]
  rw [← HR4.out]
  go_wp2_with fail
  go_ret
  exact ⟨rfl, by first | exact hB4' | (refine hB4'.trans (Below.mono (B := w4.heap.size) ?_ hB4'.size); repeat' (first | exact Below.refl _ _ | refine Below.alloc ?_ ?_ _ | refine Below.setCell ?_ ?_ _ | refine Below.drew ?_ | (simp; done) | (simp; omega)))⟩
set_option maxRecDepth 100000 in
theorem lifted_FnExactEventOn (os : Os) (started : os.Started) (H : Type) (enc : TypeId × Value → H) :
    ReturnsInHanded {} Try.checked os 6 .any (Rows.fnExactEventOnSpec.pre6 enc Try.prog Try.f6 Rows.fnExactEventOnRow.domain false) (Rows.fnExactEventOnSpec.post enc Try.prog Try.f6 false true false false) := by
  refine returnsInHanded_of_change (C := Try.checked) own_knob started (by kernel_rfl) Try.func6
    (ChangeSpec.witness6 (enc := enc) (C := Try.checked) false ⟨#[], #[.int .i64 0, .int .i64 0, .agg #[.int .i64 0, .int .i64 0, .int .i64 0]], []⟩ 8 (by kernel_rfl) (by kernel_rfl) (by kernel_rfl) (by kernel_rfl)) ?_
  intro W base args ds gs before hval0 hW hcnd _
  have hval : ∀ (j : Nat) t v, Try.f6.params[j]? = some t → args[j]? = some v → Value.okWide Try.prog W .any base t v := hval0
  have hW' := hW
  obtain ⟨p, q, hA0, hV, rfl, hfz, hnd⟩ := hW
  have hA : DataW.TrodAll enc Try.prog W 0 (fun _ => true) true Try.f6.params.toList args.toList ds p := hA0
  rw [Try.params6] at hA hval
  obtain ⟨v0, vs0, d0, ds0, p0, q0, hargs, rfl, rfl, h0, r0⟩ := trodAll_cons hA
  obtain ⟨v1, vs1, d1, ds1, p1, q1, rfl, rfl, rfl, h1, r1⟩ := trodAll_cons r0
  obtain ⟨v2, vs2, d2, ds2, p2, q2, rfl, rfl, rfl, h2, r2⟩ := trodAll_cons r1
  obtain ⟨rfl, rfl, rfl⟩ := trodAll_nil r2
  obtain rfl : args = #[v0, v1, v2] := by cases args; simp_all
  obtain ⟨rfl, rfl⟩ := trodVars_none hV
  obtain ⟨a0, rfl, hi0⟩ := arg_int (hval 0 3 v0 rfl rfl) h0
  have lt0 : ∀ x ∈ p0, x.block < W.heap.size := by obtain ⟨m, hm⟩ := h0; exact DataW.trod_lt m _ _ _ hm
  obtain ⟨a1, rfl, hi1⟩ := arg_int (hval 1 3 v1 rfl rfl) h1
  have lt1 : ∀ x ∈ p1, x.block < W.heap.size := by obtain ⟨m, hm⟩ := h1; exact DataW.trod_lt m _ _ _ hm
  obtain ⟨x2, y2, z2, rfl, hx2, hy2, hz2⟩ := arg_event (hval 2 33 v2 rfl rfl) h2
  have lt2 : ∀ x ∈ p2, x.block < W.heap.size := by obtain ⟨m, hm⟩ := h2; exact DataW.trod_lt m _ _ _ hm
  clear hA0 hval0
  refine (walk_FnExactEventOn W a0 hi0 a1 hi1 x2 y2 z2 hx2 hy2 hz2).mono fun e W' ⟨he, bel⟩ => ?_
  subst he
  exact ⟨_, rfl, _, _, _, [], _, [], hW', trodAll_mk1 (shut_bool Try.underlying4 _), (trodAll_cons_mk (Below.trod laid_out (by kernel_rfl) (of_decide_eq_true (by kernel_rfl)) h0 bel lt0) (trodAll_cons_mk (Below.trod laid_out (by kernel_rfl) (of_decide_eq_true (by kernel_rfl)) h1 bel lt1) (trodAll_cons_mk (Below.trod laid_out (by kernel_rfl) (of_decide_eq_true (by kernel_rfl)) h2 bel lt2) trodAll_mk0))), rfl, bel.frame _, fun h => by cases h⟩

theorem fnExactEventOn_holds : Rows.FnExactEventOnSaid :=
  OpenClaim.holds_of_wide 6 Try.f6 rfl rfl rfl rfl rfl rfl rfl ⟨rfl, rfl, rfl, rfl, rfl⟩ rfl rfl rfl rfl rfl (by kernel_rfl) Try.func6 (by kernel_rfl)
    (of_decide_eq_true (by kernel_rfl)) (by unfold Func.isWrapper; rw [if_neg (by decide +kernel)]; exact ⟨rfl, rfl⟩)
    (fun os started H enc _ => lifted_FnExactEventOn os started H enc)
end Go.Proofs.Ytimjnliajnknbaa
