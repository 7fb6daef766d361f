/- The law FnScenarios answers true for every code. No conditions. -/
import Derived.Test.YtljidaniidfdoaaActDraw
import Derived.Test.YtljidaniidfdoaaRunOk
import Derived.Test.YtljidaniidfdoaaRunActs
import Derived.Test.YtljidaniidfdoaaOpenBytes
namespace Go.Proofs.Ytljidaniidfdoaa
open Go.ChangeShapes Go.WideShapes Go.ChangeAt Go.RowKit
set_option maxRecDepth 20000
set_option maxHeartbeats 6400000 in
theorem walk_FnScenarios (w0 : World) (A0 : Option Addr) (c0 : Nat) (l0 : List Int) (h0 : RdY w0 w0.heap.size A0 c0 l0) :
    Calls Try.prog 7 #[.slice A0 l0.length c0] w0 fun e w' => e = .returned (.bool true) ∧ Below w0.heap.size w0 w' := by
  obtain ⟨hl0, hm0⟩ := h0.le
  by_cases hbig : (1048576 : Int) < l0.length
  · go_enter Try.func7, Try.ntmps7
    go_wp2_with fail
    refine (big_any A0 l0.length c0 w0 (by omega)).mono ?_
    rintro e w1 ⟨rfl, rfl⟩
    go_wp2_with fail
    go_ret
    exact ⟨rfl, Below.refl _ _⟩
  have hs : l0.length ≤ 1048576 := by omega
  have hbd : decide ((1048576 : Int) < l0.length) = false := by simpa using hbig
  go_enter Try.func7, Try.ntmps7
  go_wp2_with fail
  refine (big_any A0 l0.length c0 w0 (by omega)).mono ?_
  rintro e w1 ⟨rfl, rfl⟩
  rw [hbd]
  go_wp2_with fail
  refine (DrawActs_any A0 c0 l0 w0 h0 hs).mono ?_
  rintro e w ⟨A, c, R, d, v, B, n, acts, rfl, ⟨hv, -, hal⟩, hr1, hr2, hr3, hB00⟩
  have HB0 := Lib.hid hB00
  have hlen := vg_lens hv
  have hkp := run_keeps hv (l := acts) (by omega)
  have h1 := fun (W : World) (hb : Below w.heap.size w W) => RunActs_any A c R d v B n acts W (hr1.below hb) (hr2.below hb) (hr3.below hb) (by omega)
  obtain ⟨⟨x, ns⟩, hE⟩ : ∃ r, runActs v acts = r := ⟨_, rfl⟩
  rw [hE] at h1 hkp
  have hlx : x.book.evs.length ≤ 40 := (vg_lens hkp.1).1
  have hln : ns.length = acts.length := hkp.2
  have h2 := fun (W : World) (hb : Below w.heap.size w W) => VillageOk_any A c R d v W (hr1.below hb) (hr2.below hb) (by omega)
  have h3 := fun (W : World) (A' : Option Addr) (c' : Nat) (R' : Option Addr) (d' : Nat) (q1 : RdT W W.heap.size A' c' x.book.evs) (q2 : RdT W W.heap.size R' d' x.rights) => VillageOk_any A' c' R' d' x W q1 q2 (by omega)
  have h4 := fun (W : World) => SampleVillage_any W
  have h5 := fun (W : World) (A' : Option Addr) (c' : Nat) (R' : Option Addr) (d' : Nat) (q1 : RdT W W.heap.size A' c' (newV 200 100 1).book.evs) (q2 : RdT W W.heap.size R' d' (newV 200 100 1).rights) => VillageOk_any A' c' R' d' (newV 200 100 1) W q1 q2 (by simp [newV])
  rw [hv] at h2
  rw [hkp.1] at h3
  rw [show villageOk (newV 200 100 1) = true by decide +kernel] at h5
  unfold RunRet at h1
  unfold VgOne at h4
  unfold Vg.val at h1 h2 h3 h4 h5 ⊢
  simp only [newV, List.length_nil, List.length_cons, Nat.zero_add] at h4 h5
  simp only at h1 h3
  rw [hln] at h1
  obtain ⟨⟨room, start, l, lv, ra, dr, lo⟩, rs⟩ := v
  obtain ⟨⟨room', start', l', lv', ra', dr', lo'⟩, rs'⟩ := x
  simp only at h1 h2 h3 hr1 hr2 ⊢
  have H1 := Lib.hid h1
  have H2 := Lib.hid h2
  have H3 := Lib.hid h3
  have H4 := Lib.hid h4
  have H5 := Lib.hid h5
  clear h1 h2 h3 h4 h5 hE hkp hlx hln hlen hv hr1 hr2 hr3 hB00
  have hB := Below.refl w.heap.size w
  go_wp2_with fail
  first | refine name_world ?_ | refine name_wp ?_
  intro W1 hW
  replace hB : Below w.heap.size w W1 := by rw [hW]; exact tacT
  have hz_W1 : w.heap.size ≤ W1.heap.size := by rw [hW]; first | (simp; done) | (simp; omega)
  replace kb_p : Blk W1 (w.heap.size) 47 #[.int .i64 room, .int .i64 start, .slice A l.length c, .int .i64 lv, .int .i64 ra, .int .i64 dr, .int .i64 lo, .slice R rs.length d] := by rw [hW]; exact blkT
  have hLW1_p := kb_p.lt
  try clear kc_p kf_p
  clear hW
  refine (H1.out _ hB).mono ?_
  rintro e w2 ⟨A1, c1, R1, d1, B1, n1, rfl, ho1, ho2, -, hb⟩
  have hr_e := Row2.born ho1
  have hr_s := Row2.born ho2
  clear ho1 ho2
  replace hB := hB.trans (Below.mono hb hB.size)
  have hz_w2 : W1.heap.size ≤ w2.heap.size := Below.size hb
  replace kb_p := Blk.below kb_p hb (by first | exact kb_p.lt | (have := kb_p.lt; omega))
  have kc_p := kb_p.cells
  have kf_p := kb_p.frozens
  have hl_p := kb_p.lt
  have hn_p := Nat.ne_of_lt kb_p.lt
  clear hb
  go_wp2_with fail
  first | refine name_world ?_ | refine name_wp ?_
  intro W3 hW
  replace hB : Below w.heap.size w W3 := by rw [hW]; exact tacT
  have hz_W3 : w2.heap.size ≤ W3.heap.size := by rw [hW]; first | (simp; done) | (simp; omega)
  replace kb_p : Blk W3 (w.heap.size) 47 #[.int .i64 room, .int .i64 start, .slice A l.length c, .int .i64 lv, .int .i64 ra, .int .i64 dr, .int .i64 lo, .slice R rs.length d] := by rw [hW]; exact blkT
  have hLW3_p := kb_p.lt
  replace kb_x : Blk W3 (w2.heap.size) 47 #[.int .i64 room', .int .i64 start', .slice A1 l'.length c1, .int .i64 lv', .int .i64 ra', .int .i64 dr', .int .i64 lo', .slice R1 rs'.length d1] := by rw [hW]; exact blkT
  have hLW3_x := kb_x.lt
  replace hr_e : Row2 W3 (W1.heap.size) (w2.heap.size) 102 3 A1 (l'.length) c1 (t3s l') := by rw [hW]; exact rowT
  replace hr_s : Row2 W3 (W1.heap.size) (w2.heap.size) 62 3 R1 (rs'.length) d1 (t3s rs') := by rw [hW]; exact rowT
  try clear kc_p kf_p
  try clear kc_x kf_x
  clear hW
  refine (H2.out _ hB).mono ?_
  rintro e w4 ⟨rfl, hb⟩
  replace hB := hB.trans (Below.mono hb hB.size)
  have hz_w4 : W3.heap.size ≤ w4.heap.size := Below.size hb
  replace kb_p := Blk.below kb_p hb (by first | exact kb_p.lt | (have := kb_p.lt; omega))
  have kc_p := kb_p.cells
  have kf_p := kb_p.frozens
  have hl_p := kb_p.lt
  have hn_p := Nat.ne_of_lt kb_p.lt
  replace kb_x := Blk.below kb_x hb (by first | exact kb_x.lt | (have := kb_x.lt; omega))
  have kc_x := kb_x.cells
  have kf_x := kb_x.frozens
  have hl_x := kb_x.lt
  have hn_x := Nat.ne_of_lt kb_x.lt
  replace hr_e := Row2.below hr_e hb (by omega)
  replace hr_s := Row2.below hr_s hb (by omega)
  clear hb
  go_wp2_with fail
  refine (H3.out _ _ _ _ _ hr_e.rd hr_s.rd).mono ?_
  rintro e w5 ⟨rfl, hb⟩
  replace hB := hB.trans (Below.mono hb hB.size)
  have hz_w5 : w4.heap.size ≤ w5.heap.size := Below.size hb
  clear hb
  go_wp2_with fail
  refine (H4.out _).mono ?_
  rintro e w6 ⟨A6, c6, R6, d6, rfl, ho1, ho2, hb⟩
  have hr_e6 := Row2.born ho1
  have hr_s6 := Row2.born ho2
  clear ho1 ho2
  replace hB := hB.trans (Below.mono hb hB.size)
  have hz_w6 : w5.heap.size ≤ w6.heap.size := Below.size hb
  clear hb
  go_wp2_with fail
  refine (H5.out _ _ _ _ _ hr_e6.rd hr_s6.rd).mono ?_
  rintro e w7 ⟨rfl, hb⟩
  replace hB := hB.trans (Below.mono hb hB.size)
  have hz_w7 : w6.heap.size ≤ w7.heap.size := Below.size hb
  clear hb
  go_wp2_with fail
  go_ret
  exact ⟨rfl, HB0.out.trans (hB.mono HB0.out.size)⟩
set_option maxRecDepth 100000 in
theorem lifted_FnScenarios (os : Os) (started : os.Started) (H : Type) (enc : TypeId × Value → H) :
    ReturnsInHanded {} Try.checked os 7 .any (Rows.fnScenariosSpec.pre6 enc Try.prog Try.f7 Rows.fnScenariosRow.domain false) (Rows.fnScenariosSpec.post enc Try.prog Try.f7 false true false false) := by
  refine returnsInHanded_of_change (C := Try.checked) own_knob started (by kernel_rfl) Try.func7
    (ChangeSpec.witness6 (enc := enc) (C := Try.checked) false ⟨#[], #[.slice none 0 0], []⟩ 8 (by kernel_rfl) (by kernel_rfl) (by kernel_rfl) (by kernel_rfl)) ?_
  intro W base args ds gs before hval0 hW hcnd _
  have hval : ∀ (j : Nat) t v, Try.f7.params[j]? = some t → args[j]? = some v → Value.okWide Try.prog W .any base t v := hval0
  have hW' := hW
  obtain ⟨p, q, hA0, hV, rfl, hfz, hnd⟩ := hW
  have hA : DataW.TrodAll enc Try.prog W 0 (fun _ => true) true Try.f7.params.toList args.toList ds p := hA0
  rw [Try.params7] at hA hval
  obtain ⟨v0, vs0, d0, ds0, p0, q0, hargs, rfl, rfl, h0, r0⟩ := trodAll_cons hA
  obtain ⟨rfl, rfl, rfl⟩ := trodAll_nil r0
  obtain rfl : args = #[v0] := by cases args; simp_all
  obtain ⟨rfl, rfl⟩ := trodVars_none hV
  obtain ⟨A0, c0, l0, rfl, hr0⟩ := arg_bytes (hval 0 22 v0 rfl rfl) h0
  have lt0 : ∀ x ∈ p0, x.block < W.heap.size := by obtain ⟨m, hm⟩ := h0; exact DataW.trod_lt m _ _ _ hm
  clear hA0 hval0
  refine (walk_FnScenarios W A0 c0 l0 hr0).mono fun e W' ⟨he, bel⟩ => ?_
  subst he
  exact ⟨_, rfl, _, _, _, [], _, [], hW', trodAll_mk1 (shut_bool Try.underlying4 _), (trodAll_cons_mk (Below.trod laid_out (by kernel_rfl) (of_decide_eq_true (by kernel_rfl)) h0 bel lt0) trodAll_mk0), rfl, bel.frame _, fun h => by cases h⟩

theorem fnScenarios_holds : Rows.FnScenariosSaid :=
  OpenClaim.holds_of_wide 7 Try.f7 rfl rfl rfl rfl rfl rfl rfl ⟨rfl, rfl, rfl, rfl, rfl⟩ rfl rfl rfl rfl rfl (by kernel_rfl) Try.func7 (by kernel_rfl)
    (of_decide_eq_true (by kernel_rfl)) (by unfold Func.isWrapper; rw [if_neg (by decide +kernel)]; exact ⟨rfl, rfl⟩)
    (fun os started H enc _ => lifted_FnScenarios os started H enc)
end Go.Proofs.Ytljidaniidfdoaa
