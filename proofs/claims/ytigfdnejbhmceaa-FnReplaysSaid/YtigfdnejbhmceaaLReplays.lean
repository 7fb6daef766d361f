/- The law FnReplays answers true for every code. No conditions. -/
import Derived.Test.YtigfdnejbhmceaaActDraw
import Derived.Test.YtigfdnejbhmceaaReplayPure
import Derived.Test.YtigfdnejbhmceaaPlaces
import Derived.Test.YtigfdnejbhmceaaOpenBytes
import Derived.BigRegion
namespace Go.Proofs.Ytigfdnejbhmceaa
set_option linter.unusedSimpArgs false
set_option linter.unusedVariables false
open Go.ChangeShapes Go.WideShapes Go.ChangeAt Go.RowKit
set_option maxRecDepth 20000
theorem rd_one1 {W : World} {g : Nat} {t : TypeId} {a : Int} (h : Blk W g t #[.int .i64 a]) : RdI W W.heap.size (some ⟨g, 0, none⟩) 1 [a] :=
  ⟨rfl, Nat.le_refl _, by omega, fun _ => ⟨g, 0, rfl, h.lt, fun j u hu => by
    match j, hu with
    | 0, hu => simp [ints] at hu; subst hu; simpa using h.cell 0⟩⟩
set_option maxHeartbeats 6400000 in
theorem walk_FnReplays (w0 : World) (A0 : Option Addr) (c0 : Nat) (l0 : List Int) (h0 : RdY w0 w0.heap.size A0 c0 l0) :
    Calls Try.prog 3 #[.slice A0 l0.length c0] w0 fun e w' => e = .returned (.bool true) ∧ Below w0.heap.size w0 w' := by
  obtain ⟨hl0, hm0⟩ := h0.le
  by_cases hbig : (1048576 : Int) < l0.length
  · go_enter Try.func3, Try.ntmps3
    go_wp2_with fail
    refine (big_any A0 l0.length c0 w0 (by omega)).mono ?_
    rintro e w1 ⟨rfl, rfl⟩
    go_wp2_with fail
    go_ret
    exact ⟨rfl, Below.refl _ _⟩
  have hs : l0.length ≤ 1048576 := by omega
  have hbd : decide ((1048576 : Int) < l0.length) = false := by simpa using hbig
  go_enter Try.func3, Try.ntmps3
  go_wp2_with fail
  refine (big_any A0 l0.length c0 w0 (by omega)).mono ?_
  rintro e w1 ⟨rfl, rfl⟩
  rw [hbd]
  go_wp2_with fail
  refine (DrawActs_any A0 c0 l0 w0 h0 hs).mono ?_
  rintro e w ⟨A, c, R, d, v, B, n, acts, rfl, ⟨hv, -, hal⟩, hr1, hr2, hr3, hB00⟩
  have HB0 := Lib.hid hB00
  have hlen := vg_lens hv
  have hkp := run_keeps hv (l := acts) (by omega)
  have hrs := replay_same hv (l := acts) (by omega)
  have hnb := run_nums hv (l := acts) (by omega)
  have h1 := fun (W : World) (hb : Below w.heap.size w W) => RunActs_any A c R d v B n acts W (hr1.below hb) (hr2.below hb) (hr3.below hb) (by omega)
  have HI : Hid (∀ (W : World) (M : Option Addr) (k : Nat) (m : List Int), Below w.heap.size w W → RdI W W.heap.size M k m → Calls Try.prog 7 #[v.val A c R d, .slice B acts.length n, .slice M m.length k] W fun e w' => e = .returned (.bool (isReplay v acts m)) ∧ Below W.heap.size W w') := fun W M k m hb hr => IsReplay_any A c R d v B n acts M k m W (hr1.below hb) (hr2.below hb) (hr3.below hb) hr (by omega)
  have HPL : Hid (∀ W, Below w.heap.size w W → Calls Try.prog 8 #[.slice A0 l0.length c0] W fun e w' => ∃ (A' : Option Addr) (c' : Nat) (y : List Int), e = .returned (.slice A' y.length c') ∧ RdI w' w'.heap.size A' c' y ∧ (y.length = 12 ∧ ∀ x ∈ y, 0 ≤ x ∧ x ≤ 9999) ∧ Below W.heap.size W w') := fun W hb => DrawPlaces_any A0 c0 l0 W (RdY.below h0 (HB0.out.trans (hb.mono HB0.out.size))) hs
  have HNO : Hid (∀ m : List Int, (runActs v acts).2 ≠ m → isReplay v acts m = false) := fun m h => replay_no h
  obtain ⟨⟨x, ns⟩, hE⟩ : ∃ r, runActs v acts = r := ⟨_, rfl⟩
  rw [hE] at h1 hkp hrs hnb HNO
  simp only at hrs hnb HNO
  have hln : ns.length = acts.length := hkp.2
  have hn13 : ns.length ≤ 13 := by omega
  have HNB := Lib.hid hnb
  have HRS := Lib.hid hrs
  unfold RunRet at h1
  unfold Vg.val at h1 HI ⊢
  simp only at h1
  obtain ⟨⟨room, start, l, lv, ra, dr, lo⟩, rs⟩ := v
  obtain ⟨⟨room', start', l', lv', ra', dr', lo'⟩, rs'⟩ := x
  simp only at h1 HI hr1 hr2 ⊢
  have H1 := Lib.hid h1
  clear h1 hE hkp hlen hv hr1 hr2 hr3 hB00 hrs hnb hln hal
  have hB := Below.refl w.heap.size w
  go_wp2_with fail
  first | refine name_world ?_ | refine name_wp ?_
  intro W1 hW
  replace hB : Below w.heap.size w W1 := by rw [hW]; exact tacT
  have hz_W1 : w.heap.size ≤ W1.heap.size := by rw [hW]; first | (simp; done) | (simp; omega)
  replace kb_p : Blk W1 (w.heap.size) 29 #[.int .i64 room, .int .i64 start, .slice A l.length c, .int .i64 lv, .int .i64 ra, .int .i64 dr, .int .i64 lo, .slice R rs.length d] := by rw [hW]; exact blkT
  have hLW1_p := kb_p.lt
  try clear kc_p kf_p
  clear hW
  refine (H1.out _ hB).mono ?_
  rintro e w2 ⟨A1, c1, R1, d1, B1, n1, rfl, la, lb, na, nb, -, -, hq1, hq2, -, -, -, hr_n, hb⟩
  replace hB := hB.trans (Below.mono hb hB.size)
  have hz_w2 : W1.heap.size ≤ w2.heap.size := Below.size hb
  replace kb_p := Blk.below kb_p hb (by first | exact kb_p.lt | (have := kb_p.lt; omega))
  have kc_p := kb_p.cells
  have kf_p := kb_p.frozens
  have hl_p := kb_p.lt
  have hn_p := Nat.ne_of_lt kb_p.lt
  clear hb
  go_wp2_with fail
  first | refine name_world ?_ | refine name_wp ?_
  intro W3 hW
  replace hB : Below w.heap.size w W3 := by rw [hW]; exact tacT
  have hz_W3 : w2.heap.size ≤ W3.heap.size := by rw [hW]; first | (simp; done) | (simp; omega)
  replace kb_p : Blk W3 (w.heap.size) 29 #[.int .i64 room, .int .i64 start, .slice A l.length c, .int .i64 lv, .int .i64 ra, .int .i64 dr, .int .i64 lo, .slice R rs.length d] := by rw [hW]; exact blkT
  have hLW3_p := kb_p.lt
  replace hr_n : Row2 W3 (na) (nb) 3 1 B1 (ns.length) n1 (ints ns) := by rw [hW]; exact rowT
  try clear kc_p kf_p
  clear hW
  have HI1 := Lib.hid (HI.out W3 B1 n1 ns hB hr_n.rd)
  rw [HRS.out] at HI1
  refine HI1.out.mono ?_
  rintro e w4 ⟨rfl, hb⟩
  clear HI1
  replace hB := hB.trans (Below.mono hb hB.size)
  have hz_w4 : W3.heap.size ≤ w4.heap.size := Below.size hb
  replace kb_p := Blk.below kb_p hb (by first | exact kb_p.lt | (have := kb_p.lt; omega))
  have kc_p := kb_p.cells
  have kf_p := kb_p.frozens
  have hl_p := kb_p.lt
  have hn_p := Nat.ne_of_lt kb_p.lt
  replace hr_n := Row2.below hr_n hb (by omega)
  clear hb
  by_cases hne : ns.length = 0
  · have hnil : ns = [] := List.eq_nil_of_length_eq_zero hne
    subst hnil
    have d0 : (((([] : List Int).length : Nat) : Int) == 0) = true := rfl
    have hno := HNO.out [1] (by simp)
    go_wp2_with fail
    first | refine name_world ?_ | refine name_wp ?_
    intro W5 hW
    replace hB : Below w.heap.size w W5 := by rw [hW]; exact tacT
    have hz_W5 : w4.heap.size ≤ W5.heap.size := by rw [hW]; first | (simp; done) | (simp; omega)
    replace kb_p : Blk W5 (w.heap.size) 29 #[.int .i64 room, .int .i64 start, .slice A l.length c, .int .i64 lv, .int .i64 ra, .int .i64 dr, .int .i64 lo, .slice R rs.length d] := by rw [hW]; exact blkT
    have hLW5_p := kb_p.lt
    replace kb_u : Blk W5 (w4.heap.size) 3 #[.int .i64 1] := by rw [hW]; exact blkT
    have hLW5_u := kb_u.lt
    try clear kc_p kf_p
    try clear kc_u kf_u
    clear hW
    have HI2 := Lib.hid (HI.out W5 (some ⟨w4.heap.size, 0, none⟩) 1 [1] hB (rd_one1 kb_u))
    rw [hno] at HI2
    refine HI2.out.mono ?_
    rintro e w6 ⟨rfl, hb⟩
    replace hB := hB.trans (Below.mono hb hB.size)
    have hz_w6 : W5.heap.size ≤ w6.heap.size := Below.size hb
    clear hb
    go_wp2_with fail
    go_ret
    exact ⟨rfl, HB0.out.trans (hB.mono HB0.out.size)⟩
  · have d0 : ((ns.length : Int) == 0) = false := beq_eq_false_iff_ne.2 (by omega)
    have d1 : ¬ (ns.length : Int) = 0 := by omega
    go_wp2_with fail
    refine (HPL.out _ hB).mono ?_
    rintro e w5 ⟨A5, c5, y, rfl, hy1, ⟨hy2, hy3⟩, hb⟩
    obtain ⟨b5, o5, y0, rfl, hb5, hy0, hc5⟩ := hy1.at_ (k := 0) (by omega)
    have hyb := hy3 y0 (List.mem_of_getElem? hy0)
    obtain ⟨yn, rfl⟩ := Int.eq_ofNat_of_zero_le hyb.1
    have hyl : (0 : Int) < (y.length : Int) := by omega
    have hc5' : w5.cell? ⟨b5, o5, none⟩ = some (.int .i64 (yn : Int)) := by simpa using hc5
    replace hB := hB.trans (Below.mono hb hB.size)
    have hz_w5 : w4.heap.size ≤ w5.heap.size := Below.size hb
    replace kb_p := Blk.below kb_p hb (by first | exact kb_p.lt | (have := kb_p.lt; omega))
    have kc_p := kb_p.cells
    have kf_p := kb_p.frozens
    have hl_p := kb_p.lt
    have hn_p := Nat.ne_of_lt kb_p.lt
    replace hr_n := Row2.below hr_n hb (by omega)
    clear hb
    have hk : yn % ns.length < ns.length := Nat.mod_lt _ (by omega)
    have hm1 : ((yn : Nat) : Int).tmod (ns.length : Int) = ((yn % ns.length : Nat) : Int) := by rw [Int.tmod_eq_emod_of_nonneg (by omega)]; push_cast; rfl
    have hm2 : ((yn : Nat) : Int) % (ns.length : Int) = ((yn % ns.length : Nat) : Int) := by push_cast; rfl
    obtain ⟨k, hkk⟩ : ∃ k, k = yn % ns.length := ⟨_, rfl⟩
    rw [← hkk] at hk hm1 hm2
    clear hkk hy1 hy0 hy2 hy3
    have k0 : (0 : Int) ≤ (k : Int) := by omega
    have k1 : (k : Int) < (ns.length : Int) := by omega
    have hx9 : ns[k]? = some ns[k] := List.getElem?_eq_getElem hk
    obtain ⟨x, hx8⟩ : ∃ x, x = ns[k] := ⟨_, rfl⟩
    rw [← hx8] at hx9
    have hxb := HNB.out x (List.mem_of_getElem? hx9)
    have hwx : IntKind.i64.wrap (x + 1) = x + 1 := IntWalk.i64_in _ (by omega)
    obtain ⟨g, rfl, hg1, hg2, hfz, ⟨x2, hc6, hx7⟩, hos, hgs⟩ := (show OwnI w5 na B1 n1 ns from hr_n.1).set_ (k := k) hk (x + 1)
    rw [hx9] at hx7
    obtain rfl := Option.some.inj hx7
    have hno := HNO.out (ns.set k (x + 1)) (set_ne hx9)
    have hgn : g < nb := hr_n.2 g rfl
    have HOS := Lib.hid hos
    have hlset : (ns.set k (x + 1)).length = ns.length := List.length_set
    have HLS := Lib.hid hlset
    have HI3 : Hid (∀ (W : World), Below w.heap.size w W → Rd W W.heap.size 1 (some ⟨g, 0, none⟩) ns.length n1 (ints (ns.set k (x + 1))) → Calls Try.prog 7 #[.agg #[.int .i64 room, .int .i64 start, .slice A l.length c, .int .i64 lv, .int .i64 ra, .int .i64 dr, .int .i64 lo, .slice R rs.length d], .slice B acts.length n, .slice (some ⟨g, 0, none⟩) ns.length n1] W fun e w' => e = .returned (.bool false) ∧ Below W.heap.size W w') := fun W hb hr => by
      have h9 := HI.out W (some ⟨g, 0, none⟩) n1 (ns.set k (x + 1)) hb (by unfold RdI; rw [hlset]; exact hr)
      rw [hno, hlset] at h9
      exact h9
    clear hx9 hx8 hos hgs hr_n hlset hno
    go_wp2_with fail
    first | refine name_world ?_ | refine name_wp ?_
    intro W6 hW
    replace hB : Below w.heap.size w W6 := by rw [hW]; exact hB.setCell (by show w.heap.size ≤ g; omega) _
    have hro : Rd W6 W6.heap.size 1 (some ⟨g, 0, none⟩) ns.length n1 (ints (ns.set k (x + 1))) := by
      rw [hW]
      have h9 := Rd.of_own HOS.out
      rw [HLS.out] at h9
      exact h9
    clear hW
    refine (HI3.out _ hB hro).mono ?_
    rintro e w7 ⟨rfl, hb⟩
    replace hB := hB.trans (Below.mono hb hB.size)
    have hz_w7 : W6.heap.size ≤ w7.heap.size := Below.size hb
    clear hb
    go_wp2_with fail
    go_ret
    exact ⟨rfl, HB0.out.trans (hB.mono HB0.out.size)⟩
set_option maxRecDepth 100000 in
theorem lifted_FnReplays (os : Os) (started : os.Started) (H : Type) (enc : TypeId × Value → H) :
    ReturnsInHanded {} Try.checked os 3 .any (Rows.fnReplaysSpec.pre6 enc Try.prog Try.f3 Rows.fnReplaysRow.domain false) (Rows.fnReplaysSpec.post enc Try.prog Try.f3 false true false false) := by
  refine returnsInHanded_of_change (C := Try.checked) own_knob started (by kernel_rfl) Try.func3
    (ChangeSpec.witness6 (enc := enc) (C := Try.checked) false ⟨#[], #[.slice none 0 0], []⟩ 8 (by kernel_rfl) (by kernel_rfl) (by kernel_rfl) (by kernel_rfl)) ?_
  intro W base args ds gs before hval0 hW hcnd _
  have hval : ∀ (j : Nat) t v, Try.f3.params[j]? = some t → args[j]? = some v → Value.okWide Try.prog W .any base t v := hval0
  have hW' := hW
  obtain ⟨p, q, hA0, hV, rfl, hfz, hnd⟩ := hW
  have hA : DataW.TrodAll enc Try.prog W 0 (fun _ => true) true Try.f3.params.toList args.toList ds p := hA0
  rw [Try.params3] at hA hval
  obtain ⟨v0, vs0, d0, ds0, p0, q0, hargs, rfl, rfl, h0, r0⟩ := trodAll_cons hA
  obtain ⟨rfl, rfl, rfl⟩ := trodAll_nil r0
  obtain rfl : args = #[v0] := by cases args; simp_all
  obtain ⟨rfl, rfl⟩ := trodVars_none hV
  obtain ⟨A0, c0, l0, rfl, hr0⟩ := arg_bytes (hval 0 22 v0 rfl rfl) h0
  have lt0 : ∀ x ∈ p0, x.block < W.heap.size := by obtain ⟨m, hm⟩ := h0; exact DataW.trod_lt m _ _ _ hm
  clear hA0 hval0
  refine (walk_FnReplays W A0 c0 l0 hr0).mono fun e W' ⟨he, bel⟩ => ?_
  subst he
  exact ⟨_, rfl, _, _, _, [], _, [], hW', trodAll_mk1 (shut_bool Try.underlying4 _), (trodAll_cons_mk (Below.trod laid_out (by kernel_rfl) (of_decide_eq_true (by kernel_rfl)) h0 bel lt0) trodAll_mk0), rfl, bel.frame _, fun h => by cases h⟩

theorem fnReplays_holds : Rows.FnReplaysSaid :=
  OpenClaim.holds_of_wide 3 Try.f3 rfl rfl rfl rfl rfl rfl rfl ⟨rfl, rfl, rfl, rfl, rfl⟩ rfl rfl rfl rfl rfl (by kernel_rfl) Try.func3 (by kernel_rfl)
    (of_decide_eq_true (by kernel_rfl)) (by unfold Func.isWrapper; rw [if_neg (by decide +kernel)]; exact ⟨rfl, rfl⟩)
    (fun os started H enc _ => lifted_FnReplays os started H enc)
end Go.Proofs.Ytigfdnejbhmceaa
