/- SortedYears, MiddleYear. -/
import Derived.Test.YtnedbdpcimhfgaaSortI
import Derived.Test.YtnedbdpcimhfgaaYears
import Derived.Test.YtnedbdpcimhfgaaSwap
import Derived.Test.YtnedbdpcimhfgaaBest
namespace Go.Proofs.Ytnedbdpcimhfgaa
open Go.RowKit
set_option maxRecDepth 20000
def sortedY (l : List Int) : List Int := if yearsOk l then l.mergeSort leI else []
theorem sortedY_len (l : List Int) : (sortedY l).length ≤ l.length := by
  unfold sortedY
  split
  · rw [sort_len]; exact Nat.le_refl _
  · simp
theorem yearsOk_iff {l : List Int} (h : yearsOk l = true) : allIn l 0 100000 = true ∧ 1 ≤ l.length ∧ l.length ≤ 60 := by
  unfold yearsOk at h; simp [inB] at h; exact ⟨h.1, by omega, by omega⟩
theorem sortedY_yes {l : List Int} (h : yearsOk l = true) : sortedY l = l.mergeSort leI := by unfold sortedY; rw [h, if_pos rfl]
theorem sortedY_no {l : List Int} (h : yearsOk l = false) : sortedY l = [] := by unfold sortedY; rw [h]; rfl
def middleY (l : List Int) : Int := if yearsOk l then (l.mergeSort leI).getD (l.length / 2) 0 else -1
theorem middleY_no {l : List Int} (h : yearsOk l = false) : middleY l = -1 := by unfold middleY; rw [h]; rfl
theorem middleY_yes {l : List Int} (h : yearsOk l = true) : ∃ x, (sortedY l)[l.length / 2]? = some x ∧ middleY l = x ∧ 0 ≤ x ∧ x ≤ 100000 := by
  have hy := yearsOk_iff h
  have hl : l.length / 2 < (l.mergeSort leI).length := by rw [sort_len]; omega
  refine ⟨_, by rw [sortedY_yes h]; exact List.getElem?_eq_getElem hl, ?_, ?_⟩
  · unfold middleY; rw [if_pos h, List.getD_eq_getElem?_getD, List.getElem?_eq_getElem hl]; rfl
  · obtain ⟨k, hk⟩ := List.mem_iff_getElem?.1 (sort_mem.1 (List.getElem_mem hl))
    exact allIn_mem hy.1 hk
set_option maxHeartbeats 1600000 in
theorem SortedYears_any (A : Option Addr) (c : Nat) (l : List Int) (w : World) (h : RdI w w.heap.size A c l) :
    Calls Try.prog 42 #[.slice A l.length c] w fun e w' => ∃ A' c', e = .returned (.slice A' (sortedY l).length c') ∧ OwnI w' w.heap.size A' c' (sortedY l) ∧ Below w.heap.size w w' := by
  obtain ⟨hl, hm⟩ := h.le
  have hB := Below.refl w.heap.size w
  have H1 : Hid (∀ W, Below w.heap.size w W → Calls Try.prog 52 #[.slice A l.length c] W fun e w' => e = .returned (.bool (yearsOk l)) ∧ W = w') := fun W hb => YearsOk_any A c l W (h.below hb)
  cases hy : yearsOk l
  · have E := Lib.hid (sortedY_no hy)
    have K := Lib.hid hy
    clear hy
    go_enter Try.func42, Try.ntmps42
    go_wp2_with fail
    refine (H1.out _ (by repeat' (first | (with_reducible exact Below.refl _ _) | (with_reducible assumption) | (with_reducible refine Below.alloc ?_ ?_ _) | (with_reducible refine Below.setCell ?_ ?_ _) | (with_reducible refine Below.drew ?_) | (with_reducible refine below_drewN ?_ _) | (refine Below.trans ?_ (Below.mono (by with_reducible assumption) ?_)) | omega | (simp; done) | (simp; omega)))).mono ?_
    rw [K.out]
    rintro e w1 ⟨rfl, rfl⟩
    go_wp2_with fail
    go_ret
    rw [E.out]
    exact ⟨none, 0, rfl, own_nil _ _, by repeat' (first | (with_reducible exact Below.refl _ _) | (with_reducible assumption) | (with_reducible refine Below.alloc ?_ ?_ _) | (with_reducible refine Below.setCell ?_ ?_ _) | (with_reducible refine Below.drew ?_) | (with_reducible refine below_drewN ?_ _) | (refine Below.trans ?_ (Below.mono (by with_reducible assumption) ?_)) | omega | (simp; done) | (simp; omega))⟩
  have E := Lib.hid (sortedY_yes hy)
  have hyl := (yearsOk_iff hy).2
  have K := Lib.hid hy
  clear hy
  go_enter Try.func42, Try.ntmps42
  go_wp2_with fail
  refine (H1.out _ hB).mono ?_
  rw [K.out]
  rintro e w1 ⟨rfl, rfl⟩
  go_wp2_with fail
  refine (copyInts_any A c l w h (by omega)).mono ?_
  rintro e w2 ⟨A1, c1, rfl, ho, hb⟩
  obtain ⟨g, hA, hgb, hgl, _⟩ := ho.set_ (k := 0) (by omega) 0
  subst hA
  have H2 := Lib.hid (sortI_any w.heap.size g c1 l w2 ho (by omega))
  have HB := Lib.hid hb
  have hbs := hb.size
  clear ho hb hB H1
  go_wp2_with fail
  refine H2.out.mono ?_
  rintro e w3 ⟨rfl, ho, hg⟩
  have hB3 : Below w.heap.size w w3 := HB.out.grown hg hbs (fun k hk => by have h9 : g = k := Option.some.inj hk; omega)
  have H3 := Lib.hid (And.intro ho hB3)
  clear ho hg hB3
  go_wp2_with fail
  go_ret
  rw [E.out]
  exact ⟨_, _, by rw [sort_len]; rfl, H3.out.1, H3.out.2⟩
set_option maxHeartbeats 3200000 in
theorem SortedYearsS_any (A : Option Addr) (c : Nat) (l : List Int) (w : World) (h : RdI w w.heap.size A c l) :
    Calls Try.prog 41 #[.slice A l.length c] w fun e w' => ∃ A' c', e = .returned (.slice A' (sortedY l).length c') ∧ OwnI w' w.heap.size A' c' (sortedY l) ∧ Below w.heap.size w w' := by
  obtain ⟨hl, hm⟩ := h.le
  have hb1 : Below w.heap.size w (w.alloc (.cells #[] 3)) := (Below.refl _ _).alloc (Nat.le_refl _) _
  have ho1 : OwnI (w.alloc (.cells #[] 3)) w.heap.size (some ⟨w.heap.size, 0, none⟩) 0 [] := World.ownsRow_made w #[] 0 (Nat.le_refl _) (by unfold maxLen; omega) (by simp)
  have H0 := Lib.hid (And.intro hb1 ho1)
  clear hb1 ho1
  have H1 : Hid (∀ W, Below w.heap.size w W → Calls Try.prog 75 #[.slice A l.length c] W fun e w' => e = .returned (.bool (yearsOk l)) ∧ W = w') := fun W hb => YearsOkS_any A c l W (h.below hb)
  cases hy : yearsOk l
  · have E := Lib.hid (sortedY_no hy)
    have K := Lib.hid hy
    clear hy
    by_cases h0 : (0 : Int) < l.length
    · go_enter Try.func41, Try.ntmps41
      go_wp2_with fail
      refine wp_loop_rounds 1 ?_
      rw [rounds_succ]
      go_wp2_with fail
      refine (H1.out _ H0.out.1).mono ?_
      rw [K.out]
      rintro e w1 ⟨rfl, rfl⟩
      go_wp2_with fail
      go_ret
      rw [E.out]
      exact ⟨_, _, rfl, H0.out.2, H0.out.1⟩
    · go_enter Try.func41, Try.ntmps41
      go_wp2_with fail
      refine wp_loop_rounds 1 ?_
      rw [rounds_succ]
      go_wp2_with fail
      go_ret
      rw [E.out]
      exact ⟨_, _, rfl, H0.out.2, H0.out.1⟩
  have E : Hid (sortedY l = insAll ltI l) := by show _ = _; rw [insAll_sort, sortedY_yes hy]
  have h60 := (yearsOk_iff hy).2
  have K := Lib.hid hy
  clear hy
  go_enter Try.func41, Try.ntmps41
  go_wp2_with fail
  go_loopw [3, 4] (fun v i wr => ∃ (k : Nat) (A' : Option Addr) (c' : Nat), k ≤ l.length ∧ i = .int .i64 k ∧ v = .slice A' k c' ∧ Hid (OwnI wr w.heap.size A' c' (insAll ltI (l.take k))) ∧ Hid (Below w.heap.size w wr)) (fun _ i _ => l.length - (intOf i).toNat)
  case atStart => exact ⟨0, some ⟨w.heap.size, 0, none⟩, 0, Nat.zero_le _, rfl, rfl, H0.out.2, H0.out.1⟩
  case round =>
    obtain ⟨k, A', c', hk, rfl, rfl, HO, HB⟩ := hrel
    obtain ⟨wo, rfl⟩ : ∃ wo : World, wo = wr := ⟨_, rfl⟩
    by_cases hlt : k < l.length
    · obtain ⟨pre, hpre⟩ : ∃ pre, pre = insAll ltI (l.take k) := ⟨_, rfl⟩
      have hpl : pre.length = k := by rw [hpre, insAll_length, List.length_take]; omega
      have ho : OwnI wo w.heap.size A' c' pre := by rw [hpre]; exact HO.out
      have hbs := HB.out.size
      have hkl : (k : Int) < (l.length : Int) := by omega
      obtain ⟨b, o, vx, rfl, hbb, hvx, hcx⟩ := h.at_ hlt
      have hol : pre.length ≤ 60 := by omega
      have HP : Hid (insAll ltI (l.take (k + 1)) = insr ltI pre vx) := by show _ = _; rw [take_snocI _ _ _ hvx, insFold_snoc, ← hpre]
      obtain rfl : pre.length = k := hpl
      have f0 : wo.cell? ⟨b, o + pre.length, none⟩ = some (.int .i64 vx) := (HB.out.cell (p := ⟨b, _, none⟩) hbb).trans hcx
      clear hpre hvx
      go_wp2_with fail
      refine (H1.out _ HB.out).mono ?_
      rw [K.out]
      rintro e w1 ⟨rfl, rfl⟩
      go_wp2_with (at_builtin; refine wpList_app1 rfl _ _ rfl w.heap.size A' c' pre rfl (ho.alloc _) wo.heap.size _ rfl (cell_new1 _ _ _) (by omega) (by (first | omega | (simp; omega))) ?_)
      intro A2 c2 w2 ho2 hg2
      have hb2 : Below w.heap.size w w2 := below_grown_own (HB.out.alloc hbs _) (ho.alloc _) hg2 (Nat.le_refl _) (by first | omega | (simp; omega))
      have hp0 : Hid (OwnI w2 w.heap.size A2 c2 (putAt pre vx pre.length)) := by
        show OwnI _ _ _ _ _
        rw [putAt_end]; exact ho2
      obtain ⟨g, hA2, hgb, hgl, _⟩ := ho2.set_ (k := pre.length) (by simp) 0
      subst hA2
      have HB2 := Lib.hid hb2
      clear ho2 hg2 ho hb2 hgl f0
      go_wp2_with fail
      go_loopw [5] (fun j wr => ∃ (p : Nat) (y : Int), p ≤ pre.length ∧ j = .int .i64 p ∧ Hid (posGo ltI pre vx p = posGo ltI pre vx pre.length) ∧ Hid (OwnI wr w.heap.size (some ⟨g, 0, none⟩) c2 (putAt pre y p)) ∧ Hid (Below w.heap.size w wr)) (fun j _ => (intOf j).toNat)
      case atStart => exact ⟨pre.length, _, Nat.le_refl _, rfl, rfl, hp0, HB2⟩
      case round =>
        obtain ⟨p, y, hp, rfl, HQ, HOp, HBp⟩ := hrel
        clear hp0 HB2
        have hLl : (putAt pre y p).length = pre.length + 1 := putAt_len _ _ _
        obtain ⟨g1, hg1, _, _, hf1, ⟨u1, hc1, _⟩, hs1, hw1⟩ := HOp.out.set_ (k := p) (by rw [hLl]; omega) vx
        obtain rfl : g = g1 := by simpa using hg1
        rw [putAt_set _ _ _ _ hp] at hs1
        have hBs := HBp.out.setCell (p := ⟨g, p, none⟩) hgb (.int .i64 vx)
        have HF := Lib.hid (And.intro hs1 hBs)
        have f1 : wr.cell? ⟨b, o + pre.length, none⟩ = some (.int .i64 vx) := (HBp.out.cell (p := ⟨b, _, none⟩) hbb).trans hcx
        have p0 : (0 : Int) ≤ (p : Int) := by omega
        have p1 : (p : Int) < (pre.length : Int) + 1 := by omega
        have z0 : (0 : Int) ≤ (pre.length : Int) := by omega
        clear hg1 hs1 hBs hLl
        cases p with
        | zero =>
          have d0 : decide ((0 : Nat) < 0) = false := rfl
          have HZ : Hid (putAt pre vx 0 = insr ltI pre vx) := insr_stop HQ.out (.inl rfl)
          go_wp2_with fail
          go_quiet (fail)
          go_wp2_with fail
          go_roundw
          case rel => exact ⟨pre.length + 1, some ⟨g, 0, none⟩, c2, by omega, by go_num, rfl, (by show OwnI _ _ _ _ _; rw [HP.out, ← HZ.out]; exact HF.out.1), (by show Below _ _ _; exact ⟨HF.out.2.os, HF.out.2.tape, HF.out.2.output, HF.out.2.size, HF.out.2.block⟩)⟩
          case measure => first | (simp [intOf]; done) | (simp [intOf]; omega)
        | succ q =>
          have hqp : q < pre.length := by omega
          have e2 : (putAt pre y (q + 1))[q]? = some (pre.getD q 0) := putAt_before _ _ _ hqp
          obtain ⟨yk, hyk⟩ : ∃ z, pre.getD q 0 = z := ⟨_, rfl⟩
          rw [hyk] at e2
          obtain ⟨g2, hg2, _, _, hf2, ⟨u2, hc2, hu2⟩, _, _⟩ := HOp.out.set_ (k := q) (by rw [putAt_len]; omega) (0 : Int)
          obtain rfl : g = g2 := by simpa using hg2
          rw [e2] at hu2
          obtain rfl : yk = u2 := Option.some.inj hu2
          obtain ⟨g3, hg3, _, _, _, _, hs3, hw3⟩ := HOp.out.set_ (k := q + 1) (by rw [putAt_len]; omega) yk
          obtain rfl : g = g3 := by simpa using hg3
          rw [← hyk, putAt_shift _ _ _ hqp, hyk] at hs3
          have hB3 := HBp.out.setCell (p := ⟨g, q + 1, none⟩) hgb (.int .i64 yk)
          have HH := Lib.hid (And.intro hyk (And.intro hs3 hB3))
          have j2 : IntKind.i64.wrap (((q + 1 : Nat) : Int) - 1) = (q : Int) := by
            rw [IntWalk.i64_in _ (by omega)]; omega
          have j3 : (0 : Int) ≤ (q : Int) := by omega
          have j4 : (q : Int) < (pre.length : Int) + 1 := by omega
          have j5 : decide ((0 : Int) < ((q + 1 : Nat) : Int)) = true := by first | (simp; done) | (simp; omega)
          have j6 : decide (0 < q + 1) = true := by simp
          clear e2 hu2 hs3 hw3 hB3 hg2 hg3
          by_cases hv : vx < yk
          · have HN : Hid (posGo ltI pre vx q = posGo ltI pre vx pre.length) := pos_next HQ.out (by rw [HH.out.1]; unfold ltI; simpa using hv)
            clear hyk
            go_wp2_with fail
            go_quiet (fail)
            go_wp2_with fail
            go_roundw
            case rel => exact ⟨q, _, by omega, by go_num, HN, HH.out.2.1, (by show Below _ _ _; exact ⟨HH.out.2.2.os, HH.out.2.2.tape, HH.out.2.2.output, HH.out.2.2.size, HH.out.2.2.block⟩)⟩
            case measure => first | (simp [intOf]; done) | (simp [intOf]; omega)
          · have HZ : Hid (putAt pre vx (q + 1) = insr ltI pre vx) := insr_stop HQ.out (.inr ⟨q, rfl, by rw [HH.out.1]; unfold ltI; simpa using hv⟩)
            clear hyk
            go_wp2_with fail
            go_quiet (fail)
            go_wp2_with fail
            go_roundw
            case rel => exact ⟨pre.length + 1, some ⟨g, 0, none⟩, c2, by omega, by go_num, rfl, (by show OwnI _ _ _ _ _; rw [HP.out, ← HZ.out]; exact HF.out.1), (by show Below _ _ _; exact ⟨HF.out.2.os, HF.out.2.tape, HF.out.2.output, HF.out.2.size, HF.out.2.block⟩)⟩
            case measure => first | (simp [intOf]; done) | (simp [intOf]; omega)
    · have hkl : ¬ (k : Int) < (l.length : Int) := by omega
      have hkn : k = l.length := by omega
      have HE : Hid (OwnI wo w.heap.size A' c' (sortedY l) ∧ (sortedY l).length = k) := ⟨by have := HO.out; rw [List.take_of_length_le (by omega)] at this; rw [E.out]; exact this, by rw [E.out, insAll_length, hkn]⟩
      clear hkn
      go_wp2_with fail
      go_ret
      exact ⟨A', c', (by rw [HE.out.2]; rfl), HE.out.1, HB.out⟩
set_option maxHeartbeats 1600000 in
theorem MiddleYear_any (A : Option Addr) (c : Nat) (l : List Int) (w : World) (h : RdI w w.heap.size A c l) :
    Calls Try.prog 40 #[.slice A l.length c] w fun e w' => e = .returned (.int .i64 (middleY l)) ∧ Below w.heap.size w w' := by
  obtain ⟨hl, hm⟩ := h.le
  have hB := Below.refl w.heap.size w
  have H1 : Hid (∀ W, Below w.heap.size w W → Calls Try.prog 52 #[.slice A l.length c] W fun e w' => e = .returned (.bool (yearsOk l)) ∧ W = w') := fun W hb => YearsOk_any A c l W (h.below hb)
  cases hy : yearsOk l
  · have E := Lib.hid (middleY_no hy)
    have K := Lib.hid hy
    clear hy
    go_enter Try.func40, Try.ntmps40
    go_wp2_with fail
    refine (H1.out _ (by repeat' (first | (with_reducible exact Below.refl _ _) | (with_reducible assumption) | (with_reducible refine Below.alloc ?_ ?_ _) | (with_reducible refine Below.setCell ?_ ?_ _) | (with_reducible refine Below.drew ?_) | (with_reducible refine below_drewN ?_ _) | (refine Below.trans ?_ (Below.mono (by with_reducible assumption) ?_)) | omega | (simp; done) | (simp; omega)))).mono ?_
    rw [K.out]
    rintro e w1 ⟨rfl, rfl⟩
    go_wp2_with fail
    go_ret
    exact ⟨ret_int E.out.symm, by repeat' (first | (with_reducible exact Below.refl _ _) | (with_reducible assumption) | (with_reducible refine Below.alloc ?_ ?_ _) | (with_reducible refine Below.setCell ?_ ?_ _) | (with_reducible refine Below.drew ?_) | (with_reducible refine below_drewN ?_ _) | (refine Below.trans ?_ (Below.mono (by with_reducible assumption) ?_)) | omega | (simp; done) | (simp; omega))⟩
  obtain ⟨x, hx, hmx, x0, x1⟩ := middleY_yes hy
  have hsl : (sortedY l).length = l.length := by rw [sortedY_yes hy, sort_len]
  have E := Lib.hid hmx
  have hyl := (yearsOk_iff hy).2
  have K := Lib.hid hy
  clear hy hmx
  go_enter Try.func40, Try.ntmps40
  go_wp2_with fail
  refine (H1.out _ hB).mono ?_
  rw [K.out]
  rintro e w1 ⟨rfl, rfl⟩
  go_wp2_with fail
  refine (SortedYears_any A c l w h).mono ?_
  rintro e w2 ⟨A1, c1, rfl, ho, hb⟩
  obtain ⟨g, hA, hgb, hgl, hfz, ⟨y, hy1, hy2⟩, _⟩ := ho.set_ (k := l.length / 2) (by omega) 0
  subst hA
  rw [hx] at hy2
  obtain rfl := Option.some.inj hy2
  have q0 : (0 : Int) ≤ ((l.length / 2 : Nat) : Int) := by omega
  have q1 : ((l.length / 2 : Nat) : Int) < (l.length : Int) := by omega
  have q2 : (l.length : Int).tdiv 2 = ((l.length / 2 : Nat) : Int) := by rw [Int.tdiv_eq_ediv_of_nonneg (by omega)]; omega
  rw [hsl]
  clear ho hx hB H1 hy2
  go_wp2_with fail
  go_ret
  exact ⟨ret_int E.out.symm, hb⟩
set_option maxHeartbeats 1600000 in
theorem MiddleYearS_any (A : Option Addr) (c : Nat) (l : List Int) (w : World) (h : RdI w w.heap.size A c l) :
    Calls Try.prog 39 #[.slice A l.length c] w fun e w' => e = .returned (.int .i64 (middleY l)) ∧ Below w.heap.size w w' := by
  obtain ⟨hl, hm⟩ := h.le
  have H1 := Lib.hid (SortedYearsS_any A c l w h)
  cases hy : yearsOk l
  · have E := Lib.hid (middleY_no hy)
    have hsl : (sortedY l).length = 0 := by rw [sortedY_no hy]; rfl
    clear hy
    go_enter Try.func39, Try.ntmps39
    go_wp2_with fail
    refine H1.out.mono ?_
    rintro e w2 ⟨A1, c1, rfl, ho, hb⟩
    rw [hsl]
    clear ho
    go_wp2_with fail
    go_ret
    exact ⟨ret_int E.out.symm, hb⟩
  obtain ⟨x, hx, hmx, x0, x1⟩ := middleY_yes hy
  have hsl : (sortedY l).length = l.length := by rw [sortedY_yes hy, sort_len]
  have E := Lib.hid hmx
  have hyl := (yearsOk_iff hy).2
  clear hy hmx
  go_enter Try.func39, Try.ntmps39
  go_wp2_with fail
  refine H1.out.mono ?_
  rintro e w2 ⟨A1, c1, rfl, ho, hb⟩
  obtain ⟨g, hA, hgb, hgl, hfz, ⟨y, hy1, hy2⟩, _⟩ := ho.set_ (k := l.length / 2) (by omega) 0
  subst hA
  rw [hx] at hy2
  obtain rfl := Option.some.inj hy2
  have q0 : (0 : Int) ≤ ((l.length / 2 : Nat) : Int) := by omega
  have q1 : ((l.length / 2 : Nat) : Int) < (l.length : Int) := by omega
  have q3 : ((l.length : Int) == 0) = false := by simp; intro e; subst e; simp at hyl
  rw [hsl]
  clear ho hx H1 hy2
  go_wp2_with fail
  go_ret
  exact ⟨ret_int E.out.symm, hb⟩
end Go.Proofs.Ytnedbdpcimhfgaa
