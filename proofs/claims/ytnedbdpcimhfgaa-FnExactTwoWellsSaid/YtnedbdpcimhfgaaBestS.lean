/- BestQueue of the reference. -/
import Derived.Test.YtnedbdpcimhfgaaBest
namespace Go.Proofs.Ytnedbdpcimhfgaa
open Go.RowKit
set_option maxRecDepth 20000
theorem insU_succ (lt : Int → Int → Bool) (k : Nat) : insAll lt (upto (k + 1)) = insr lt (insAll lt (upto k)) k := by rw [upto_succ, insFold_snoc]
theorem insU_len (lt : Int → Int → Bool) (k : Nat) : (insAll lt (upto k)).length = k := by rw [insAll_length, upto_len]
set_option maxHeartbeats 3200000 in
theorem BestQueueS_any (A : Option Addr) (c : Nat) (l : List Int) (w : World) (h : RdI w w.heap.size A c l) :
    Calls Try.prog 67 #[.slice A l.length c] w fun e w' => ∃ A' c', e = .returned (.slice A' (bestQueue l).length c') ∧ OwnI w' w.heap.size A' c' (bestQueue l) ∧ Below w.heap.size w w' := by
  obtain ⟨hl, hm⟩ := h.le
  have hb1 : Below w.heap.size w (w.alloc (.cells #[] 3)) := (Below.refl _ _).alloc (Nat.le_refl _) _
  have ho1 : OwnI (w.alloc (.cells #[] 3)) w.heap.size (some ⟨w.heap.size, 0, none⟩) 0 [] := World.ownsRow_made w #[] 0 (Nat.le_refl _) (by unfold maxLen; omega) (by simp)
  have H0 := Lib.hid (And.intro hb1 ho1)
  clear hb1 ho1
  have H1 : Hid (∀ W, Below w.heap.size w W → Calls Try.prog 66 #[.slice A l.length c] W fun e w' => e = .returned (.bool (queueOk l)) ∧ W = w') := fun W hb => QueueOkS_any A c l W (h.below hb)
  cases hq : queueOk l
  · have E : Hid (bestQueue l = []) := by show _ = _; unfold bestQueue; rw [hq]; rfl
    have K := Lib.hid hq
    clear hq
    by_cases h0 : (0 : Int) < l.length
    · go_enter Try.func67, Try.ntmps67
      go_wp2_with fail
      refine wp_loop_rounds 1 ?_
      rw [rounds_succ]
      go_wp2_with fail
      refine (H1.out _ H0.out.1).mono ?_
      rw [K.out]
      rintro e w1 ⟨rfl, rfl⟩
      go_wp2_with fail
      go_ret
      rw [E.out]
      exact ⟨_, _, rfl, H0.out.2, H0.out.1⟩
    · go_enter Try.func67, Try.ntmps67
      go_wp2_with fail
      refine wp_loop_rounds 1 ?_
      rw [rounds_succ]
      go_wp2_with fail
      go_ret
      rw [E.out]
      exact ⟨_, _, rfl, H0.out.2, H0.out.1⟩
  have E : Hid (bestQueue l = insAll (ltT l) (upto l.length)) := by show _ = _; unfold bestQueue; rw [hq, if_pos rfl]
  have h12 := (queueOk_iff hq).2
  have K := Lib.hid hq
  clear hq
  go_enter Try.func67, Try.ntmps67
  go_wp2_with fail
  go_loopw [3, 4] (fun v i wr => ∃ (k : Nat) (A' : Option Addr) (c' : Nat), k ≤ l.length ∧ i = .int .i64 k ∧ v = .slice A' k c' ∧ Hid (OwnI wr w.heap.size A' c' (insAll (ltT l) (upto k))) ∧ Hid (Below w.heap.size w wr)) (fun _ i _ => l.length - (intOf i).toNat)
  case atStart => exact ⟨0, some ⟨w.heap.size, 0, none⟩, 0, Nat.zero_le _, rfl, rfl, H0.out.2, H0.out.1⟩
  case round =>
    obtain ⟨k, A', c', hk, rfl, rfl, HO, HB⟩ := hrel
    obtain ⟨wo, rfl⟩ : ∃ wo : World, wo = wr := ⟨_, rfl⟩
    by_cases hlt : k < l.length
    · obtain ⟨pre, hpre⟩ : ∃ pre, pre = insAll (ltT l) (upto k) := ⟨_, rfl⟩
      have hpl : pre.length = k := by rw [hpre, insU_len]
      have hpr : ∀ y ∈ pre, ∃ j : Nat, y = (j : Int) ∧ j < l.length := fun y hy => by
        rw [hpre, insAll_mem] at hy
        obtain ⟨j, h1, h2⟩ := upto_mem hy
        exact ⟨j, h1, by omega⟩
      have ho : OwnI wo w.heap.size A' c' pre := by rw [hpre]; exact HO.out
      have HP := Lib.hid (And.intro hpre hpr)
      have hbs := HB.out.size
      have hkl : (k : Int) < (l.length : Int) := by omega
      obtain ⟨b, o, vx, rfl, hbb, hvx, hcx⟩ := h.at_ hlt
      have hol : pre.length ≤ 12 := by omega
      obtain rfl : pre.length = k := hpl
      clear hpre hpr
      go_wp2_with fail
      refine (H1.out _ HB.out).mono ?_
      rw [K.out]
      rintro e w1 ⟨rfl, rfl⟩
      go_wp2_with (at_builtin; refine wpList_app1 rfl _ _ rfl w.heap.size A' c' pre rfl (ho.alloc _) wo.heap.size _ rfl (cell_new1 _ _ _) (by omega) (by (first | omega | (simp; omega))) ?_)
      intro A2 c2 w2 ho2 hg2
      have hb2 : Below w.heap.size w w2 := below_grown_own (HB.out.alloc hbs _) (ho.alloc _) hg2 (Nat.le_refl _) (by first | omega | (simp; omega))
      have hp0 : Hid (OwnI w2 w.heap.size A2 c2 (putAt pre pre.length pre.length)) := by
        show OwnI _ _ _ _ _
        rw [putAt_end]; exact ho2
      obtain ⟨g, hA2, hgb, hgl, _⟩ := ho2.set_ (k := pre.length) (by simp) 0
      subst hA2
      have HB2 := Lib.hid hb2
      clear ho2 hg2 ho hb2 hgl
      go_wp2_with fail
      go_loopw [5] (fun j wr => ∃ (p : Nat) (y : Int), p ≤ pre.length ∧ j = .int .i64 p ∧ Hid (posGo (ltT l) pre pre.length p = posGo (ltT l) pre pre.length pre.length) ∧ Hid (OwnI wr w.heap.size (some ⟨g, 0, none⟩) c2 (putAt pre y p)) ∧ Hid (Below w.heap.size w wr)) (fun j _ => (intOf j).toNat)
      case atStart => exact ⟨pre.length, _, Nat.le_refl _, rfl, rfl, hp0, HB2⟩
      case round =>
        obtain ⟨p, y, hp, rfl, HQ, HOp, HBp⟩ := hrel
        clear hp0 HB2
        have hLl : (putAt pre y p).length = pre.length + 1 := putAt_len _ _ _
        obtain ⟨g1, hg1, _, _, hf1, ⟨u1, hc1, _⟩, hs1, hw1⟩ := HOp.out.set_ (k := p) (by rw [hLl]; omega) (pre.length : Int)
        obtain rfl : g = g1 := by simpa using hg1
        rw [putAt_set _ _ _ _ hp] at hs1
        have hBs := HBp.out.setCell (p := ⟨g, p, none⟩) hgb (.int .i64 (pre.length : Int))
        have HF := Lib.hid (And.intro hs1 hBs)
        have f1 : wr.cell? ⟨b, o + pre.length, none⟩ = some (.int .i64 vx) := (HBp.out.cell (p := ⟨b, _, none⟩) hbb).trans hcx
        have p0 : (0 : Int) ≤ (p : Int) := by omega
        have p1 : (p : Int) < (pre.length : Int) + 1 := by omega
        have z0 : (0 : Int) ≤ (pre.length : Int) := by omega
        clear hg1 hs1 hBs hLl
        cases p with
        | zero =>
          have d0 : decide ((0 : Nat) < 0) = false := rfl
          have HZ : Hid (putAt pre pre.length 0 = insr (ltT l) pre pre.length) := insr_stop HQ.out (.inl rfl)
          go_wp2_with fail
          go_quiet (fail)
          go_wp2_with fail
          go_roundw
          case rel => exact ⟨pre.length + 1, some ⟨g, 0, none⟩, c2, by omega, by go_num, rfl, (by show OwnI _ _ _ _ _; rw [insU_succ, ← HP.out.1, ← HZ.out]; exact HF.out.1), (by show Below _ _ _; exact ⟨HF.out.2.os, HF.out.2.tape, HF.out.2.output, HF.out.2.size, HF.out.2.block⟩)⟩
          case measure => first | (simp [intOf]; done) | (simp [intOf]; omega)
        | succ q =>
          have hqp : q < pre.length := by omega
          have e2 : (putAt pre y (q + 1))[q]? = some (pre.getD q 0) := putAt_before _ _ _ hqp
          have hmem : pre.getD q 0 ∈ pre := by rw [List.getD_eq_getElem?_getD, List.getElem?_eq_getElem hqp]; exact List.getElem_mem hqp
          obtain ⟨yk, hyk, hyl⟩ := HP.out.2 _ hmem
          rw [hyk] at e2
          obtain ⟨g2, hg2, _, _, hf2, ⟨u2, hc2, hu2⟩, _, _⟩ := HOp.out.set_ (k := q) (by rw [putAt_len]; omega) (0 : Int)
          obtain rfl : g = g2 := by simpa using hg2
          rw [e2] at hu2
          obtain rfl : (yk : Int) = u2 := Option.some.inj hu2
          obtain ⟨g3, hg3, _, _, _, _, hs3, hw3⟩ := HOp.out.set_ (k := q + 1) (by rw [putAt_len]; omega) (yk : Int)
          obtain rfl : g = g3 := by simpa using hg3
          rw [← hyk, putAt_shift _ _ _ hqp, hyk] at hs3
          have hB3 := HBp.out.setCell (p := ⟨g, q + 1, none⟩) hgb (.int .i64 (yk : Int))
          obtain ⟨b', o', vy, hA', hbb', hvy, hcy⟩ := h.at_ hyl
          obtain ⟨rfl, rfl⟩ : b = b' ∧ o = o' := by simpa using hA'
          have f2 : wr.cell? ⟨b, o + yk, none⟩ = some (.int .i64 vy) := (HBp.out.cell (p := ⟨b, _, none⟩) hbb).trans hcy
          have hltv := ltT_of hvx hvy
          have HH := Lib.hid (And.intro hyk (And.intro hs3 hB3))
          have y0 : (0 : Int) ≤ (yk : Int) := by omega
          have y1 : (yk : Int) < (l.length : Int) := by omega
          have j2 : IntKind.i64.wrap (((q + 1 : Nat) : Int) - 1) = (q : Int) := by
            rw [IntWalk.i64_in _ (by omega)]; omega
          have j3 : (0 : Int) ≤ (q : Int) := by omega
          have j4 : (q : Int) < (pre.length : Int) + 1 := by omega
          have j5 : decide ((0 : Int) < ((q + 1 : Nat) : Int)) = true := by first | (simp; done) | (simp; omega)
          have j6 : decide (0 < q + 1) = true := by simp
          clear e2 hmem hu2 hs3 hw3 hB3 hg2 hg3 hA' hvy
          by_cases hv : vx < vy
          · have HN : Hid (posGo (ltT l) pre pre.length q = posGo (ltT l) pre pre.length pre.length) := pos_next HQ.out (by rw [HH.out.1, hltv]; simpa using hv)
            clear hltv hyk
            go_wp2_with fail
            go_quiet (fail)
            go_wp2_with fail
            go_roundw
            case rel => exact ⟨q, _, by omega, by go_num, HN, HH.out.2.1, (by show Below _ _ _; exact ⟨HH.out.2.2.os, HH.out.2.2.tape, HH.out.2.2.output, HH.out.2.2.size, HH.out.2.2.block⟩)⟩
            case measure => first | (simp [intOf]; done) | (simp [intOf]; omega)
          · have HZ : Hid (putAt pre pre.length (q + 1) = insr (ltT l) pre pre.length) := insr_stop HQ.out (.inr ⟨q, rfl, by rw [HH.out.1, hltv]; simpa using hv⟩)
            clear hltv hyk
            go_wp2_with fail
            go_quiet (fail)
            go_wp2_with fail
            go_roundw
            case rel => exact ⟨pre.length + 1, some ⟨g, 0, none⟩, c2, by omega, by go_num, rfl, (by show OwnI _ _ _ _ _; rw [insU_succ, ← HP.out.1, ← HZ.out]; exact HF.out.1), (by show Below _ _ _; exact ⟨HF.out.2.os, HF.out.2.tape, HF.out.2.output, HF.out.2.size, HF.out.2.block⟩)⟩
            case measure => first | (simp [intOf]; done) | (simp [intOf]; omega)
    · have hkl : ¬ (k : Int) < (l.length : Int) := by omega
      have hkn : k = l.length := by omega
      have HE : Hid (OwnI wo w.heap.size A' c' (bestQueue l) ∧ (bestQueue l).length = k) := ⟨by rw [E.out, ← hkn]; exact HO.out, by rw [E.out, ← hkn, insU_len]⟩
      clear hkn
      go_wp2_with fail
      go_ret
      exact ⟨A', c', (by rw [HE.out.2]; rfl), HE.out.1, HB.out⟩
end Go.Proofs.Ytnedbdpcimhfgaa
