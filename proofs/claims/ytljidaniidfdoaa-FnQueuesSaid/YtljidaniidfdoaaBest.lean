/- BestQueue: the library's insertion sort with the program's comparison. -/
import Derived.Test.YtljidaniidfdoaaInsert
import Derived.Test.YtljidaniidfdoaaWait
import Derived.Test.YtljidaniidfdoaaMem
import Derived.Test.YtljidaniidfdoaaApp
import Derived.Test.YtljidaniidfdoaaNew
import Derived.Test.YtljidaniidfdoaaRow
import Derived.Test.YtljidaniidfdoaaTo
import Derived.IntWalk
import Derived.Deep.RegionHeld3
namespace Go.Proofs.Ytljidaniidfdoaa
open Go.RowKit
set_option maxRecDepth 20000
def ltT (l : List Int) (x y : Int) : Bool := decide (l.getD x.toNat 0 < l.getD y.toNat 0)
def bestQueue (l : List Int) : List Int := if queueOk l then insAll (ltT l) (upto l.length) else []
theorem bestQueue_len (l : List Int) : (bestQueue l).length ≤ l.length := by
  unfold bestQueue
  split
  · rw [insAll_length, upto_len]; exact Nat.le_refl _
  · simp
theorem getD_of {l : List Int} {k : Nat} {x : Int} (h : l[k]? = some x) : l.getD k 0 = x := by rw [List.getD_eq_getElem?_getD, h]; rfl
theorem ltT_of {l : List Int} {a b : Nat} {x y : Int} (hx : l[a]? = some x) (hy : l[b]? = some y) : ltT l a b = decide (x < y) := by
  unfold ltT
  rw [Int.toNat_natCast, Int.toNat_natCast, getD_of hx, getD_of hy]
theorem insr_stop {lt : Int → Int → Bool} {pre : List Int} {x : Int} {p : Nat} (h : posGo lt pre x p = posGo lt pre x pre.length) (h2 : p = 0 ∨ ∃ q, p = q + 1 ∧ lt x (pre.getD q 0) = false) : putAt pre x p = insr lt pre x := by
  unfold insr
  rw [← h]
  rcases h2 with rfl | ⟨q, rfl, h2⟩
  · rfl
  · rw [posGo_succ, h2, if_neg (by simp)]
theorem pos_next {lt : Int → Int → Bool} {pre : List Int} {x : Int} {q : Nat} (h : posGo lt pre x (q + 1) = posGo lt pre x pre.length) (h2 : lt x (pre.getD q 0) = true) : posGo lt pre x q = posGo lt pre x pre.length := by
  rw [← h, posGo_succ, if_pos h2]
theorem RdI.kept {w w' : World} {B g c : Nat} {A : Option Addr} {l : List Int} (h : RdI w B A c l) (hg : w.grownBy w' (some g)) (hB : B ≤ g) (hgl : g < w.heap.size) : RdI w' B A c l :=
  Rd.keep h fun p hp => World.cell?_of_block (hg.block _ (by omega) (fun e => by have := Option.some.inj e; omega))
set_option maxHeartbeats 800000 in
theorem cmpQ_any (A : Option Addr) (c : Nat) (l : List Int) (x y tb B : Nat) (W : World) (h : RdI W B A c l) (hc : W.cell? ⟨tb, 0, none⟩ = some (.slice A l.length c)) (hx : x < l.length) (hy : y < l.length) (hq : queueOk l = true) :
    Calls Try.prog 43 #[.int .i64 x, .int .i64 y, .pointer (some ⟨tb, 0, none⟩)] W fun e w' => e = .returned (.int .i64 (l.getD x 0 - l.getD y 0)) ∧ ∃ n, w' = W.drewN n := by
  obtain ⟨b, o, vx, rfl, hb, ex, hcx⟩ := h.at_ hx
  obtain ⟨b', o', vy, hA, hb', ey, hcy⟩ := h.at_ hy
  obtain ⟨rfl, rfl⟩ : b = b' ∧ o = o' := by simpa using hA
  have bx := allIn_mem (queueOk_iff hq).1 ex
  have by_ := allIn_mem (queueOk_iff hq).1 ey
  have hE : Hid (l.getD x 0 = vx ∧ l.getD y 0 = vy) := ⟨getD_of ex, getD_of ey⟩
  have hw : IntKind.i64.wrap (vx - vy) = vx - vy := IntWalk.i64_in _ (by omega)
  have x0 : (0 : Int) ≤ (x : Int) := by omega
  have x1 : (x : Int) < (l.length : Int) := by omega
  have y0 : (0 : Int) ≤ (y : Int) := by omega
  have y1 : (y : Int) < (l.length : Int) := by omega
  clear ex ey hq hA
  go_enter Try.func43, Try.ntmps43
  go_wp2_with fail
  go_quiet (fail)
  go_wp2_with fail
  go_ret
  exact ⟨ret_int (by rw [hE.out.1, hE.out.2]), _, rfl⟩
set_option maxHeartbeats 3200000 in
theorem insQ_any (A : Option Addr) (c : Nat) (l : List Int) (tb g cc base : Nat) (cur : List Int) (w : World) (ho : OwnI w base (some ⟨g, 0, none⟩) cc cur) (hgl : g < w.heap.size) (h : RdI w g A c l) (htb : tb < g) (hc : w.cell? ⟨tb, 0, none⟩ = some (.slice A l.length c)) (hq : queueOk l = true) (hr : ∀ x ∈ cur, ∃ k : Nat, x = (k : Int) ∧ k < l.length) (hlen : cur.length ≤ 1000) :
    Calls Try.prog 115 #[.slice (some ⟨g, 0, none⟩) cur.length cc, .int .i64 0, .int .i64 cur.length, .func (.func 43) #[] #[.pointer (some ⟨tb, 0, none⟩)]] w fun e w' => e = .returned (.tuple #[]) ∧ OwnI w' base (some ⟨g, 0, none⟩) cc (insAll (ltT l) cur) ∧ w.grownBy w' (some g) := by
  have hle := ho.le
  have H0 : Hid (OwnI w base (some ⟨g, 0, none⟩) cc (insAll (ltT l) (cur.take 1) ++ cur.drop 1)) := by
    have e : insAll (ltT l) (cur.take 1) ++ cur.drop 1 = cur := by
      cases cur with
      | nil => rfl
      | cons a t => rfl
    show OwnI _ _ _ _ _
    rw [e]; exact ho
  have HH := Lib.hid (And.intro h hc)
  clear ho h hc
  go_enter Try.func115, Try.ntmps115
  go_wp2_with fail
  go_loopw [8] (fun i wr => ∃ k : Nat, 1 ≤ k ∧ k ≤ cur.length + 1 ∧ i = .int .i64 k ∧ Hid (OwnI wr base (some ⟨g, 0, none⟩) cc (insAll (ltT l) (cur.take k) ++ cur.drop k)) ∧ Hid (w.grownBy wr (some g))) (fun i _ => cur.length + 1 - (intOf i).toNat)
  case atStart => exact ⟨1, Nat.le_refl _, by omega, rfl, H0, World.grownBy.refl _ _⟩
  case round =>
    obtain ⟨k, hk1, hk, rfl, HO, HG⟩ := hrel
    by_cases hlt : k < cur.length
    · have hx : cur[k]? = some cur[k] := List.getElem?_eq_getElem hlt
      obtain ⟨xk, hxk, hxl⟩ := hr _ (List.mem_of_getElem? hx)
      rw [hxk] at hx
      obtain ⟨pre, hpre⟩ : ∃ pre, pre = insAll (ltT l) (cur.take k) := ⟨_, rfl⟩
      have hpl : pre.length = k := by rw [hpre, insAll_length, List.length_take]; omega
      have hpr : ∀ y ∈ pre, ∃ j : Nat, y = (j : Int) ∧ j < l.length := fun y hy => by
        rw [hpre, insAll_mem] at hy
        exact hr y (List.mem_of_mem_take hy)
      have HP := Lib.hid (And.intro hpre hpr)
      have HX := Lib.hid hx
      have HS : Hid (OwnI wr base (some ⟨g, 0, none⟩) cc (putAt pre xk k ++ cur.drop (k + 1))) := by
        have e : putAt pre xk k ++ cur.drop (k + 1) = insAll (ltT l) (cur.take k) ++ cur.drop k := by
          rw [drop_cons hx]
          have := putAt_end pre (xk : Int)
          rw [hpl] at this
          rw [this, ← hpre, List.append_assoc]; rfl
        show OwnI _ _ _ _ _
        rw [e]; exact HO.out
      have hnx : Hid (insAll (ltT l) (cur.take (k + 1)) = insr (ltT l) pre xk) := by
        show _ = _
        rw [take_snocI _ _ _ hx, insFold_snoc, ← hpre]
      have hkc : (k : Int) < (cur.length : Int) := by omega
      clear hx hxk hpre hpr HO
      go_wp2_with fail
      obtain ⟨wo, rfl⟩ : ∃ wo : World, wo = wr := ⟨_, rfl⟩
      go_loopw [9] (fun j wr => ∃ p : Nat, p ≤ k ∧ j = .int .i64 p ∧ Hid (posGo (ltT l) pre xk p = posGo (ltT l) pre xk pre.length) ∧ Hid (OwnI wr base (some ⟨g, 0, none⟩) cc (putAt pre xk p ++ cur.drop (k + 1))) ∧ Hid (w.grownBy wr (some g))) (fun j _ => (intOf j).toNat)
      case atStart => exact ⟨k, Nat.le_refl _, rfl, (by rw [hpl]; rfl), HS, HG⟩
      case round =>
        obtain ⟨p, hp, rfl, HQ, HO, HGi⟩ := hrel
        clear HG HS
        cases p with
        | zero =>
          have d0 : decide ((0 : Nat) < 0) = false := rfl
          have HZ : Hid (putAt pre xk 0 = insr (ltT l) pre xk) := insr_stop HQ.out (.inl rfl)
          go_wp2_with fail
          go_quiet (fail)
          go_wp2_with fail
          go_roundw
          case rel => exact ⟨k + 1, by omega, by omega, by go_num, (by show OwnI _ _ _ _ _; rw [hnx.out, ← HZ.out]; exact HO.out), grownBy_drewN HGi.out _⟩
          case measure => simp [intOf]; omega
        | succ q =>
          have hL : (putAt pre xk (q + 1) ++ cur.drop (k + 1)).length = cur.length := by rw [List.length_append, putAt_len, List.length_drop]; omega
          have hqp : q < pre.length := by omega
          have e1 : (putAt pre xk (q + 1) ++ cur.drop (k + 1))[q + 1]? = some (xk : Int) := by
            rw [List.getElem?_append_left (by rw [putAt_len]; omega)]; exact putAt_get _ _ _ (by omega)
          have e2 : (putAt pre xk (q + 1) ++ cur.drop (k + 1))[q]? = some (pre.getD q 0) := by
            rw [List.getElem?_append_left (by rw [putAt_len]; omega)]; exact putAt_before _ _ _ hqp
          have hmem : pre.getD q 0 ∈ pre := by rw [List.getD_eq_getElem?_getD, List.getElem?_eq_getElem hqp]; exact List.getElem_mem hqp
          obtain ⟨yk, hyk, hyl⟩ := HP.out.2 _ hmem
          rw [hyk] at e2
          obtain ⟨g1, hg1, _, _, hf1, ⟨u1, hc1, hu1⟩, hs1, hw1⟩ := HO.out.set_ (k := q + 1) (by rw [hL]; omega) (yk : Int)
          obtain rfl : g = g1 := by simpa using hg1
          obtain ⟨g2, hg2, _, _, hf2, ⟨u2, hc2, hu2⟩, _, _⟩ := HO.out.set_ (k := q) (by rw [hL]; omega) (xk : Int)
          obtain rfl : g = g2 := by simpa using hg2
          obtain ⟨g3, hg3, _, _, _, _, hs3, hw3⟩ := hs1.set_ (k := q) (by rw [List.length_set, hL]; omega) (xk : Int)
          obtain rfl : g = g3 := by simpa using hg3
          rw [e1] at hu1
          rw [e2] at hu2
          obtain rfl : (xk : Int) = u1 := Option.some.inj hu1
          obtain rfl : (yk : Int) = u2 := Option.some.inj hu2
          have hsw : ((putAt pre (xk : Int) (q + 1) ++ cur.drop (k + 1)).set (q + 1) (yk : Int)).set q xk = putAt pre xk q ++ cur.drop (k + 1) := by
            rw [List.set_append_left _ _ (by rw [putAt_len]; omega), List.set_append_left _ _ (by rw [List.length_set, putAt_len]; omega), ← hyk, putAt_swap _ _ _ hqp]
          rw [hsw] at hs3
          have hbx : ∃ vx, l[xk]? = some vx := ⟨_, List.getElem?_eq_getElem hxl⟩
          have hby : ∃ vy, l[yk]? = some vy := ⟨_, List.getElem?_eq_getElem hyl⟩
          obtain ⟨vx, hvx⟩ := hbx
          obtain ⟨vy, hvy⟩ := hby
          have hltv := ltT_of hvx hvy
          have hcm : Hid (∀ nd, Calls Try.prog 43 #[.int .i64 xk, .int .i64 yk, .pointer (some ⟨tb, 0, none⟩)] (wr.drewN nd) fun e w' => e = .returned (.int .i64 (vx - vy)) ∧ ∃ n, w' = (wr.drewN nd).drewN n) := fun nd => by
            have := cmpQ_any A c l xk yk tb g (wr.drewN nd) (Rd.keep (HH.out.1.kept HGi.out (Nat.le_refl _) hgl) (fun _ _ => rfl)) ((World.cell?_of_block (w := w) (w' := wr) (a := ⟨tb, 0, none⟩) (HGi.out.block _ (by show tb < _; omega) (fun e => by have h9 : tb = g := Option.some.inj e; omega))).trans HH.out.2) hxl hyl hq
            rw [getD_of hvx, getD_of hvy] at this
            exact this
          have hgw : w.grownBy ((wr.setCell ⟨g, q + 1, none⟩ (.int .i64 yk)).setCell ⟨g, q, none⟩ (.int .i64 xk)) (some g) := grownBy_trans HGi.out (grownBy_trans hw1 hw3)
          have HW := Lib.hid (And.intro hs3 hgw)
          have HV := Lib.hid (And.intro hyk (And.intro hvx hvy))
          have j0 : (0 : Int) ≤ ((q + 1 : Nat) : Int) := by omega
          have j1 : ((q + 1 : Nat) : Int) < (cur.length : Int) := by omega
          have j2 : IntKind.i64.wrap (((q + 1 : Nat) : Int) - 1) = (q : Int) := by
            rw [IntWalk.i64_in _ (by omega)]; omega
          have j3 : (0 : Int) ≤ (q : Int) := by omega
          have j4 : (q : Int) < (cur.length : Int) := by omega
          have j5 : decide ((0 : Int) < ((q + 1 : Nat) : Int)) = true := by first | (simp; done) | (simp; omega)
          have j6 : decide (0 < q + 1) = true := by simp
          clear e1 e2 hmem hyk hu1 hu2 hs1 hs3 hw1 hw3 hgw hsw hg1 hg2 hg3 hL hvx hvy
          by_cases hv : vx < vy
          · have hv' : vx - vy < 0 := by omega
            have HN : Hid (posGo (ltT l) pre xk q = posGo (ltT l) pre xk pre.length) := pos_next HQ.out (by rw [HV.out.1, hltv]; simpa using hv)
            clear hltv hv
            go_wp2_with fail
            go_quiet ((go_at_call 43; exact Calls.quiet_of (hcm.out _)))
            go_wp2_with fail
            go_region
            go_wp2_with fail
            go_roundw
            case rel => exact ⟨q, by omega, by go_num, HN, HW.out.1, (by show World.grownBy _ _ _; exact ⟨HW.out.2.os, HW.out.2.tape, HW.out.2.output, HW.out.2.size, HW.out.2.block⟩)⟩
            case measure => first | (simp [intOf]; done) | (simp [intOf]; omega)
          · have hv' : ¬ vx - vy < 0 := by omega
            have HZ : Hid (putAt pre xk (q + 1) = insr (ltT l) pre xk) := insr_stop HQ.out (.inr ⟨q, rfl, by rw [HV.out.1, hltv]; simpa using hv⟩)
            clear hltv hv
            go_wp2_with fail
            go_quiet ((go_at_call 43; exact Calls.quiet_of (hcm.out _)))
            go_wp2_with fail
            go_roundw
            case rel => exact ⟨k + 1, by omega, by omega, by go_num, (by show OwnI _ _ _ _ _; rw [hnx.out, ← HZ.out]; exact HO.out), grownBy_drewN HGi.out _⟩
            case measure => simp [intOf]; omega
    · have hkc : ¬ (k : Int) < (cur.length : Int) := by omega
      have HZ : Hid (OwnI wr base (some ⟨g, 0, none⟩) cc (insAll (ltT l) cur)) := by
        have := HO.out
        rw [List.take_of_length_le (by omega), List.drop_of_length_le (by omega), List.append_nil] at this
        exact this
      go_wp2_with fail
      go_end0
      exact ⟨rfl, HZ.out, HG.out⟩
theorem stableQ_any (A : Option Addr) (c : Nat) (l : List Int) (tb g cc base : Nat) (cur : List Int) (w : World) (ho : OwnI w base (some ⟨g, 0, none⟩) cc cur) (hgl : g < w.heap.size) (h : RdI w g A c l) (htb : tb < g) (hc : w.cell? ⟨tb, 0, none⟩ = some (.slice A l.length c)) (hq : queueOk l = true) (hr : ∀ x ∈ cur, ∃ k : Nat, x = (k : Int) ∧ k < l.length) (hlen : cur.length ≤ 12) :
    Calls Try.prog 77 #[.slice (some ⟨g, 0, none⟩) cur.length cc, .int .i64 cur.length, .func (.func 43) #[] #[.pointer (some ⟨tb, 0, none⟩)]] w fun e w' => e = .returned (.tuple #[]) ∧ OwnI w' base (some ⟨g, 0, none⟩) cc (insAll (ltT l) cur) ∧ w.grownBy w' (some g) := by
  have H1 := Lib.hid (insQ_any A c l tb g cc base cur w ho hgl h htb hc hq hr (by omega))
  have g1 : ¬ (20 : Int) ≤ (cur.length : Int) := by omega
  have g2 : ¬ (20 : Int) < (cur.length : Int) := by omega
  clear ho h hc
  go_enter Try.func77, Try.ntmps77
  go_wp2_with fail
  refine wp_loop_rounds 1 ?_
  rw [rounds_succ]
  go_wp2_with fail
  refine H1.out.mono ?_
  rintro e w1 ⟨rfl, ho, hg⟩
  have H2 := Lib.hid (And.intro ho hg)
  clear ho hg
  go_wp2_with fail
  refine wp_loop_rounds 1 ?_
  rw [rounds_succ]
  go_wp2_with fail
  go_end0
  exact ⟨rfl, H2.out.1, H2.out.2⟩
theorem sortQ_any (A : Option Addr) (c : Nat) (l : List Int) (tb g cc base : Nat) (cur : List Int) (w : World) (ho : OwnI w base (some ⟨g, 0, none⟩) cc cur) (hgl : g < w.heap.size) (h : RdI w g A c l) (htb : tb < g) (hc : w.cell? ⟨tb, 0, none⟩ = some (.slice A l.length c)) (hq : queueOk l = true) (hr : ∀ x ∈ cur, ∃ k : Nat, x = (k : Int) ∧ k < l.length) (hlen : cur.length ≤ 12) :
    Calls Try.prog 42 #[.slice (some ⟨g, 0, none⟩) cur.length cc, .func (.func 43) #[] #[.pointer (some ⟨tb, 0, none⟩)]] w fun e w' => e = .returned (.tuple #[]) ∧ OwnI w' base (some ⟨g, 0, none⟩) cc (insAll (ltT l) cur) ∧ w.grownBy w' (some g) := by
  have H1 := Lib.hid (stableQ_any A c l tb g cc base cur w ho hgl h htb hc hq hr hlen)
  have hle := ho.le
  clear ho h hc
  go_enter Try.func42, Try.ntmps42
  go_wp2_with fail
  refine H1.out.mono ?_
  rintro e w1 ⟨rfl, ho, hg⟩
  have H2 := Lib.hid (And.intro ho hg)
  clear ho hg
  go_wp2_with fail
  go_end0
  exact ⟨rfl, H2.out.1, H2.out.2⟩
def tkU (n k : Nat) : List Int := upto k ++ List.replicate (n - k) 0
theorem tkU_len (n k : Nat) (h : k ≤ n) : (tkU n k).length = n := by unfold tkU; rw [List.length_append, upto_len, List.length_replicate]; omega
theorem tkU_succ (n k : Nat) (h : k < n) : (tkU n k).set k (k : Int) = tkU n (k + 1) := by
  unfold tkU
  rw [List.set_append_right _ _ (by rw [upto_len]; exact Nat.le_refl _), upto_len, Nat.sub_self, upto_succ]
  have e : n - k = (n - (k + 1)) + 1 := by omega
  rw [e, List.replicate_succ, List.set_cons_zero, List.append_assoc]; rfl
theorem tkU_all (n : Nat) : tkU n n = upto n := by unfold tkU; simp
set_option maxHeartbeats 1600000 in
theorem BestQueue_any (A : Option Addr) (c : Nat) (l : List Int) (w : World) (h : RdI w w.heap.size A c l) :
    Calls Try.prog 10 #[.slice A l.length c] w fun e w' => ∃ A' c', e = .returned (.slice A' (bestQueue l).length c') ∧ OwnI w' w.heap.size A' c' (bestQueue l) ∧ Below w.heap.size w w' := by
  obtain ⟨hl, hm⟩ := h.le
  have hB := Below.refl w.heap.size w
  have H1 : Hid (∀ W, Below w.heap.size w W → Calls Try.prog 15 #[.slice A l.length c] W fun e w' => e = .returned (.bool (queueOk l)) ∧ W = w') := fun W hb => QueueOk_any A c l W (h.below hb)
  cases hq : queueOk l
  · have E : Hid (bestQueue l = []) := by show _ = _; unfold bestQueue; rw [hq]; rfl
    have K := Lib.hid hq
    clear hq
    go_enter Try.func10, Try.ntmps10
    go_wp2_with fail
    refine (H1.out _ (by repeat' (first | (with_reducible exact Below.refl _ _) | (with_reducible assumption) | (with_reducible refine Below.alloc ?_ ?_ _) | (with_reducible refine Below.setCell ?_ ?_ _) | (with_reducible refine Below.drew ?_) | (with_reducible refine below_drewN ?_ _) | (refine Below.trans ?_ (Below.mono (by with_reducible assumption) ?_)) | omega | (simp; done) | (simp; omega)))).mono ?_
    rw [K.out]
    rintro e w1 ⟨rfl, rfl⟩
    go_wp2_with fail
    go_ret
    rw [E.out]
    exact ⟨none, 0, rfl, own_nil _ _, by repeat' (first | (with_reducible exact Below.refl _ _) | (with_reducible assumption) | (with_reducible refine Below.alloc ?_ ?_ _) | (with_reducible refine Below.setCell ?_ ?_ _) | (with_reducible refine Below.drew ?_) | (with_reducible refine below_drewN ?_ _) | (refine Below.trans ?_ (Below.mono (by with_reducible assumption) ?_)) | omega | (simp; done) | (simp; omega))⟩
  have E : Hid (bestQueue l = insAll (ltT l) (upto l.length)) := by show _ = _; unfold bestQueue; rw [hq, if_pos rfl]
  have h12 := (queueOk_iff hq).2
  have K := Lib.hid hq
  clear hq
  obtain ⟨i0, hi, hz0, hz1, hz2⟩ := info_parts infoI
  go_enter Try.func10, Try.ntmps10
  go_wp2_with fail
  first | refine name_world ?_ | refine name_wp ?_
  intro W1 hW
  replace hB : Below w.heap.size w W1 := by rw [hW]; repeat' (first | (with_reducible exact Below.refl _ _) | (with_reducible assumption) | (with_reducible refine Below.alloc ?_ ?_ _) | (with_reducible refine Below.setCell ?_ ?_ _) | (with_reducible refine Below.drew ?_) | (with_reducible refine below_drewN ?_ _) | (refine Below.trans ?_ (Below.mono (by with_reducible assumption) ?_)) | omega | (simp; done) | (simp; omega))
  have hz_W1 : w.heap.size ≤ W1.heap.size := by rw [hW]; first | (simp; done) | (simp; omega)
  replace kb_p : Blk W1 (w.heap.size) 24 #[.slice A l.length c] := by rw [hW]; repeat' (first | (with_reducible assumption) | (with_reducible refine Blk.drew ?_) | (with_reducible refine Blk.drewN ?_ _) | (with_reducible refine Blk.new' _ _ _ _ ?_; (first | rfl | omega | (simp; done))) | (with_reducible exact Blk.new _ _ _) | (with_reducible refine Blk.alloc ?_ _) | (with_reducible apply Blk.set8) | (with_reducible apply Blk.set7of8) | (with_reducible apply Blk.setlast8) | (with_reducible apply Blk.set7) | (with_reducible apply Blk.set2) | (with_reducible apply Blk.set3) | (with_reducible refine Blk.far ?_ ?_ _) | (simp; done) | (simp; omega) | (dsimp only; omega))
  have hLW1_p := kb_p.lt
  try clear kc_p kf_p
  clear hW
  refine (H1.out _ hB).mono ?_
  rw [K.out]
  rintro e w1 ⟨rfl, rfl⟩
  have kc_p := kb_p.cells
  have kf_p := kb_p.frozens
  have hn_p := Nat.ne_of_lt kb_p.lt
  go_wp2_with (at_make; refine wpList_make_full _ rfl _ _ 24 rfl W1.heap.size 3 i0 (.int .i64 0) 1 Try.underlying24 hi hz0 hz1 _ _ _ _ l.length rfl rfl rfl rfl (by rw [hz2]; omega) (by unfold maxLen; omega) (Nat.le_refl _) ?_)
  intro w2 hown hg
  have hb2 : Below W1.heap.size W1 w2 := (Below.refl _ _).grown hg (Nat.le_refl _) (by simp)
  have ho : OwnI w2 W1.heap.size (some ⟨W1.heap.size, 0, none⟩) l.length (tkU l.length 0) := by
    unfold OwnI; rw [madeI l.length] at hown; simpa [tkU, upto] using hown
  replace kb_p := Blk.below kb_p hb2 hLW1_p
  replace hB := hB.trans (Below.mono hb2 hB.size)
  have hz2' := hb2.size
  have H0 := Lib.hid (And.intro kb_p (And.intro ho hB))
  have hgs : W1.heap.size < w2.heap.size := by
    have := H0.out.2.1.rd
    rcases Nat.lt_or_ge W1.heap.size w2.heap.size with h1 | h1
    · exact h1
    · exfalso
      rcases hown.2 with ⟨h3, _⟩ | ⟨b, cap, cur, hv, hgg, hh, _⟩
      · cases h3
      · injection hv with e1; injection e1 with e1; injection e1 with e1; subst e1
        have := (Array.getElem?_eq_some_iff.1 hh).1; omega
  clear kb_p ho hB hown hg hb2 kc_p kf_p hn_p hi hz0 hz1 hz2
  go_wp2_with fail
  go_loopw [13] (fun i wr => ∃ k : Nat, k ≤ l.length ∧ i = .int .i64 k ∧ Hid (Blk wr w.heap.size 24 #[.slice A l.length c] ∧ OwnI wr W1.heap.size (some ⟨W1.heap.size, 0, none⟩) l.length (tkU l.length k) ∧ Below w.heap.size w wr ∧ W1.heap.size < wr.heap.size)) (fun i _ => l.length - (intOf i).toNat)
  case atStart => exact ⟨0, Nat.zero_le _, rfl, H0.out.1, H0.out.2.1, H0.out.2.2, hgs⟩
  case round =>
    obtain ⟨k, hk, rfl, HR⟩ := hrel
    by_cases hlt : k < l.length
    · obtain ⟨g, hg, hg1, hg2, hfz, ⟨x, hx, hmx⟩, ho3, _⟩ := HR.out.2.1.set_ (k := k) (by rw [tkU_len _ _ hk]; exact hlt) (k : Int)
      obtain rfl : g = W1.heap.size := by simpa using hg.symm
      rw [tkU_succ _ _ hlt] at ho3
      have HN := Lib.hid ho3
      have k0 : (0 : Int) ≤ (k : Int) := by omega
      have k1 : (k : Int) < (l.length : Int) := by omega
      clear hg ho3 hmx
      go_wp2_with fail
      go_roundw
      case rel => exact ⟨k + 1, by omega, by go_num, HR.out.1.far (by show w.heap.size ≠ W1.heap.size; omega) _, HN.out, HR.out.2.2.1.setCell (by show w.heap.size ≤ W1.heap.size; omega) _, by first | exact hg2 | (simp; exact hg2)⟩
      case measure => simp [intOf]; omega
    · have hkn : k = l.length := by omega
      subst hkn
      have ho := HR.out.2.1
      rw [tkU_all] at ho
      have kb_p := HR.out.1
      have hB := HR.out.2.2.1
      have hgl := HR.out.2.2.2
      have kc_p := kb_p.cells
      have HS := Lib.hid (sortQ_any A c l w.heap.size W1.heap.size l.length W1.heap.size (upto l.length) wr ho hgl (Rd.more (Rd.keep h (fun p hp => hB.cell hp)) (by omega)) (by omega) (by rw [kc_p]; rfl) K.out (fun x hx => upto_mem hx) (by rw [upto_len]; exact h12))
      rw [upto_len] at HS
      have HB := Lib.hid hB
      clear ho kb_p hB kc_p
      go_wp2_with fail
      refine HS.out.mono ?_
      rintro e w4 ⟨rfl, ho4, hg4⟩
      have hB4 : Below w.heap.size w w4 := HB.out.grown hg4 HB.out.size (fun k hk => by have h9 : W1.heap.size = k := Option.some.inj hk; omega)
      have H4 := Lib.hid (And.intro ho4 hB4)
      clear ho4 hg4 hB4
      go_wp2_with fail
      go_ret
      have hlen : (insAll (ltT l) (upto l.length)).length = l.length := by rw [insAll_length, upto_len]
      rw [E.out]
      refine ⟨some ⟨W1.heap.size, 0, none⟩, l.length, (by rw [hlen]; rfl), ?_, H4.out.2⟩
      exact own_mono' H4.out.1 (by omega)
end Go.Proofs.Ytljidaniidfdoaa
