/- The library's insertion sort with SharedReserve's comparison. -/
import Derived.Test.YtonlfkofiljboaaBest
import Derived.Test.YtonlfkofiljboaaCheap
import Derived.Test.YtonlfkofiljboaaRow
namespace Go.Proofs.Ytonlfkofiljboaa
open Go.RowKit
set_option maxRecDepth 20000
/-- The reserves, and the reserves below nought. -/
def rsv (l : List T3) : List Int := l.map T3.z
def mns (l : List T3) : List Int := l.map fun t => -t.z
theorem rsv_len (l : List T3) : (rsv l).length = l.length := by simp [rsv]
theorem mns_len (l : List T3) : (mns l).length = l.length := by simp [mns]
theorem rsv_get {l : List T3} {k : Nat} {t : T3} (h : l[k]? = some t) : (rsv l)[k]? = some t.z := by unfold rsv; rw [List.getElem?_map, h]; rfl
theorem mns_get {l : List T3} {k : Nat} {t : T3} (h : l[k]? = some t) : (mns l)[k]? = some (-t.z) := by unfold mns; rw [List.getElem?_map, h]; rfl
theorem mns_getD (l : List T3) (k : Nat) : (mns l).getD k 0 = -(rsv l).getD k 0 := by
  rw [List.getD_eq_getElem?_getD, List.getD_eq_getElem?_getD]
  unfold mns rsv
  rw [List.getElem?_map, List.getElem?_map]
  cases l[k]? <;> simp
theorem lt_mns (l : List T3) : ltT (mns l) = ltR (rsv l) := by
  funext x y
  unfold ltT ltR
  rw [mns_getD, mns_getD]
  by_cases h : (rsv l).getD y.toNat 0 < (rsv l).getD x.toNat 0
  · rw [decide_eq_true h, decide_eq_true (by omega)]
  · rw [decide_eq_false h, decide_eq_false (by omega)]
theorem RdT.kept {w w' : World} {B g c : Nat} {A : Option Addr} {l : List T3} (h : RdT w B A c l) (hg : w.grownBy w' (some g)) (hB : B ≤ g) (hgl : g < w.heap.size) : RdT w' B A c l :=
  Rd.keep h fun p hp => World.cell?_of_block (hg.block _ (by omega) (fun e => by have := Option.some.inj e; omega))
set_option maxHeartbeats 800000 in
theorem cmpR_any (A : Option Addr) (c : Nat) (l : List T3) (x y tb B : Nat) (W : World) (h : RdT W B A c l) (hc : W.cell? ⟨tb, 0, none⟩ = some (.slice A l.length c)) (hx : x < l.length) (hy : y < l.length) (hq : ∀ t ∈ l, 0 ≤ t.z ∧ t.z ≤ 1000000) :
    Calls Try.prog 67 #[.int .i64 x, .int .i64 y, .pointer (some ⟨tb, 0, none⟩)] W fun e w' => e = .returned (.int .i64 ((mns l).getD x 0 - (mns l).getD y 0)) ∧ ∃ n, w' = W.drewN n := by
  obtain ⟨b, o, vx, rfl, hb, ex, hcx0, hcx1, hcx2⟩ := h.at_ hx
  obtain ⟨b', o', vy, hA, hb', ey, hcy0, hcy1, hcy2⟩ := h.at_ hy
  obtain ⟨rfl, rfl⟩ : b = b' ∧ o = o' := by simpa using hA
  have bx := hq _ (List.mem_of_getElem? ex)
  have by_ := hq _ (List.mem_of_getElem? ey)
  have hE : Hid ((mns l).getD x 0 = -vx.z ∧ (mns l).getD y 0 = -vy.z) := ⟨getD_of (mns_get ex), getD_of (mns_get ey)⟩
  have hw : IntKind.i64.wrap (vy.z - vx.z) = vy.z - vx.z := IntWalk.i64_in _ (by omega)
  have x0 : (0 : Int) ≤ (x : Int) := by omega
  have x1 : (x : Int) < (l.length : Int) := by omega
  have y0 : (0 : Int) ≤ (y : Int) := by omega
  have y1 : (y : Int) < (l.length : Int) := by omega
  clear ex ey hq hA hcx0 hcx1 hcy0 hcy1
  go_enter Try.func67, Try.ntmps67
  go_wp2_with fail
  go_quiet (fail)
  go_wp2_with fail
  go_ret
  exact ⟨ret_int (by rw [hE.out.1, hE.out.2]; omega), _, rfl⟩
set_option maxHeartbeats 3200000 in
theorem insR_any (A : Option Addr) (c : Nat) (l : List T3) (tb g cc base : Nat) (cur : List Int) (w : World) (ho : OwnI w base (some ⟨g, 0, none⟩) cc cur) (hgl : g < w.heap.size) (h : RdT w g A c l) (htb : tb < g) (hc : w.cell? ⟨tb, 0, none⟩ = some (.slice A l.length c)) (hq : ∀ t ∈ l, 0 ≤ t.z ∧ t.z ≤ 1000000) (hr : ∀ x ∈ cur, ∃ k : Nat, x = (k : Int) ∧ k < l.length) (hlen : cur.length ≤ 1000) :
    Calls Try.prog 129 #[.slice (some ⟨g, 0, none⟩) cur.length cc, .int .i64 0, .int .i64 cur.length, .func (.func 67) #[] #[.pointer (some ⟨tb, 0, none⟩)]] w fun e w' => e = .returned (.tuple #[]) ∧ OwnI w' base (some ⟨g, 0, none⟩) cc (insAll (ltT (mns l)) cur) ∧ w.grownBy w' (some g) := by
  have hle := ho.le
  have H0 : Hid (OwnI w base (some ⟨g, 0, none⟩) cc (insAll (ltT (mns l)) (cur.take 1) ++ cur.drop 1)) := by
    have e : insAll (ltT (mns l)) (cur.take 1) ++ cur.drop 1 = cur := by
      cases cur with
      | nil => rfl
      | cons a t => rfl
    show OwnI _ _ _ _ _
    rw [e]; exact ho
  have HH := Lib.hid (And.intro h hc)
  clear ho h hc
  go_enter Try.func129, Try.ntmps129
  go_wp2_with fail
  go_loopw [8] (fun i wr => ∃ k : Nat, 1 ≤ k ∧ k ≤ cur.length + 1 ∧ i = .int .i64 k ∧ Hid (OwnI wr base (some ⟨g, 0, none⟩) cc (insAll (ltT (mns l)) (cur.take k) ++ cur.drop k)) ∧ Hid (w.grownBy wr (some g))) (fun i _ => cur.length + 1 - (intOf i).toNat)
  case atStart => exact ⟨1, Nat.le_refl _, by omega, rfl, H0, World.grownBy.refl _ _⟩
  case round =>
    obtain ⟨k, hk1, hk, rfl, HO, HG⟩ := hrel
    by_cases hlt : k < cur.length
    · have hx : cur[k]? = some cur[k] := List.getElem?_eq_getElem hlt
      obtain ⟨xk, hxk, hxl⟩ := hr _ (List.mem_of_getElem? hx)
      rw [hxk] at hx
      obtain ⟨pre, hpre⟩ : ∃ pre, pre = insAll (ltT (mns l)) (cur.take k) := ⟨_, rfl⟩
      have hpl : pre.length = k := by rw [hpre, insAll_length, List.length_take]; omega
      have hpr : ∀ y ∈ pre, ∃ j : Nat, y = (j : Int) ∧ j < l.length := fun y hy => by
        rw [hpre, insAll_mem] at hy
        exact hr y (List.mem_of_mem_take hy)
      have HP := Lib.hid (And.intro hpre hpr)
      have HX := Lib.hid hx
      have HS : Hid (OwnI wr base (some ⟨g, 0, none⟩) cc (putAt pre xk k ++ cur.drop (k + 1))) := by
        have e : putAt pre xk k ++ cur.drop (k + 1) = insAll (ltT (mns l)) (cur.take k) ++ cur.drop k := by
          rw [drop_cons hx]
          have := putAt_end pre (xk : Int)
          rw [hpl] at this
          rw [this, ← hpre, List.append_assoc]; rfl
        show OwnI _ _ _ _ _
        rw [e]; exact HO.out
      have hnx : Hid (insAll (ltT (mns l)) (cur.take (k + 1)) = insr (ltT (mns l)) pre xk) := by
        show _ = _
        rw [take_snocI _ _ _ hx, insFold_snoc, ← hpre]
      have hkc : (k : Int) < (cur.length : Int) := by omega
      clear hx hxk hpre hpr HO
      go_wp2_with fail
      obtain ⟨wo, rfl⟩ : ∃ wo : World, wo = wr := ⟨_, rfl⟩
      go_loopw [9] (fun j wr => ∃ p : Nat, p ≤ k ∧ j = .int .i64 p ∧ Hid (posGo (ltT (mns l)) pre xk p = posGo (ltT (mns l)) pre xk pre.length) ∧ Hid (OwnI wr base (some ⟨g, 0, none⟩) cc (putAt pre xk p ++ cur.drop (k + 1))) ∧ Hid (w.grownBy wr (some g))) (fun j _ => (intOf j).toNat)
      case atStart => exact ⟨k, Nat.le_refl _, rfl, (by rw [hpl]; rfl), HS, HG⟩
      case round =>
        obtain ⟨p, hp, rfl, HQ, HO, HGi⟩ := hrel
        clear HG HS
        cases p with
        | zero =>
          have d0 : decide ((0 : Nat) < 0) = false := rfl
          have HZ : Hid (putAt pre xk 0 = insr (ltT (mns l)) pre xk) := insr_stop HQ.out (.inl rfl)
          go_wp2_with fail
          go_quiet (fail)
          go_wp2_with fail
          go_roundw
          case rel => exact ⟨k + 1, by omega, by omega, by go_num, (by show OwnI _ _ _ _ _; rw [hnx.out, ← HZ.out]; exact HO.out), grownBy_drewN HGi.out _⟩
          case measure => simp [intOf]; omega
        | succ q =>
          have hL : (putAt pre xk (q + 1) ++ cur.drop (k + 1)).length = cur.length := by rw [List.length_append, putAt_len, List.length_drop]; omega
          have hqp : q < pre.length := by omega
          have e1 : (putAt pre xk (q + 1) ++ cur.drop (k + 1))[q + 1]? = some (xk : Int) := by
            rw [List.getElem?_append_left (by rw [putAt_len]; omega)]; exact putAt_get _ _ _ (by omega)
          have e2 : (putAt pre xk (q + 1) ++ cur.drop (k + 1))[q]? = some (pre.getD q 0) := by
            rw [List.getElem?_append_left (by rw [putAt_len]; omega)]; exact putAt_before _ _ _ hqp
          have hmem : pre.getD q 0 ∈ pre := by rw [List.getD_eq_getElem?_getD, List.getElem?_eq_getElem hqp]; exact List.getElem_mem hqp
          obtain ⟨yk, hyk, hyl⟩ := HP.out.2 _ hmem
          rw [hyk] at e2
          obtain ⟨g1, hg1, _, _, hf1, ⟨u1, hc1, hu1⟩, hs1, hw1⟩ := HO.out.set_ (k := q + 1) (by rw [hL]; omega) (yk : Int)
          obtain rfl : g = g1 := by simpa using hg1
          obtain ⟨g2, hg2, _, _, hf2, ⟨u2, hc2, hu2⟩, _, _⟩ := HO.out.set_ (k := q) (by rw [hL]; omega) (xk : Int)
          obtain rfl : g = g2 := by simpa using hg2
          obtain ⟨g3, hg3, _, _, _, _, hs3, hw3⟩ := hs1.set_ (k := q) (by rw [List.length_set, hL]; omega) (xk : Int)
          obtain rfl : g = g3 := by simpa using hg3
          rw [e1] at hu1
          rw [e2] at hu2
          obtain rfl : (xk : Int) = u1 := Option.some.inj hu1
          obtain rfl : (yk : Int) = u2 := Option.some.inj hu2
          have hsw : ((putAt pre (xk : Int) (q + 1) ++ cur.drop (k + 1)).set (q + 1) (yk : Int)).set q xk = putAt pre xk q ++ cur.drop (k + 1) := by
            rw [List.set_append_left _ _ (by rw [putAt_len]; omega), List.set_append_left _ _ (by rw [List.length_set, putAt_len]; omega), ← hyk, putAt_swap _ _ _ hqp]
          rw [hsw] at hs3
          have hbx : ∃ vx, (mns l)[xk]? = some vx := ⟨_, List.getElem?_eq_getElem (by rw [mns_len]; exact hxl)⟩
          have hby : ∃ vy, (mns l)[yk]? = some vy := ⟨_, List.getElem?_eq_getElem (by rw [mns_len]; exact hyl)⟩
          obtain ⟨vx, hvx⟩ := hbx
          obtain ⟨vy, hvy⟩ := hby
          have hltv := ltT_of hvx hvy
          have hcm : Hid (∀ nd, Calls Try.prog 67 #[.int .i64 xk, .int .i64 yk, .pointer (some ⟨tb, 0, none⟩)] (wr.drewN nd) fun e w' => e = .returned (.int .i64 (vx - vy)) ∧ ∃ n, w' = (wr.drewN nd).drewN n) := fun nd => by
            have := cmpR_any A c l xk yk tb g (wr.drewN nd) (Rd.keep (HH.out.1.kept HGi.out (Nat.le_refl _) hgl) (fun _ _ => rfl)) ((World.cell?_of_block (w := w) (w' := wr) (a := ⟨tb, 0, none⟩) (HGi.out.block _ (by show tb < _; omega) (fun e => by have h9 : tb = g := Option.some.inj e; omega))).trans HH.out.2) hxl hyl hq
            rw [getD_of hvx, getD_of hvy] at this
            exact this
          have hgw : w.grownBy ((wr.setCell ⟨g, q + 1, none⟩ (.int .i64 yk)).setCell ⟨g, q, none⟩ (.int .i64 xk)) (some g) := grownBy_trans HGi.out (grownBy_trans hw1 hw3)
          have HW := Lib.hid (And.intro hs3 hgw)
          have HV := Lib.hid (And.intro hyk (And.intro hvx hvy))
          have j0 : (0 : Int) ≤ ((q + 1 : Nat) : Int) := by omega
          have j1 : ((q + 1 : Nat) : Int) < (cur.length : Int) := by omega
          have j2 : IntKind.i64.wrap (((q + 1 : Nat) : Int) - 1) = (q : Int) := by
            rw [IntWalk.i64_in _ (by omega)]; omega
          have j3 : (0 : Int) ≤ (q : Int) := by omega
          have j4 : (q : Int) < (cur.length : Int) := by omega
          have j5 : decide ((0 : Int) < ((q + 1 : Nat) : Int)) = true := by first | (simp; done) | (simp; omega)
          have j6 : decide (0 < q + 1) = true := by simp
          clear e1 e2 hmem hyk hu1 hu2 hs1 hs3 hw1 hw3 hgw hsw hg1 hg2 hg3 hL hvx hvy
          by_cases hv : vx < vy
          · have hv' : vx - vy < 0 := by omega
            have HN : Hid (posGo (ltT (mns l)) pre xk q = posGo (ltT (mns l)) pre xk pre.length) := pos_next HQ.out (by rw [HV.out.1, hltv]; simpa using hv)
            clear hltv hv
            go_wp2_with fail
            go_quiet ((go_at_call 67; exact Calls.quiet_of (hcm.out _)))
            go_wp2_with fail
            go_region
            go_wp2_with fail
            go_roundw
            case rel => exact ⟨q, by omega, by go_num, HN, HW.out.1, (by show World.grownBy _ _ _; exact ⟨HW.out.2.os, HW.out.2.tape, HW.out.2.output, HW.out.2.size, HW.out.2.block⟩)⟩
            case measure => first | (simp [intOf]; done) | (simp [intOf]; omega)
          · have hv' : ¬ vx - vy < 0 := by omega
            have HZ : Hid (putAt pre xk (q + 1) = insr (ltT (mns l)) pre xk) := insr_stop HQ.out (.inr ⟨q, rfl, by rw [HV.out.1, hltv]; simpa using hv⟩)
            clear hltv hv
            go_wp2_with fail
            go_quiet ((go_at_call 67; exact Calls.quiet_of (hcm.out _)))
            go_wp2_with fail
            go_roundw
            case rel => exact ⟨k + 1, by omega, by omega, by go_num, (by show OwnI _ _ _ _ _; rw [hnx.out, ← HZ.out]; exact HO.out), grownBy_drewN HGi.out _⟩
            case measure => simp [intOf]; omega
    · have hkc : ¬ (k : Int) < (cur.length : Int) := by omega
      have HZ : Hid (OwnI wr base (some ⟨g, 0, none⟩) cc (insAll (ltT (mns l)) cur)) := by
        have := HO.out
        rw [List.take_of_length_le (by omega), List.drop_of_length_le (by omega), List.append_nil] at this
        exact this
      go_wp2_with fail
      go_end0
      exact ⟨rfl, HZ.out, HG.out⟩
theorem stableR_any (A : Option Addr) (c : Nat) (l : List T3) (tb g cc base : Nat) (cur : List Int) (w : World) (ho : OwnI w base (some ⟨g, 0, none⟩) cc cur) (hgl : g < w.heap.size) (h : RdT w g A c l) (htb : tb < g) (hc : w.cell? ⟨tb, 0, none⟩ = some (.slice A l.length c)) (hq : ∀ t ∈ l, 0 ≤ t.z ∧ t.z ≤ 1000000) (hr : ∀ x ∈ cur, ∃ k : Nat, x = (k : Int) ∧ k < l.length) (hlen : cur.length ≤ 12) :
    Calls Try.prog 95 #[.slice (some ⟨g, 0, none⟩) cur.length cc, .int .i64 cur.length, .func (.func 67) #[] #[.pointer (some ⟨tb, 0, none⟩)]] w fun e w' => e = .returned (.tuple #[]) ∧ OwnI w' base (some ⟨g, 0, none⟩) cc (insAll (ltT (mns l)) cur) ∧ w.grownBy w' (some g) := by
  have H1 := Lib.hid (insR_any A c l tb g cc base cur w ho hgl h htb hc hq hr (by omega))
  have g1 : ¬ (20 : Int) ≤ (cur.length : Int) := by omega
  have g2 : ¬ (20 : Int) < (cur.length : Int) := by omega
  clear ho h hc
  go_enter Try.func95, Try.ntmps95
  go_wp2_with fail
  refine wp_loop_rounds 1 ?_
  rw [rounds_succ]
  go_wp2_with fail
  refine H1.out.mono ?_
  rintro e w1 ⟨rfl, ho, hg⟩
  have H2 := Lib.hid (And.intro ho hg)
  clear ho hg
  go_wp2_with fail
  refine wp_loop_rounds 1 ?_
  rw [rounds_succ]
  go_wp2_with fail
  go_end0
  exact ⟨rfl, H2.out.1, H2.out.2⟩
theorem sortR_any (A : Option Addr) (c : Nat) (l : List T3) (tb g cc base : Nat) (cur : List Int) (w : World) (ho : OwnI w base (some ⟨g, 0, none⟩) cc cur) (hgl : g < w.heap.size) (h : RdT w g A c l) (htb : tb < g) (hc : w.cell? ⟨tb, 0, none⟩ = some (.slice A l.length c)) (hq : ∀ t ∈ l, 0 ≤ t.z ∧ t.z ≤ 1000000) (hr : ∀ x ∈ cur, ∃ k : Nat, x = (k : Int) ∧ k < l.length) (hlen : cur.length ≤ 12) :
    Calls Try.prog 58 #[.slice (some ⟨g, 0, none⟩) cur.length cc, .func (.func 67) #[] #[.pointer (some ⟨tb, 0, none⟩)]] w fun e w' => e = .returned (.tuple #[]) ∧ OwnI w' base (some ⟨g, 0, none⟩) cc (insAll (ltT (mns l)) cur) ∧ w.grownBy w' (some g) := by
  have H1 := Lib.hid (stableR_any A c l tb g cc base cur w ho hgl h htb hc hq hr hlen)
  have hle := ho.le
  clear ho h hc
  go_enter Try.func58, Try.ntmps58
  go_wp2_with fail
  refine H1.out.mono ?_
  rintro e w1 ⟨rfl, ho, hg⟩
  have H2 := Lib.hid (And.intro ho hg)
  clear ho hg
  go_wp2_with fail
  go_end0
  exact ⟨rfl, H2.out.1, H2.out.2⟩
end Go.Proofs.Ytonlfkofiljboaa
