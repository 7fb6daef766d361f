/- The law FnRecords answers true for every code. No conditions. -/
import Derived.Test.YtnedbdpcimhfgaaRecPure
import Derived.Test.YtnedbdpcimhfgaaYrDraw
import Derived.Test.YtnedbdpcimhfgaaOpenBytes
namespace Go.Proofs.Ytnedbdpcimhfgaa
open Go.ChangeShapes Go.WideShapes Go.ChangeAt Go.RowKit
set_option maxRecDepth 20000
set_option maxHeartbeats 6400000 in
theorem walk_FnRecords (w : World) (A : Option Addr) (c : Nat) (l : List Int) (h : RdY w w.heap.size A c l) :
    Calls Try.prog 11 #[.slice A l.length c] w fun e w' => e = .returned (.bool true) ∧ Below w.heap.size w w' := by
  have hB := Below.refl w.heap.size w
  obtain ⟨hl, hm⟩ := h.le
  by_cases hbig : (1048576 : Int) < l.length
  · go_enter Try.func11, Try.ntmps11
    go_wp2_with fail
    refine (big_any A l.length c w (by omega)).mono ?_
    rintro e w1 ⟨rfl, rfl⟩
    go_wp2_with fail
    go_ret
    exact ⟨rfl, hB⟩
  have hs : l.length ≤ 1048576 := by omega
  have hbd : decide ((1048576 : Int) < l.length) = false := by simpa using hbig
  go_enter Try.func11, Try.ntmps11
  go_wp2_with fail
  refine (big_any A l.length c w (by omega)).mono ?_
  rintro e w1 ⟨rfl, rfl⟩
  rw [hbd]
  go_wp2_with fail
  refine (DrawYears_any A c l w h hs).mono ?_
  rintro e w1 ⟨Ay, cy, y, rfl, hoy, hy, hy12, hb⟩
  have hyl := (yearsOk_iff hy).2
  have HALL := Lib.hid (yearsOk_iff hy).1
  have HY := Lib.hid hy
  have hry := hoy.rd
  replace hB := hB.trans (hb.mono hB.size)
  clear hoy hb
  go_wp2_with fail
  refine (SortedYears_any Ay cy y w1 hry).mono ?_
  rintro e w2 ⟨As, cs, rfl, hos, hb⟩
  have hsl : (sortedY y).length = y.length := by rw [sortedY_yes hy, sort_len]
  have hrs := hos.rd
  replace hry := RdI.below hry hb
  replace hB := hB.trans (hb.mono hB.size)
  obtain ⟨s, hs1⟩ : ∃ s, s = sortedY y := ⟨_, rfl⟩
  rw [← hs1] at hrs hsl ⊢
  have HS := Lib.hid hs1
  clear hos hb hs1
  go_wp2_with fail
  refine (MiddleYear_any Ay cy y w2 hry).mono ?_
  rintro e w3 ⟨rfl, hb⟩
  obtain ⟨m, hm1⟩ : ∃ m, m = middleY y := ⟨_, rfl⟩
  have hmr := middleY_range hy
  rw [← hm1] at hmr ⊢
  have HM := Lib.hid hm1
  replace hry := RdI.below hry hb
  replace hrs := RdI.below hrs hb
  replace hB := hB.trans (hb.mono hB.size)
  clear hb hm1
  go_wp2_with fail
  refine (RecordYears_any Ay cy y w3 hry).mono ?_
  rintro e w4 ⟨Ar, cr, rfl, hor, hb⟩
  have hrr := hor.rd
  replace hry := RdI.below hry hb
  replace hrs := RdI.below hrs hb
  replace hB := hB.trans (hb.mono hB.size)
  obtain ⟨rr, hr1⟩ : ∃ rr, rr = records y := ⟨_, rfl⟩
  obtain ⟨rt, hrt⟩ := records_first hy
  have hrl := records_len y
  rw [← hr1] at hrr hrt hrl ⊢
  have HR := Lib.hid hr1
  have hrp : 0 < rr.length := by rw [hrt]; simp
  obtain ⟨br, orr, x0, hAr, hbr, hx0, hc0⟩ := hrr.at_ hrp
  have hx00 : x0 = 0 := by rw [hrt] at hx0; simpa using hx0.symm
  subst hx00
  subst hAr
  have d1 : ((y.length : Int) != (y.length : Int)) = false := by simp
  have d2 : ((rr.length : Int) == 0) = false := by simp; intro e; rw [e] at hrp; simp at hrp
  have hc0' : w4.cell? ⟨br, orr, none⟩ = some (.int .i64 0) := by simpa using hc0
  have r0 : (0 : Int) < (rr.length : Int) := by omega
  clear hor hb hr1 hrt hx0 hc0
  obtain ⟨byy, oyy, xy0, hAy, hby, _, _⟩ := hry.at_ (show 0 < y.length by omega)
  subst hAy
  obtain ⟨bs, os, xs0, hAs, hbs, _, _⟩ := hrs.at_ (show 0 < s.length by omega)
  subst hAs
  have hyat : Hid (∀ (k : Nat) (x : Int), y[k]? = some x → w4.cell? ⟨byy, oyy + k, none⟩ = some (.int .i64 x)) := fun k x hk => by
    obtain ⟨b', o', x', hA', _, hx', hcc⟩ := hry.at_ (List.getElem?_eq_some_iff.1 hk).1
    simp only [Option.some.injEq, Addr.mk.injEq, and_true] at hA'
    obtain ⟨rfl, rfl⟩ := hA'
    rw [hk] at hx'
    obtain rfl := Option.some.inj hx'
    exact hcc
  have hsat : Hid (∀ (k : Nat) (x : Int), s[k]? = some x → w4.cell? ⟨bs, os + k, none⟩ = some (.int .i64 x)) := fun k x hk => by
    obtain ⟨b', o', x', hA', _, hx', hcc⟩ := hrs.at_ (List.getElem?_eq_some_iff.1 hk).1
    simp only [Option.some.injEq, Addr.mk.injEq, and_true] at hA'
    obtain ⟨rfl, rfl⟩ := hA'
    rw [hk] at hx'
    obtain rfl := Option.some.inj hx'
    exact hcc
  have hrat : Hid (∀ (k : Nat) (x : Int), rr[k]? = some x → w4.cell? ⟨br, orr + k, none⟩ = some (.int .i64 x)) := fun k x hk => by
    obtain ⟨b', o', x', hA', _, hx', hcc⟩ := hrr.at_ (List.getElem?_eq_some_iff.1 hk).1
    simp only [Option.some.injEq, Addr.mk.injEq, and_true] at hA'
    obtain ⟨rfl, rfl⟩ := hA'
    rw [hk] at hx'
    obtain rfl := Option.some.inj hx'
    exact hcc
  have HRY := Lib.hid hry
  clear hry hrs hrr
  go_wp2_with fail
  go_loopw [8, 9, 10] (fun bv av i wr => ∃ (k : Nat) (a b : Int), k ≤ y.length ∧ i = .int .i64 k ∧ bv = .int .i64 b ∧ av = .int .i64 a ∧ Hid (b + cnt (y.drop k) m = cnt y m ∧ a + cntA (y.drop k) m = cntA y m) ∧ 0 ≤ b ∧ b ≤ k ∧ 0 ≤ a ∧ a ≤ k ∧ ∃ nd, wr = w4.drewN nd) (fun _ _ i _ => y.length - (intOf i).toNat)
  case atStart => exact ⟨0, 0, 0, Nat.zero_le _, rfl, rfl, rfl, ⟨by simp, by simp⟩, by omega, by omega, by omega, by omega, 0, rfl⟩
  case round =>
    obtain ⟨k, a, b, hk, rfl, rfl, rfl, HC, b0, b1, a0, a1, nd, rfl⟩ := hrel
    by_cases hlt : k < y.length
    · have hx : y[k]? = some y[k] := List.getElem?_eq_getElem hlt
      obtain ⟨x, hxe⟩ : ∃ x, x = y[k] := ⟨_, rfl⟩
      rw [← hxe] at hx
      have hcx := hyat.out k x hx
      obtain ⟨ra, hra, hral, hrs⟩ := rank_place HY.out hx
      rw [← HS.out] at hrs
      have hcs := hsat.out ra x hrs
      have hrank := RankOf_any (some ⟨byy, oyy, none⟩) cy y k (w4.drewN nd) HRY.out
      rw [hra] at hrank
      have HRK := Lib.hid hrank
      have hc1 := HC.out.1
      have hc2 := HC.out.2
      rw [drop_cons hx, cnt_cons] at hc1
      rw [drop_cons hx, cntA_cons] at hc2
      have hki : (k : Int) < (y.length : Int) := by omega
      have k0 : (0 : Int) ≤ (k : Int) := by omega
      have ra0 : (0 : Int) ≤ (ra : Int) := by omega
      have ra1 : (ra : Int) < (y.length : Int) := by omega
      have p1 : ¬ (ra : Int) < 0 := by omega
      have p2 : decide ((ra : Int) < 0) = false := by simp only [decide_eq_false_iff_not]; exact p1
      have p3 : ¬ (y.length : Int) ≤ (ra : Int) := by omega
      have p4 : decide ((y.length : Int) ≤ (ra : Int)) = false := by simp only [decide_eq_false_iff_not]; exact p3
      have p5 : (x != x) = false := by simp
      have p8 : ¬ y.length ≤ ra := by omega
      have p9 : decide (y.length ≤ ra) = false := by simp only [decide_eq_false_iff_not]; exact p8
      have hsk : s[k]? = some s[k] := List.getElem?_eq_getElem (by omega)
      obtain ⟨sk, hske⟩ : ∃ z, z = s[k] := ⟨_, rfl⟩
      rw [← hske] at hsk
      have hck := hsat.out k sk hsk
      obtain ⟨db, hdb⟩ : ∃ z : Int, z = if x < m then 1 else 0 := ⟨_, rfl⟩
      obtain ⟨da, hda⟩ : ∃ z : Int, z = if m < x then 1 else 0 := ⟨_, rfl⟩
      have HNX : Hid ((b + db) + cnt (y.drop (k + 1)) m = cnt y m ∧ (a + da) + cntA (y.drop (k + 1)) m = cntA y m) := ⟨by rw [hdb]; split at hc1 <;> rename_i h9 <;> simp only [h9, if_true, if_false] <;> omega, by rw [hda]; omega⟩
      have db0 : 0 ≤ db ∧ db ≤ 1 := by rw [hdb]; split <;> omega
      have da0 : 0 ≤ da ∧ da ≤ 1 := by rw [hda]; split <;> omega
      have hb1 : Hid (∀ W, Calls Try.prog 49 #[.bool (decide (x < m))] W fun e w' => e = .returned (.int .i64 db) ∧ W = w') := fun W => by
        have := btoi_any (decide (x < m)) W
        rw [hdb]
        by_cases h9 : x < m
        · simpa [h9] using this
        · simpa [h9] using this
      have hb2 : Hid (∀ W, Calls Try.prog 49 #[.bool (decide (m < x))] W fun e w' => e = .returned (.int .i64 da) ∧ W = w') := fun W => by
        have := btoi_any (decide (m < x)) W
        rw [hda]
        by_cases h9 : m < x
        · simpa [h9] using this
        · simpa [h9] using this
      clear hx hxe hra hrs hrank hc1 hc2 hdb hda hske
      cases k with
      | zero =>
        clear hsk
        have d0 : decide ((0 : Nat) < 0) = false := rfl
        have e0 : w4.cell? ⟨byy, oyy, none⟩ = some (.int .i64 x) := by simpa using hcx
        go_wp2_with fail
        refine (hb1.out _).mono ?_
        rintro e w' ⟨rfl, rfl⟩
        go_wp2_with fail
        refine (hb2.out _).mono ?_
        rintro e w' ⟨rfl, rfl⟩
        go_wp2_with fail
        refine HRK.out.mono ?_
        rintro e w' ⟨rfl, rfl⟩
        go_wp2_with fail
        go_quiet (fail)
        go_wp2_with fail
        go_roundw
        case rel => exact ⟨0 + 1, a + da, b + db, by omega, by go_num, rfl, rfl, HNX.out, by omega, by omega, by omega, by omega, nd + nq, by first | rfl | simp [World.drewN_drewN]⟩
        case measure => simp [intOf]; omega
      | succ q =>
        have hsq : s[q]? = some s[q] := List.getElem?_eq_getElem (by omega)
        obtain ⟨sq, hsqe⟩ : ∃ z, z = s[q] := ⟨_, rfl⟩
        rw [← hsqe] at hsq
        have hcq := hsat.out q sq hsq
        have hle : sq ≤ sk := by
          have hasc : Asc s := by rw [HS.out, sortedY_yes HY.out]; exact sort_asc y
          exact asc_le hasc (Nat.le_succ q) hsq hsk
        have p6 : ¬ sk < sq := by omega
        have p7 : decide (sk < sq) = false := by simp only [decide_eq_false_iff_not]; exact p6
        have j2 : IntKind.i64.wrap (((q + 1 : Nat) : Int) - 1) = (q : Int) := by
          rw [IntWalk.i64_in _ (by omega)]; omega
        have j3 : (0 : Int) ≤ (q : Int) := by omega
        have j4 : (q : Int) < (y.length : Int) := by omega
        have j5 : decide ((0 : Int) < ((q + 1 : Nat) : Int)) = true := by first | (simp; done) | (simp; omega)
        have j6 : decide (0 < q + 1) = true := by simp
        clear hsq hsqe hsk hle
        go_wp2_with fail
        refine (hb1.out _).mono ?_
        rintro e w' ⟨rfl, rfl⟩
        go_wp2_with fail
        refine (hb2.out _).mono ?_
        rintro e w' ⟨rfl, rfl⟩
        go_wp2_with fail
        refine HRK.out.mono ?_
        rintro e w' ⟨rfl, rfl⟩
        go_wp2_with fail
        go_quiet (fail)
        go_wp2_with fail
        go_roundw
        case rel => exact ⟨q + 1 + 1, a + da, b + db, by omega, by go_num, rfl, rfl, HNX.out, by omega, by omega, by omega, by omega, nd + nq, by first | rfl | simp [World.drewN_drewN]⟩
        case measure => simp [intOf]; omega
    · have hki : ¬ (k : Int) < (y.length : Int) := by omega
      have hcb := HC.out.1
      have hca := HC.out.2
      rw [drop_end hlt] at hcb hca
      have hcb' : b = cnt y m := by simpa [cnt] using hcb
      have hca' : a = cntA y m := by simpa [cntA] using hca
      have hhalf := middle_half HY.out
      rw [← HM.out, ← hcb', ← hca'] at hhalf
      clear hcb hca hcb' hca' HC
      go_wp2_with fail
      go_loopw [12] (fun i wr => ∃ (k : Nat), 1 ≤ k ∧ k ≤ rr.length ∧ i = .int .i64 k ∧ ∃ nd, wr = w4.drewN nd) (fun i _ => rr.length - (intOf i).toNat)
      case atStart => exact ⟨1, Nat.le_refl _, hrp, rfl, nd, rfl⟩
      case round =>
        obtain ⟨k, hk1, hkr, rfl, nd2, rfl⟩ := hrel
        by_cases hlt2 : k < rr.length
        · obtain ⟨q, rfl⟩ : ∃ q, k = q + 1 := ⟨k - 1, by omega⟩
          have hrb : rr[q + 1]? = some rr[q + 1] := List.getElem?_eq_getElem hlt2
          have hra : rr[q]? = some rr[q] := List.getElem?_eq_getElem (by omega)
          obtain ⟨vb, hvb⟩ : ∃ z, z = rr[q + 1] := ⟨_, rfl⟩
          obtain ⟨va, hva⟩ : ∃ z, z = rr[q] := ⟨_, rfl⟩
          rw [← hvb] at hrb
          rw [← hva] at hra
          have hst := records_step HY.out (y := y) (i := q) (a := va) (b := vb) (by rw [← HR.out]; exact hra) (by rw [← HR.out]; exact hrb)
          obtain ⟨pa, pb, u, v, rfl, rfl, hpq, hqn, hyu, hyv, huv⟩ := hst
          have c1 := hrat.out _ _ hra
          have c2 := hrat.out _ _ hrb
          have c3 := hyat.out _ _ hyu
          have c4 := hyat.out _ _ hyv
          have j2 : IntKind.i64.wrap (((q + 1 : Nat) : Int) - 1) = (q : Int) := by
            rw [IntWalk.i64_in _ (by omega)]; omega
          have j3 : (0 : Int) ≤ (q : Int) := by omega
          have j4 : (q : Int) < (rr.length : Int) := by omega
          have j7 : ((q + 1 : Nat) : Int) < (rr.length : Int) := by omega
          have j8 : (0 : Int) ≤ ((q + 1 : Nat) : Int) := by omega
          have a0 : (0 : Int) ≤ (pa : Int) := by omega
          have a1 : (pa : Int) < (y.length : Int) := by omega
          have b0 : (0 : Int) ≤ (pb : Int) := by omega
          have b1 : (pb : Int) < (y.length : Int) := by omega
          have g1 : ¬ (pb : Int) ≤ (pa : Int) := by omega
          have g2 : decide ((pb : Int) ≤ (pa : Int)) = false := by simp only [decide_eq_false_iff_not]; exact g1
          have g3 : ¬ pb ≤ pa := by omega
          have g4 : decide (pb ≤ pa) = false := by simp only [decide_eq_false_iff_not]; exact g3
          have g5 : ¬ (y.length : Int) ≤ (pb : Int) := by omega
          have g6 : decide ((y.length : Int) ≤ (pb : Int)) = false := by simp only [decide_eq_false_iff_not]; exact g5
          have g7 : ¬ y.length ≤ pb := by omega
          have g8 : decide (y.length ≤ pb) = false := by simp only [decide_eq_false_iff_not]; exact g7
          have g9 : ¬ v ≤ u := by omega
          have g10 : decide (v ≤ u) = false := by simp only [decide_eq_false_iff_not]; exact g9
          clear hra hrb hva hvb hyu hyv
          go_wp2_with fail
          go_quiet (fail)
          go_wp2_with fail
          go_roundw
          case rel => exact ⟨q + 1 + 1, by omega, by omega, by go_num, nd2 + nq, by first | rfl | simp [World.drewN_drewN]⟩
          case measure => simp [intOf]; omega
        · have hkr2 : ¬ (k : Int) < (rr.length : Int) := by omega
          have hw4 := hB.size
          have hY4 : RdY (w4.drewN nd2) (w4.drewN nd2).heap.size A c l := (RdY.below h hB : RdY w4 w4.heap.size A c l)
          have hAT := Lib.hid (at_any A c l 0 (w4.drewN nd2) hY4 (by omega) hs)
          go_wp2_with fail
          refine hAT.out.mono ?_
          rintro e w' ⟨x, rfl, x0, x1, rfl⟩
          have hpt : x.tmod 101 = x % 101 := Int.tmod_eq_emod_of_nonneg x0
          have pp0 := Int.emod_nonneg x (show (101 : Int) ≠ 0 by omega)
          have pp1 := Int.emod_lt_of_pos x (show (0 : Int) < 101 by omega)
          obtain ⟨pp, hpp⟩ : ∃ z, z = x % 101 := ⟨_, rfl⟩
          rw [← hpp] at pp0 pp1 hpt
          clear hAT
          have hpin : inB pp 0 100 = true := inB_iff.2 (by omega)
          have hpm : 0 ≤ pp * m ∧ pp * m ≤ 100 * 100000 := by
            obtain ⟨pn, rfl⟩ := Int.eq_ofNat_of_zero_le pp0
            obtain ⟨mn, rfl⟩ := Int.eq_ofNat_of_zero_le hmr.1
            have : pn * mn ≤ 100 * 100000 := Nat.mul_le_mul (by omega) (by omega)
            constructor
            · exact Int.mul_nonneg (by omega) (by omega)
            · rw [← Int.natCast_mul]; omega
          have HLY : Hid (longY y pp = runGo (pp * m) y 0 0) := by show _ = _; rw [longY_run HY.out hpin, ← HM.out]
          have HDH : Hid (∀ (k : Nat) (x : Int), y[k]? = some x → decide ((k : Int) ∈ dryY y pp) = decide (x * 100 < pp * m)) := fun k x hk => by rw [dryY_has HY.out hpin hk, ← HM.out]
          have HPP := Lib.hid hpp
          have hDY := Lib.hid (DryYears_any (some ⟨byy, oyy, none⟩) cy y pp (w4.drewN nd2) HRY.out)
          clear hpin hY4
          go_wp2_with fail
          rw [← hpp]
          refine hDY.out.mono ?_
          rintro e w5 ⟨Ad, cd, rfl, hod, hb⟩
          have hdl := dryY_len y pp
          obtain ⟨d, hd⟩ : ∃ d, d = dryY y pp := ⟨_, rfl⟩
          rw [← hd] at hod HDH hdl ⊢
          have hB5 : Below w.heap.size w w5 := hB.trans ((show Below w4.heap.size w4 w5 from ⟨hb.os, hb.tape, hb.output, hb.size, hb.block⟩).mono hw4)
          have HRD := Lib.hid hod.rd
          have HRY5 : Hid (RdI w5 w5.heap.size (some ⟨byy, oyy, none⟩) cy y) := RdI.below (w := w4.drewN nd2) HRY.out hb
          have hyat5 : Hid (∀ (k : Nat) (x : Int), y[k]? = some x → w5.cell? ⟨byy, oyy + k, none⟩ = some (.int .i64 x)) := fun k x hk => (hb.cell (p := ⟨byy, _, none⟩) hby).trans (hyat.out k x hk)
          have hhas : Hid (∀ (nd : Nat) (k : Int), Calls Try.prog 51 #[.slice Ad d.length cd, .int .i64 k] (w5.drewN nd) fun e w' => e = .returned (.bool (decide (k ∈ d))) ∧ w5.drewN nd = w') := fun nd k => has_any Ad cd d k (w5.drewN nd) HRD.out
          have HB5 := Lib.hid hB5
          clear hod hb hd hpp hpt hB5 hDY
          go_wp2_with fail
          go_loopw [15, 16, 17] (fun rv mv i wr => ∃ (k : Nat) (run most : Int), k ≤ y.length ∧ i = .int .i64 k ∧ rv = .int .i64 run ∧ mv = .int .i64 most ∧ Hid (runGo (pp * m) (y.drop k) run most = runGo (pp * m) y 0 0) ∧ 0 ≤ run ∧ run ≤ k ∧ 0 ≤ most ∧ most ≤ k ∧ ∃ nd, wr = w5.drewN nd) (fun _ _ i _ => y.length - (intOf i).toNat)
          case atStart => exact ⟨0, 0, 0, Nat.zero_le _, rfl, rfl, rfl, rfl, by omega, by omega, by omega, by omega, 0, rfl⟩
          case round =>
            obtain ⟨k3, run, most, hk3, rfl, rfl, rfl, HE, ru0, ru1, mo0, mo1, nd3, rfl⟩ := hrel
            by_cases hlt3 : k3 < y.length
            · have hx : y[k3]? = some y[k3] := List.getElem?_eq_getElem hlt3
              obtain ⟨z, hz⟩ : ∃ z, z = y[k3] := ⟨_, rfl⟩
              rw [← hz] at hx
              have hcz := hyat5.out _ _ hx
              have hzr := allIn_mem HALL.out hx
              have hdz := HDH.out _ _ hx
              have hs3 := HE.out
              rw [drop_cons hx, runGo_cons] at hs3
              have k30 : (0 : Int) ≤ (k3 : Int) := by omega
              have k31 : (k3 : Int) < (y.length : Int) := by omega
              have hhk := hhas.out
              by_cases hzt : z * 100 < pp * m
              · rw [if_pos hzt] at hs3
                rw [decide_eq_true hzt] at hdz
                have hq : Hid (∀ nd, Calls Try.prog 51 #[.slice Ad d.length cd, .int .i64 k3] (w5.drewN nd) fun e w' => e = .returned (.bool true) ∧ w5.drewN nd = w') := fun nd => by rw [← hdz]; exact hhk nd k3
                have HS3 := Lib.hid hs3
                clear hx hz hdz hs3 hhk
                by_cases hmx : most < run + 1
                · have hme : max most (run + 1) = run + 1 := by omega
                  rw [hme] at HS3
                  go_wp2_with fail
                  go_quiet ((go_at_call 51; refine (hq.out _).mono ?_; exact fun _ _ h9 => ⟨h9.1, _, h9.2.symm⟩))
                  go_wp2_with (first | (go_at_call 51; refine (hq.out _).mono ?_; rintro e w' ⟨rfl, rfl⟩) | (go_at_call 49; refine (btoi_any true _).mono ?_; rintro e w' ⟨rfl, rfl⟩))
                  go_roundw
                  case rel => exact ⟨k3 + 1, run + 1, run + 1, by omega, by go_num, by first | rfl | simp, by first | rfl | simp, HS3.out, by omega, by omega, by omega, by omega, _, by first | rfl | simp [World.drewN_drewN]⟩
                  case measure => simp [intOf]; omega
                · have hme : max most (run + 1) = most := by omega
                  rw [hme] at HS3
                  go_wp2_with fail
                  go_quiet ((go_at_call 51; refine (hq.out _).mono ?_; exact fun _ _ h9 => ⟨h9.1, _, h9.2.symm⟩))
                  go_wp2_with (first | (go_at_call 51; refine (hq.out _).mono ?_; rintro e w' ⟨rfl, rfl⟩) | (go_at_call 49; refine (btoi_any true _).mono ?_; rintro e w' ⟨rfl, rfl⟩))
                  go_roundw
                  case rel => exact ⟨k3 + 1, run + 1, most, by omega, by go_num, by first | rfl | simp, by first | rfl | simp, HS3.out, by omega, by omega, by omega, by omega, _, by first | rfl | simp [World.drewN_drewN]⟩
                  case measure => simp [intOf]; omega
              · rw [if_neg hzt] at hs3
                rw [decide_eq_false hzt] at hdz
                have hq : Hid (∀ nd, Calls Try.prog 51 #[.slice Ad d.length cd, .int .i64 k3] (w5.drewN nd) fun e w' => e = .returned (.bool false) ∧ w5.drewN nd = w') := fun nd => by rw [← hdz]; exact hhk nd k3
                have hme : max most 0 = most := by omega
                rw [hme] at hs3
                have HS3 := Lib.hid hs3
                have hmx : ¬ most < 0 := by omega
                clear hx hz hdz hs3 hhk
                go_wp2_with fail
                go_quiet ((go_at_call 51; refine (hq.out _).mono ?_; exact fun _ _ h9 => ⟨h9.1, _, h9.2.symm⟩))
                go_wp2_with (first | (go_at_call 51; refine (hq.out _).mono ?_; rintro e w' ⟨rfl, rfl⟩) | (go_at_call 49; refine (btoi_any false _).mono ?_; rintro e w' ⟨rfl, rfl⟩))
                go_roundw
                case rel => exact ⟨k3 + 1, 0, most, by omega, by go_num, by first | rfl | simp, by first | rfl | simp, HS3.out, by omega, by omega, by omega, by omega, _, by first | rfl | simp [World.drewN_drewN]⟩
                case measure => simp [intOf]; omega
            · have k31 : ¬ (k3 : Int) < (y.length : Int) := by omega
              have hs3 := HE.out
              rw [drop_end hlt3] at hs3
              have hmost : Hid (longY y pp = most) := by show _ = _; rw [HLY.out, ← hs3]; rfl
              have hh1 : 2 * b ≤ (y.length : Int) := hhalf.1
              have hh2 : 2 * a ≤ (y.length : Int) := hhalf.2
              have HLG := Lib.hid (LongestDrought_any (some ⟨byy, oyy, none⟩) cy y pp (w5.drewN nd3) HRY5.out)
              have hm9 : (most == most) = true := by simp
              clear hs3
              go_wp2_with fail
              refine HLG.out.mono ?_
              rw [hmost.out]
              rintro e w6 ⟨rfl, hb6⟩
              have HRY6 : Hid (RdI w6 w6.heap.size (some ⟨byy, oyy, none⟩) cy y) := RdI.below (w := w5.drewN nd3) HRY5.out hb6
              have HB6 : Hid (Below w.heap.size w w6) := HB5.out.trans ((show Below w5.heap.size w5 w6 from ⟨hb6.os, hb6.tape, hb6.output, hb6.size, hb6.block⟩).mono HB5.out.size)
              clear hb6
              go_wp2_with fail
              refine (DryYears_any (some ⟨byy, oyy, none⟩) cy y 0 w6 HRY6.out).mono ?_
              rw [dryY_zero HY.out]
              rintro e w7 ⟨A7, c7, rfl, _, hb7⟩
              have HRY7 : Hid (RdI w7 w7.heap.size (some ⟨byy, oyy, none⟩) cy y) := RdI.below HRY6.out hb7
              have HB7 : Hid (Below w.heap.size w w7) := HB6.out.trans (hb7.mono HB6.out.size)
              clear hb7
              go_wp2_with fail
              refine (YearsOk_any (some ⟨byy, oyy, none⟩) cy y w7 HRY7.out).mono ?_
              rw [HY.out]
              rintro e w8 ⟨rfl, rfl⟩
              go_wp2_with fail
              go_ret
              exact ⟨rfl, HB7.out⟩
set_option maxRecDepth 100000 in
theorem lifted_FnRecords (os : Os) (started : os.Started) (H : Type) (enc : TypeId × Value → H) :
    ReturnsInHanded {} Try.checked os 11 .any (Rows.fnRecordsSpec.pre6 enc Try.prog Try.f11 Rows.fnRecordsRow.domain false) (Rows.fnRecordsSpec.post enc Try.prog Try.f11 false true false false) := by
  refine returnsInHanded_of_change (C := Try.checked) own_knob started (by kernel_rfl) Try.func11
    (ChangeSpec.witness6 (enc := enc) (C := Try.checked) false ⟨#[], #[.slice none 0 0], []⟩ 8 (by kernel_rfl) (by kernel_rfl) (by kernel_rfl) (by kernel_rfl)) ?_
  intro W base args ds gs before hval0 hW hcnd _
  have hval : ∀ (j : Nat) t v, Try.f11.params[j]? = some t → args[j]? = some v → Value.okWide Try.prog W .any base t v := hval0
  have hW' := hW
  obtain ⟨p, q, hA0, hV, rfl, hfz, hnd⟩ := hW
  have hA : DataW.TrodAll enc Try.prog W 0 (fun _ => true) true Try.f11.params.toList args.toList ds p := hA0
  rw [Try.params11] at hA hval
  obtain ⟨v0, vs0, d0, ds0, p0, q0, hargs, rfl, rfl, h0, r0⟩ := trodAll_cons hA
  obtain ⟨rfl, rfl, rfl⟩ := trodAll_nil r0
  obtain rfl : args = #[v0] := by cases args; simp_all
  obtain ⟨rfl, rfl⟩ := trodVars_none hV
  obtain ⟨A0, c0, l0, rfl, hr0⟩ := arg_bytes (hval 0 39 v0 rfl rfl) h0
  have lt0 : ∀ x ∈ p0, x.block < W.heap.size := by obtain ⟨m, hm⟩ := h0; exact DataW.trod_lt m _ _ _ hm
  clear hA0 hval0
  refine (walk_FnRecords W A0 c0 l0 hr0).mono fun e W' ⟨he, bel⟩ => ?_
  subst he
  exact ⟨_, rfl, _, _, _, [], _, [], hW', trodAll_mk1 (shut_bool Try.underlying4 _), (trodAll_cons_mk (Below.trod laid_out (by kernel_rfl) (of_decide_eq_true (by kernel_rfl)) h0 bel lt0) trodAll_mk0), rfl, bel.frame _, fun h => by cases h⟩

theorem fnRecords_holds : Rows.FnRecordsSaid :=
  OpenClaim.holds_of_wide 11 Try.f11 rfl rfl rfl rfl rfl rfl rfl ⟨rfl, rfl, rfl, rfl, rfl⟩ rfl rfl rfl rfl rfl (by kernel_rfl) Try.func11 (by kernel_rfl)
    (of_decide_eq_true (by kernel_rfl)) (by unfold Func.isWrapper; rw [if_neg (by decide +kernel)]; exact ⟨rfl, rfl⟩)
    (fun os started H enc _ => lifted_FnRecords os started H enc)
end Go.Proofs.Ytnedbdpcimhfgaa
