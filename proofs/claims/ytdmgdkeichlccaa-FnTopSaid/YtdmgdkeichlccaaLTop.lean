/- The law FnTop answers true for every code. No conditions. -/
import Derived.Test.YtdmgdkeichlccaaActDraw
import Derived.Test.YtdmgdkeichlccaaTopPure
import Derived.Test.YtdmgdkeichlccaaBookBd
import Derived.Test.YtdmgdkeichlccaaDoActI
import Derived.Test.YtdmgdkeichlccaaDoActS
import Derived.Test.YtdmgdkeichlccaaOpenBytes
import Derived.Test.YtdmgdkeichlccaaKc
import Derived.Deep.DeepCutAuto
import Derived.BigRegion
namespace Go.Proofs.Ytdmgdkeichlccaa
set_option linter.unusedSimpArgs false
set_option linter.unusedVariables false
open Go.ChangeShapes Go.WideShapes Go.ChangeAt Go.RowKit
set_option maxRecDepth 20000
set_option maxHeartbeats 12800000 in
theorem walk_FnTop (w0 : World) (A0 : Option Addr) (c0 : Nat) (l0 : List Int) (h0 : RdY w0 w0.heap.size A0 c0 l0) :
    Calls Try.prog 3 #[.slice A0 l0.length c0] w0 fun e wi' => e = .returned (.bool true) ∧ Below w0.heap.size w0 wi' := by
  obtain ⟨hl0, hm0⟩ := h0.le
  by_cases hbig : (1048576 : Int) < l0.length
  · go_enter Try.func3, Try.ntmps3
    go_wp2_with fail
    refine (big_any A0 l0.length c0 w0 (by omega)).mono ?_
    rintro e w1 ⟨rfl, rfl⟩
    go_wp2_with fail
    go_ret
    exact ⟨rfl, Below.refl _ _⟩
  have hs : l0.length ≤ 1048576 := by omega
  have hbd : decide ((1048576 : Int) < l0.length) = false := by simpa using hbig
  go_enter Try.func3, Try.ntmps3
  go_wp2_with fail
  refine (big_any A0 l0.length c0 w0 (by omega)).mono ?_
  rintro e w1 ⟨rfl, rfl⟩
  rw [hbd]
  go_wp2_with fail
  refine (DrawActs_any A0 c0 l0 w0 h0 hs).mono ?_
  rintro e wi ⟨A, c, R, d, v, B, n, acts, rfl, ⟨hv, hok, hal⟩, hr1, hr2, hr3, hB00⟩
  have HB0 := Lib.hid hB00
  have HV0 := Lib.hid hv
  have HOK : Hid (∀ a ∈ acts, actOk a.x a.y a.z = true) := hok
  have HAR := Lib.hid hr3
  have HR0 := Lib.hid (And.intro hr1 hr2)
  clear hv hok hr1 hr2 hr3 hB00
  unfold Vg.val
  have hB := Below.refl wi.heap.size wi
  go_wp2_with fail
  first | refine name_world ?_ | refine name_wp ?_
  intro W1 hW
  have S0 : Hid (Blk W1 wi.heap.size 29 #[.int .i64 v.book.room, .int .i64 v.book.start, .slice A v.book.evs.length c, .int .i64 v.book.level, .int .i64 v.book.rained, .int .i64 v.book.drunk, .int .i64 v.book.lost, .slice R v.rights.length d] ∧ RdT W1 W1.heap.size A c v.book.evs ∧ RdT W1 W1.heap.size R d v.rights ∧ Below wi.heap.size wi W1) := by
    have hb1 : Below wi.heap.size wi W1 := by rw [hW]; exact tacT
    exact ⟨by rw [hW]; exact blkT, RdT.below HR0.out.1 hb1, RdT.below HR0.out.2 hb1, hb1⟩
  clear hW hB HR0
  go_loopw [5] (fun i w => ∃ (k : Nat) (A : Option Addr) (c : Nat) (R : Option Addr) (d : Nat) (cv : Vg), k ≤ acts.length ∧ i = .int .i64 k ∧ Hid (villageOk cv = true) ∧ Hid (Blk w wi.heap.size 29 #[.int .i64 cv.book.room, .int .i64 cv.book.start, .slice A cv.book.evs.length c, .int .i64 cv.book.level, .int .i64 cv.book.rained, .int .i64 cv.book.drunk, .int .i64 cv.book.lost, .slice R cv.rights.length d] ∧ RdT w w.heap.size A c cv.book.evs ∧ RdT w w.heap.size R d cv.rights ∧ Below wi.heap.size wi w)) (fun i _ => acts.length - (intOf i).toNat)
  case atStart => exact ⟨0, A, c, R, d, v, Nat.zero_le _, rfl, HV0.out, S0.out⟩
  case round =>
    clear S0 HV0
    obtain ⟨w, rfl⟩ : ∃ w : World, w = wr := ⟨_, rfl⟩
    obtain ⟨k, A2, c2, R2, d2, ⟨⟨room, start, l, lv, ra, dr, lo⟩, rs⟩, hk, rfl, HV, HK⟩ := hrel
    have kb_v := HK.out.1
    have hrv := HK.out.2.1
    have hrr := HK.out.2.2.1
    have hBW := Lib.hid HK.out.2.2.2
    have hB := Below.refl w.heap.size w
    have hwz : wi.heap.size < w.heap.size := kb_v.lt
    clear HK
    simp only at kb_v hrv hrr
    have hl40 : l.length ≤ 40 := (book_bounds (vg_parts HV.out).1).2.2.2.2.2
    have hr12 : rs.length ≤ 12 := (rights_facts (vg_parts HV.out).2).1
    have HR1 := Lib.hid hrv
    have HR2 := Lib.hid hrr
    clear hrv hrr
    have kc_v := kb_v.cells
    have kf_v := kb_v.frozens
    have hl_v := kb_v.lt
    have hn_v := Nat.ne_of_lt kb_v.lt
    by_cases hlt : k < acts.length
    · obtain ⟨b, oo, a, rfl, hbb, hx, q0, q1, q2⟩ := HAR.out.at_ hlt
      have ha := HOK.out a (List.mem_of_getElem? hx)
      obtain ⟨x, y, z⟩ := a
      simp only at ha q0 q1 q2
      have f0 : w.cell? ⟨b, oo + k * 3, none⟩ = some (.int .i64 x) := (hBW.out.cell (p := ⟨b, _, none⟩) hbb).trans q0
      have f1 : w.cell? ⟨b, oo + k * 3 + 1, none⟩ = some (.int .i64 y) := (hBW.out.cell (p := ⟨b, _, none⟩) hbb).trans q1
      have f2 : w.cell? ⟨b, oo + k * 3 + 2, none⟩ = some (.int .i64 z) := (hBW.out.cell (p := ⟨b, _, none⟩) hbb).trans q2
      clear q0 q1 q2 hx
      have hlb : b < w.heap.size := by omega
      have hk0 : (0 : Int) ≤ (k : Int) := by omega
      have hk1 : (k : Int) < (acts.length : Int) := by omega
      have HL := Lib.hid (act_law HV.out ha)
      have hbv := book_bounds (vg_parts HV.out).1
      obtain ⟨m0, hm0'⟩ : ∃ m0, m0 = mayDrink ⟨⟨room, start, l, lv, ra, dr, lo⟩, rs⟩ y := ⟨_, rfl⟩
      obtain ⟨od, hod⟩ : ∃ od, od = drunkBy ⟨room, start, l, lv, ra, dr, lo⟩ y := ⟨_, rfl⟩
      have hodb := drunkBy_bd ⟨room, start, l, lv, ra, dr, lo⟩ y
      have hacb := (act_rng ha).2
      have HM : Hid (∀ W, Below w.heap.size w W → Calls Try.prog 6 #[.agg #[.int .i64 room, .int .i64 start, .slice A2 l.length c2, .int .i64 lv, .int .i64 ra, .int .i64 dr, .int .i64 lo, .slice R2 rs.length d2], .int .i64 y] W fun e wi' => e = .returned (.int .i64 m0) ∧ Below W.heap.size W wi') := fun W hb => by rw [hm0']; exact MayDrinkS_any A2 c2 R2 d2 ⟨⟨room, start, l, lv, ra, dr, lo⟩, rs⟩ y W (HR1.out.below hb) (HR2.out.below hb) (by show l.length ≤ _; omega)
      have HD : Hid (∀ W, Below w.heap.size w W → Calls Try.prog 13 #[.agg #[.int .i64 room, .int .i64 start, .slice A2 l.length c2, .int .i64 lv, .int .i64 ra, .int .i64 dr, .int .i64 lo], .int .i64 y] W fun e wi' => e = .returned (.int .i64 od) ∧ Below W.heap.size W wi') := fun W hb => by rw [hod]; exact DrunkByS_any A2 c2 ⟨room, start, l, lv, ra, dr, lo⟩ y W (HR1.out.below hb) (by show l.length ≤ _; omega)
      obtain ⟨⟨⟨⟨nroom, nstart, nl, nlv, nra, ndr, nlo⟩, nrs⟩, m⟩, hE⟩ : ∃ r, doAct ⟨⟨room, start, l, lv, ra, dr, lo⟩, rs⟩ x y z = r := ⟨_, rfl⟩
      rw [hE] at HL
      rw [← hm0'] at HL
      simp only [← hod] at HL
      have HI : Hid (∀ W, Below w.heap.size w W → Calls Try.prog 7 #[.agg #[.int .i64 room, .int .i64 start, .slice A2 l.length c2, .int .i64 lv, .int .i64 ra, .int .i64 dr, .int .i64 lo, .slice R2 rs.length d2], .agg #[.int .i64 x, .int .i64 y, .int .i64 z]] W fun e wi' => ∃ A c R d, e = .returned (.tuple #[.agg #[.int .i64 nroom, .int .i64 nstart, .slice A nl.length c, .int .i64 nlv, .int .i64 nra, .int .i64 ndr, .int .i64 nlo, .slice R nrs.length d], .int .i64 m]) ∧ RdT wi' wi'.heap.size A c nl ∧ RdT wi' wi'.heap.size R d nrs ∧ Below W.heap.size W wi') := fun W hb => by
        have h9 := DoAct_any A2 c2 R2 d2 ⟨⟨room, start, l, lv, ra, dr, lo⟩, rs⟩ x y z W (HR1.out.below hb) (HR2.out.below hb) (by show l.length + rs.length ≤ _; omega)
        rw [hE] at h9
        exact h9.mono fun e wi' ⟨A', c', R', d', q1, q2, q3, q4⟩ => ⟨A', c', R', d', q1, Rd.of_own q2, Rd.of_own q3, q4⟩
      have HS : Hid (∀ W, Below w.heap.size w W → Calls Try.prog 8 #[.agg #[.int .i64 room, .int .i64 start, .slice A2 l.length c2, .int .i64 lv, .int .i64 ra, .int .i64 dr, .int .i64 lo, .slice R2 rs.length d2], .agg #[.int .i64 x, .int .i64 y, .int .i64 z]] W fun e wi' => ∃ A c R d, e = .returned (.tuple #[.agg #[.int .i64 nroom, .int .i64 nstart, .slice A nl.length c, .int .i64 nlv, .int .i64 nra, .int .i64 ndr, .int .i64 nlo, .slice R nrs.length d], .int .i64 m]) ∧ wi'.ownsRow W.heap.size 66 3 (.slice A nl.length c) nl.length (t3s nl) ∧ wi'.ownsRow W.heap.size 51 3 (.slice R nrs.length d) nrs.length (t3s nrs) ∧ Below W.heap.size W wi') := fun W hb => by
        have h9 := DoActS_any A2 c2 R2 d2 ⟨⟨room, start, l, lv, ra, dr, lo⟩, rs⟩ x y z W (HR1.out.below hb) (HR2.out.below hb) (by show l.length + rs.length ≤ _; omega)
        rw [hE] at h9
        exact h9.mono fun e wi' ⟨A', c', R', d', q1, q2, q3, q4⟩ => ⟨A', c', R', d', q1, q2, q3, q4⟩
      obtain ⟨g1, g2, g3, g4, g5, g6, g7, g8⟩ := HL.out
      try simp only at g1 g2 g3 g4 g5 g6 g7 g8
      have HNV := Lib.hid g1
      have hbn := book_bounds (vg_parts g1).1
      have hn40 : nl.length ≤ 40 := hbn.2.2.2.2.2
      obtain ⟨nd, hnd⟩ : ∃ nd, nd = drunkBy ⟨nroom, nstart, nl, nlv, nra, ndr, nlo⟩ y := ⟨_, rfl⟩
      rw [← hnd] at g5
      have HVO : Hid (∀ (W : World) (A : Option Addr) (c : Nat) (R : Option Addr) (d : Nat), RdT W W.heap.size A c nl → RdT W W.heap.size R d nrs → Calls Try.prog 9 #[.agg #[.int .i64 nroom, .int .i64 nstart, .slice A nl.length c, .int .i64 nlv, .int .i64 nra, .int .i64 ndr, .int .i64 nlo, .slice R nrs.length d]] W fun e wi' => e = .returned (.bool true) ∧ Below W.heap.size W wi') := fun W A c R d q1 q2 => by
        have h9 := VillageOk_any A c R d ⟨⟨nroom, nstart, nl, nlv, nra, ndr, nlo⟩, nrs⟩ W q1 q2 (by show nl.length ≤ _; omega)
        rw [g1] at h9
        exact h9
      have HSR : Hid (∀ (W : World) (R : Option Addr) (d : Nat) (R' : Option Addr) (d' : Nat), RdT W W.heap.size R d nrs → RdT W W.heap.size R' d' nrs → Calls Try.prog 10 #[.slice R nrs.length d, .slice R' nrs.length d'] W fun e wi' => e = .returned (.bool true) ∧ Below W.heap.size W wi') := fun W R d R' d' q1 q2 => by
        have h9 := SameRights_any R d nrs R' d' nrs W q1 q2
        rw [g4] at h9
        exact h9
      have HSU : Hid (∀ (W : World) (R : Option Addr) (d : Nat), RdT W W.heap.size R d nrs → Calls Try.prog 11 #[.slice R nrs.length d] W fun e wi' => e = .returned (.tuple #[.agg #[.int .i64 1, .int .i64 1], .bool true]) ∧ Below W.heap.size W wi') := fun W R d q1 => by
        have h9 := SumOfShares_any R d nrs W q1
        rw [g3] at h9
        exact h9
      have HDB : Hid (∀ (W : World) (A : Option Addr) (c : Nat), RdT W W.heap.size A c nl → Calls Try.prog 12 #[.agg #[.int .i64 nroom, .int .i64 nstart, .slice A nl.length c, .int .i64 nlv, .int .i64 nra, .int .i64 ndr, .int .i64 nlo], .int .i64 y] W fun e wi' => e = .returned (.int .i64 nd) ∧ Below W.heap.size W wi') := fun W A c q1 => by rw [hnd]; exact DrunkBy_any A c ⟨nroom, nstart, nl, nlv, nra, ndr, nlo⟩ y W q1
      have HG5 := Lib.hid g5
      have HG6 := Lib.hid g6
      have HG7 := Lib.hid g7
      have HG8 := Lib.hid g8
      have hw1 : IntKind.i64.wrap (nstart + nra) = nstart + nra := IntWalk.i64_in _ (by simp only at hbn; omega)
      have hw2 : IntKind.i64.wrap (nlv + ndr) = nlv + ndr := IntWalk.i64_in _ (by simp only at hbn; omega)
      have hw3 : IntKind.i64.wrap (nlv + ndr + nlo) = nlv + ndr + nlo := IntWalk.i64_in _ (by simp only at hbn; omega)
      have hw4 : IntKind.i64.wrap (dr + z) = dr + z := IntWalk.i64_in _ (by simp only at hbv; omega)
      have hw5 : IntKind.i64.wrap (od + z) = od + z := IntWalk.i64_in _ (by omega)
      have hne : ((nstart + nra) != (nlv + ndr + nlo)) = false := bne_eq_false_iff_eq.2 g2
      clear g1 g2 g3 g4 g5 g6 g7 g8 hm0' hod hnd hE HL ha hbn hbv hodb hacb
      go_wp2_with fail
      first | refine name_world ?_ | refine name_wp ?_
      intro W2 hW
      replace hB : Below w.heap.size w W2 := by rw [hW]; exact tacT
      have hz_W2 : w.heap.size ≤ W2.heap.size := by rw [hW]; first | (simp; done) | (simp; omega)
      replace kb_v : Blk W2 (wi.heap.size) 29 #[.int .i64 room, .int .i64 start, .slice A2 l.length c2, .int .i64 lv, .int .i64 ra, .int .i64 dr, .int .i64 lo, .slice R2 rs.length d2] := by rw [hW]; exact blkT
      have hLW2_v := kb_v.lt
      replace kb_a : Blk W2 (w.heap.size) 34 #[.int .i64 x, .int .i64 y, .int .i64 z] := by rw [hW]; exact blkT
      have hLW2_a := kb_a.lt
      try clear kc_v kf_v
      try clear kc_a kf_a
      clear hW
      clear f0 f1 f2
      refine (HM.out _ hB).mono ?_
      rintro e w3 ⟨rfl, hb⟩
      replace hB := hB.trans (Below.mono hb hB.size)
      have hz_w3 : W2.heap.size ≤ w3.heap.size := Below.size hb
      replace kb_v := Blk.below kb_v hb (by first | exact kb_v.lt | (have := kb_v.lt; omega))
      have kc_v := kb_v.cells
      have kf_v := kb_v.frozens
      have hl_v := kb_v.lt
      have hn_v := Nat.ne_of_lt kb_v.lt
      replace kb_a := Blk.below kb_a hb (by first | exact kb_a.lt | (have := kb_a.lt; omega))
      have kc_a := kb_a.cells
      have kf_a := kb_a.frozens
      have hl_a := kb_a.lt
      have hn_a := Nat.ne_of_lt kb_a.lt
      clear hb
      clear HM
      go_wp2_with fail
      refine (HI.out _ hB).mono ?_
      rintro e w4 ⟨A4, c4, R4, d4, rfl, hx1, hx2, hb⟩
      have HN4 := Lib.hid (And.intro hx1 hx2)
      clear hx1 hx2 HI
      replace hB := hB.trans (Below.mono hb hB.size)
      have hz_w4 : w3.heap.size ≤ w4.heap.size := Below.size hb
      replace kb_v := Blk.below kb_v hb (by first | exact kb_v.lt | (have := kb_v.lt; omega))
      have kc_v := kb_v.cells
      have kf_v := kb_v.frozens
      have hl_v := kb_v.lt
      have hn_v := Nat.ne_of_lt kb_v.lt
      replace kb_a := Blk.below kb_a hb (by first | exact kb_a.lt | (have := kb_a.lt; omega))
      have kc_a := kb_a.cells
      have kf_a := kb_a.frozens
      have hl_a := kb_a.lt
      have hn_a := Nat.ne_of_lt kb_a.lt
      clear hb
      go_wp2_with fail
      first | refine name_world ?_ | refine name_wp ?_
      intro W5 hW
      replace hB : Below w.heap.size w W5 := by rw [hW]; exact tacT
      have hp_W5 : Below w4.heap.size w4 W5 := by rw [hW]; exact tacT
      have hz_W5 : w4.heap.size ≤ W5.heap.size := by rw [hW]; first | (simp; done) | (simp; omega)
      replace kb_v : Blk W5 (wi.heap.size) 29 #[.int .i64 room, .int .i64 start, .slice A2 l.length c2, .int .i64 lv, .int .i64 ra, .int .i64 dr, .int .i64 lo, .slice R2 rs.length d2] := by rw [hW]; exact blkT
      have hLW5_v := kb_v.lt
      replace kb_a : Blk W5 (w.heap.size) 34 #[.int .i64 x, .int .i64 y, .int .i64 z] := by rw [hW]; exact blkT
      have hLW5_a := kb_a.lt
      replace kb_n : Blk W5 (w4.heap.size) 29 #[.int .i64 nroom, .int .i64 nstart, .slice A4 nl.length c4, .int .i64 nlv, .int .i64 nra, .int .i64 ndr, .int .i64 nlo, .slice R4 nrs.length d4] := by rw [hW]; exact blkT
      have hLW5_n := kb_n.lt
      try clear kc_v kf_v
      try clear kc_a kf_a
      try clear kc_n kf_n
      clear hW
      have HN5 := Lib.hid (And.intro (RdT.below HN4.out.1 hp_W5) (RdT.below HN4.out.2 hp_W5))
      clear HN4 hp_W5
      refine (HS.out _ hB).mono ?_
      rintro e w6 ⟨A6, c6, R6, d6, rfl, hx1, hx2, hb⟩
      have hr_e := Row2.born hx1
      have hr_s := Row2.born hx2
      have HN6 := Lib.hid (And.intro (RdT.below HN5.out.1 hb) (RdT.below HN5.out.2 hb))
      clear hx1 hx2 HS HN5
      replace hB := hB.trans (Below.mono hb hB.size)
      have hz_w6 : W5.heap.size ≤ w6.heap.size := Below.size hb
      replace kb_v := Blk.below kb_v hb (by first | exact kb_v.lt | (have := kb_v.lt; omega))
      have kc_v := kb_v.cells
      have kf_v := kb_v.frozens
      have hl_v := kb_v.lt
      have hn_v := Nat.ne_of_lt kb_v.lt
      replace kb_a := Blk.below kb_a hb (by first | exact kb_a.lt | (have := kb_a.lt; omega))
      have kc_a := kb_a.cells
      have kf_a := kb_a.frozens
      have hl_a := kb_a.lt
      have hn_a := Nat.ne_of_lt kb_a.lt
      replace kb_n := Blk.below kb_n hb (by first | exact kb_n.lt | (have := kb_n.lt; omega))
      have kc_n := kb_n.cells
      have kf_n := kb_n.frozens
      have hl_n := kb_n.lt
      have hn_n := Nat.ne_of_lt kb_n.lt
      clear hb
      go_wp2_with fail
      first | refine name_world ?_ | refine name_wp ?_
      intro W7 hW
      replace hB : Below w.heap.size w W7 := by rw [hW]; exact tacT
      have hp_W7 : Below w6.heap.size w6 W7 := by rw [hW]; exact tacT
      have hz_W7 : w6.heap.size ≤ W7.heap.size := by rw [hW]; first | (simp; done) | (simp; omega)
      replace kb_v : Blk W7 (wi.heap.size) 29 #[.int .i64 room, .int .i64 start, .slice A2 l.length c2, .int .i64 lv, .int .i64 ra, .int .i64 dr, .int .i64 lo, .slice R2 rs.length d2] := by rw [hW]; exact blkT
      have hLW7_v := kb_v.lt
      replace kb_a : Blk W7 (w.heap.size) 34 #[.int .i64 x, .int .i64 y, .int .i64 z] := by rw [hW]; exact blkT
      have hLW7_a := kb_a.lt
      replace kb_n : Blk W7 (w4.heap.size) 29 #[.int .i64 nroom, .int .i64 nstart, .slice A4 nl.length c4, .int .i64 nlv, .int .i64 nra, .int .i64 ndr, .int .i64 nlo, .slice R4 nrs.length d4] := by rw [hW]; exact blkT
      have hLW7_n := kb_n.lt
      replace kb_q : Blk W7 (w6.heap.size) 29 #[.int .i64 nroom, .int .i64 nstart, .slice A6 nl.length c6, .int .i64 nlv, .int .i64 nra, .int .i64 ndr, .int .i64 nlo, .slice R6 nrs.length d6] := by rw [hW]; exact blkT
      have hLW7_q := kb_q.lt
      replace kb_b : Blk W7 (w6.heap.size + 1) 26 #[.int .i64 nroom, .int .i64 nstart, .slice A4 nl.length c4, .int .i64 nlv, .int .i64 nra, .int .i64 ndr, .int .i64 nlo] := by rw [hW]; exact blkT
      have hLW7_b := kb_b.lt
      replace hr_e : Row2 W7 (W5.heap.size) (w6.heap.size) 66 3 A6 (nl.length) c6 (t3s nl) := by rw [hW]; exact rowT
      replace hr_s : Row2 W7 (W5.heap.size) (w6.heap.size) 51 3 R6 (nrs.length) d6 (t3s nrs) := by rw [hW]; exact rowT
      try clear kc_v kf_v
      try clear kc_a kf_a
      try clear kc_n kf_n
      try clear kc_q kf_q
      try clear kc_b kf_b
      clear hW
      have HN7 := Lib.hid (And.intro (RdT.below HN6.out.1 hp_W7) (RdT.below HN6.out.2 hp_W7))
      clear HN6 hp_W7
      refine (HVO.out _ _ _ _ _ HN7.out.1 HN7.out.2).mono ?_
      rintro e w8 ⟨rfl, hb⟩
      have HN8 := Lib.hid (And.intro (RdT.below HN7.out.1 hb) (RdT.below HN7.out.2 hb))
      clear HN7
      replace hB := hB.trans (Below.mono hb hB.size)
      have hz_w8 : W7.heap.size ≤ w8.heap.size := Below.size hb
      replace kb_v := Blk.below kb_v hb (by first | exact kb_v.lt | (have := kb_v.lt; omega))
      have kc_v := kb_v.cells
      have kf_v := kb_v.frozens
      have hl_v := kb_v.lt
      have hn_v := Nat.ne_of_lt kb_v.lt
      replace kb_a := Blk.below kb_a hb (by first | exact kb_a.lt | (have := kb_a.lt; omega))
      have kc_a := kb_a.cells
      have kf_a := kb_a.frozens
      have hl_a := kb_a.lt
      have hn_a := Nat.ne_of_lt kb_a.lt
      replace kb_n := Blk.below kb_n hb (by first | exact kb_n.lt | (have := kb_n.lt; omega))
      have kc_n := kb_n.cells
      have kf_n := kb_n.frozens
      have hl_n := kb_n.lt
      have hn_n := Nat.ne_of_lt kb_n.lt
      replace kb_q := Blk.below kb_q hb (by first | exact kb_q.lt | (have := kb_q.lt; omega))
      have kc_q := kb_q.cells
      have kf_q := kb_q.frozens
      have hl_q := kb_q.lt
      have hn_q := Nat.ne_of_lt kb_q.lt
      replace kb_b := Blk.below kb_b hb (by first | exact kb_b.lt | (have := kb_b.lt; omega))
      have kc_b := kb_b.cells
      have kf_b := kb_b.frozens
      have hl_b := kb_b.lt
      have hn_b := Nat.ne_of_lt kb_b.lt
      replace hr_e := Row2.below hr_e hb (by omega)
      replace hr_s := Row2.below hr_s hb (by omega)
      clear hb
      go_wp2_with fail
      refine (HSR.out _ _ _ _ _ HN8.out.2 hr_s.rd).mono ?_
      rintro e w9 ⟨rfl, hb⟩
      have HN9 := Lib.hid (And.intro (RdT.below HN8.out.1 hb) (RdT.below HN8.out.2 hb))
      clear HN8 HSR
      replace hB := hB.trans (Below.mono hb hB.size)
      have hz_w9 : w8.heap.size ≤ w9.heap.size := Below.size hb
      replace kb_v := Blk.below kb_v hb (by first | exact kb_v.lt | (have := kb_v.lt; omega))
      have kc_v := kb_v.cells
      have kf_v := kb_v.frozens
      have hl_v := kb_v.lt
      have hn_v := Nat.ne_of_lt kb_v.lt
      replace kb_a := Blk.below kb_a hb (by first | exact kb_a.lt | (have := kb_a.lt; omega))
      have kc_a := kb_a.cells
      have kf_a := kb_a.frozens
      have hl_a := kb_a.lt
      have hn_a := Nat.ne_of_lt kb_a.lt
      replace kb_n := Blk.below kb_n hb (by first | exact kb_n.lt | (have := kb_n.lt; omega))
      have kc_n := kb_n.cells
      have kf_n := kb_n.frozens
      have hl_n := kb_n.lt
      have hn_n := Nat.ne_of_lt kb_n.lt
      replace kb_q := Blk.below kb_q hb (by first | exact kb_q.lt | (have := kb_q.lt; omega))
      have kc_q := kb_q.cells
      have kf_q := kb_q.frozens
      have hl_q := kb_q.lt
      have hn_q := Nat.ne_of_lt kb_q.lt
      replace kb_b := Blk.below kb_b hb (by first | exact kb_b.lt | (have := kb_b.lt; omega))
      have kc_b := kb_b.cells
      have kf_b := kb_b.frozens
      have hl_b := kb_b.lt
      have hn_b := Nat.ne_of_lt kb_b.lt
      replace hr_e := Row2.below hr_e hb (by omega)
      replace hr_s := Row2.below hr_s hb (by omega)
      clear hb
      go_wp2_with fail
      refine (HSU.out _ _ _ HN9.out.2).mono ?_
      rintro e w10 ⟨rfl, hb⟩
      have HN10 := Lib.hid (RdT.below HN9.out.1 hb)
      clear HN9 HSU
      replace hB := hB.trans (Below.mono hb hB.size)
      have hz_w10 : w9.heap.size ≤ w10.heap.size := Below.size hb
      replace kb_v := Blk.below kb_v hb (by first | exact kb_v.lt | (have := kb_v.lt; omega))
      have kc_v := kb_v.cells
      have kf_v := kb_v.frozens
      have hl_v := kb_v.lt
      have hn_v := Nat.ne_of_lt kb_v.lt
      replace kb_a := Blk.below kb_a hb (by first | exact kb_a.lt | (have := kb_a.lt; omega))
      have kc_a := kb_a.cells
      have kf_a := kb_a.frozens
      have hl_a := kb_a.lt
      have hn_a := Nat.ne_of_lt kb_a.lt
      replace kb_n := Blk.below kb_n hb (by first | exact kb_n.lt | (have := kb_n.lt; omega))
      have kc_n := kb_n.cells
      have kf_n := kb_n.frozens
      have hl_n := kb_n.lt
      have hn_n := Nat.ne_of_lt kb_n.lt
      replace kb_q := Blk.below kb_q hb (by first | exact kb_q.lt | (have := kb_q.lt; omega))
      have kc_q := kb_q.cells
      have kf_q := kb_q.frozens
      have hl_q := kb_q.lt
      have hn_q := Nat.ne_of_lt kb_q.lt
      replace kb_b := Blk.below kb_b hb (by first | exact kb_b.lt | (have := kb_b.lt; omega))
      have kc_b := kb_b.cells
      have kf_b := kb_b.frozens
      have hl_b := kb_b.lt
      have hn_b := Nat.ne_of_lt kb_b.lt
      replace hr_e := Row2.below hr_e hb (by omega)
      replace hr_s := Row2.below hr_s hb (by omega)
      clear hb
      clear hne hw1 hw2 hw3 kb_n kc_n kf_n hl_n hn_n HVO
      go_upto_region 17 with fail
      first | refine name_world ?_ | refine name_wp ?_
      intro W11 hW
      replace hB : Below w.heap.size w W11 := by rw [hW]; exact tacT
      have hp_W11 : Below w10.heap.size w10 W11 := by rw [hW]; exact tacT
      have hz_W11 : w10.heap.size ≤ W11.heap.size := by rw [hW]; first | (simp; done) | (simp; omega)
      replace kb_v : Blk W11 (wi.heap.size) 29 #[.int .i64 room, .int .i64 start, .slice A2 l.length c2, .int .i64 lv, .int .i64 ra, .int .i64 dr, .int .i64 lo, .slice R2 rs.length d2] := by rw [hW]; exact blkT
      have hLW11_v := kb_v.lt
      replace kb_a : Blk W11 (w.heap.size) 34 #[.int .i64 x, .int .i64 y, .int .i64 z] := by rw [hW]; exact blkT
      have hLW11_a := kb_a.lt
      replace kb_q : Blk W11 (w6.heap.size) 29 #[.int .i64 nroom, .int .i64 nstart, .slice A6 nl.length c6, .int .i64 nlv, .int .i64 nra, .int .i64 ndr, .int .i64 nlo, .slice R6 nrs.length d6] := by rw [hW]; exact blkT
      have hLW11_q := kb_q.lt
      replace kb_b : Blk W11 (w6.heap.size + 1) 26 #[.int .i64 nroom, .int .i64 nstart, .slice A4 nl.length c4, .int .i64 nlv, .int .i64 nra, .int .i64 ndr, .int .i64 nlo] := by rw [hW]; exact blkT
      have hLW11_b := kb_b.lt
      replace hr_e : Row2 W11 (W5.heap.size) (w6.heap.size) 66 3 A6 (nl.length) c6 (t3s nl) := by rw [hW]; exact rowT
      replace hr_s : Row2 W11 (W5.heap.size) (w6.heap.size) 51 3 R6 (nrs.length) d6 (t3s nrs) := by rw [hW]; exact rowT
      try clear kc_v kf_v
      try clear kc_a kf_a
      try clear kc_q kf_q
      try clear kc_b kf_b
      clear hW
      have HN11 := Lib.hid (RdT.below HN10.out hp_W11)
      clear HN10 hp_W11
      go_cut [167] from 129 to 167 (fun s9 wx => s9 = .bool false ∧ Below W11.heap.size W11 wx)
      case first =>
        have f_v : ∀ (z9 : NewW W11) (i : Nat), z9.w.cell? ⟨wi.heap.size, i, none⟩ = #[.int .i64 room, .int .i64 start, .slice A2 l.length c2, .int .i64 lv, .int .i64 ra, .int .i64 dr, .int .i64 lo, .slice R2 rs.length d2][i]? := fun z9 i => (kb_v.newW z9).cells i
        have f_a : ∀ (z9 : NewW W11) (i : Nat), z9.w.cell? ⟨w.heap.size, i, none⟩ = #[.int .i64 x, .int .i64 y, .int .i64 z][i]? := fun z9 i => (kb_a.newW z9).cells i
        have f_b : ∀ (z9 : NewW W11) (i : Nat), z9.w.cell? ⟨w6.heap.size + 1, i, none⟩ = #[.int .i64 nroom, .int .i64 nstart, .slice A4 nl.length c4, .int .i64 nlv, .int .i64 nra, .int .i64 ndr, .int .i64 nlo][i]? := fun z9 i => (kb_b.newW z9).cells i
        clear kb_v kb_a kb_b kb_q hr_e hr_s
        by_cases hm1 : m = 1
        · by_cases hx2 : x = 2
          · obtain ⟨g1, g2, g3⟩ := HG5.out hm1 hx2
            clear HG5 HG6 HG7 HG8 HNV
            subst hm1
            subst hx2
            subst g2
            subst g3
            have e1 : ¬ m0 < z := by omega
            have e2 : decide (m0 < z) = false := decide_eq_false e1
            refine wp_region_new (by kernel_rfl) (by kernel_rfl) ?_
            repeat (go_big_quiet_step (first | (go_at_call 12; exact NewW.call (HDB.out _ _ _ (Rd.newW HN11.out _))) | (go_at_call 13; exact NewW.call (HD.out _ (hB.trans (Below.mono (NewW.h _) hB.size))))))
            refine wpQuiet_nil ?_
            intro w12 hw'
            obtain ⟨hx, hw''⟩ := hw'
            have hb12 := hx.h
            rw [← hw''] at hb12
            clear hw'' hx
            go_wp2_with fail
            go_meet
            exact ⟨rfl, hb12⟩
          · have e1 : (x == 2) = false := beq_eq_false_iff_ne.2 hx2
            clear HG5 HG6 HG7 HG8 HNV
            subst hm1
            refine wp_region_new (by kernel_rfl) (by kernel_rfl) ?_
            repeat (go_big_quiet_step (fail))
            refine wpQuiet_nil ?_
            intro w12 hw'
            obtain ⟨hx, hw''⟩ := hw'
            have hb12 := hx.h
            rw [← hw''] at hb12
            clear hw'' hx
            go_wp2_with fail
            go_meet
            exact ⟨rfl, hb12⟩
        · have e1 : (m == 1) = false := beq_eq_false_iff_ne.2 hm1
          clear HG5 HG6 HG7 HG8 HNV
          refine wp_region_new (by kernel_rfl) (by kernel_rfl) ?_
          repeat (go_big_quiet_step (fail))
          refine wpQuiet_nil ?_
          intro w12 hw'
          obtain ⟨hx, hw''⟩ := hw'
          have hb12 := hx.h
          rw [← hw''] at hb12
          clear hw'' hx
          go_wp2_with fail
          go_meet
          exact ⟨rfl, hb12⟩
      case rest =>
        obtain ⟨rfl, hb⟩ := hcut
        obtain ⟨wA, rfl⟩ : ∃ wA : World, wA = wc := ⟨_, rfl⟩
        replace hB := hB.trans (Below.mono hb hB.size)
        have hz_wA : W11.heap.size ≤ wA.heap.size := Below.size hb
        replace kb_v := Blk.below kb_v hb (by first | exact kb_v.lt | (have := kb_v.lt; omega))
        have kc_v := kb_v.cells
        have kf_v := kb_v.frozens
        have hl_v := kb_v.lt
        have hn_v := Nat.ne_of_lt kb_v.lt
        replace kb_a := Blk.below kb_a hb (by first | exact kb_a.lt | (have := kb_a.lt; omega))
        have kc_a := kb_a.cells
        have kf_a := kb_a.frozens
        have hl_a := kb_a.lt
        have hn_a := Nat.ne_of_lt kb_a.lt
        replace kb_q := Blk.below kb_q hb (by first | exact kb_q.lt | (have := kb_q.lt; omega))
        have kc_q := kb_q.cells
        have kf_q := kb_q.frozens
        have hl_q := kb_q.lt
        have hn_q := Nat.ne_of_lt kb_q.lt
        replace kb_b := Blk.below kb_b hb (by first | exact kb_b.lt | (have := kb_b.lt; omega))
        have kc_b := kb_b.cells
        have kf_b := kb_b.frozens
        have hl_b := kb_b.lt
        have hn_b := Nat.ne_of_lt kb_b.lt
        replace hr_e := Row2.below hr_e hb (by omega)
        replace hr_s := Row2.below hr_s hb (by omega)
        clear hb
        clear HN11 HDB HD HG5 hw4 hw5
        go_upto_region 19 with fail
        go_cut [188] from 168 to 188 (fun s9 wx => s9 = .bool false ∧ wx = wA)
        case first =>
          clear kb_v kb_a kb_b kb_q hr_e hr_s
          by_cases hx2 : x = 2
          · clear HG6 HG7 HG8 HNV
            subst hx2
            go_wp2_with fail
            go_meet
            exact ⟨rfl, rfl⟩
          · obtain rfl := HG7.out hx2
            have e1 : (x != 2) = true := bne_iff_ne.2 hx2
            by_cases hx6 : x = 6
            · obtain rfl := HG6.out hx6
              clear HG6 HG7 HG8 HNV
              subst hx6
              go_wp2_with fail
              go_meet
              exact ⟨rfl, rfl⟩
            · have e2 : (x == 6) = false := beq_eq_false_iff_ne.2 hx6
              clear HG6 HG7 HG8 HNV
              go_wp2_with fail
              go_meet
              exact ⟨rfl, rfl⟩
        case rest =>
          obtain ⟨rfl, rfl⟩ := hcut
          go_upto_region 21 with fail
          go_cut [204] from 189 to 204 (fun s9 wx => s9 = .bool false ∧ wx = wc)
          case first =>
            clear kb_v kb_a kb_b kb_q hr_e hr_s
            by_cases hx4 : x = 4
            · obtain rfl := HG8.out (.inl hx4)
              clear HG6 HG7 HG8 HNV
              subst hx4
              go_wp2_with fail
              go_meet
              exact ⟨rfl, rfl⟩
            · have e1 : (x == 4) = false := beq_eq_false_iff_ne.2 hx4
              by_cases hx5 : x = 5
              · obtain rfl := HG8.out (.inr hx5)
                clear HG6 HG7 HG8 HNV
                subst hx5
                go_wp2_with fail
                go_meet
                exact ⟨rfl, rfl⟩
              · have e2 : (x == 5) = false := beq_eq_false_iff_ne.2 hx5
                clear HG6 HG7 HG8 HNV
                go_wp2_with fail
                go_meet
                exact ⟨rfl, rfl⟩
          case rest =>
            obtain ⟨rfl, rfl⟩ := hcut
            obtain ⟨wB, rfl⟩ : ∃ wB : World, wB = wc := ⟨_, rfl⟩
            clear HG6 HG7 HG8
            go_upto_region 6 with fail
            first | refine name_world ?_ | refine name_wp ?_
            intro W13 hW
            have hBv : Below wi.heap.size w w := Below.refl _ _
            have hBw : Below wi.heap.size w wB := hB.mono (by omega)
            have hB13 : Below wi.heap.size w W13 := by rw [hW]; exact tacT
            have kb9 : Blk W13 wi.heap.size 29 #[.int .i64 nroom, .int .i64 nstart, .slice A6 nl.length c6, .int .i64 nlv, .int .i64 nra, .int .i64 ndr, .int .i64 nlo, .slice R6 nrs.length d6] := by rw [hW]; exact blkT
            have he9 : Row2 W13 W5.heap.size w6.heap.size 66 3 A6 nl.length c6 (t3s nl) := by rw [hW]; exact rowT
            have hs9 : Row2 W13 W5.heap.size w6.heap.size 51 3 R6 nrs.length d6 (t3s nrs) := by rw [hW]; exact rowT
            have H9 : Hid (Blk W13 wi.heap.size 29 #[.int .i64 nroom, .int .i64 nstart, .slice A6 nl.length c6, .int .i64 nlv, .int .i64 nra, .int .i64 ndr, .int .i64 nlo, .slice R6 nrs.length d6] ∧ RdT W13 W13.heap.size A6 c6 nl ∧ RdT W13 W13.heap.size R6 d6 nrs ∧ Below wi.heap.size wi W13) := ⟨kb9, he9.rd, hs9.rd, hBW.out.trans hB13⟩
            clear kb9 he9 hs9 hB13 hBw hBv hW hr_e hr_s kb_v kb_a kb_q kb_b kc_v kc_a kc_q kc_b kf_v kf_a kf_q kf_b
            go_wp2_with fail
            go_roundw
            case rel => exact ⟨k + 1, A6, c6, R6, d6, ⟨⟨nroom, nstart, nl, nlv, nra, ndr, nlo⟩, nrs⟩, by omega, by go_num, HNV.out, H9.out⟩
            case measure => simp [intOf]; omega
    · obtain rfl : k = acts.length := by omega
      have hk1 : ¬ (acts.length : Int) < (acts.length : Int) := by omega
      have HVF : Hid (∀ W, Below w.heap.size w W → Calls Try.prog 9 #[.agg #[.int .i64 room, .int .i64 start, .slice A2 l.length c2, .int .i64 lv, .int .i64 ra, .int .i64 dr, .int .i64 lo, .slice R2 rs.length d2]] W fun e wi' => e = .returned (.bool true) ∧ Below W.heap.size W wi') := fun W hb => by
        have h9 := VillageOk_any A2 c2 R2 d2 ⟨⟨room, start, l, lv, ra, dr, lo⟩, rs⟩ W (HR1.out.below hb) (HR2.out.below hb) (by show l.length ≤ _; omega)
        rw [HV.out] at h9
        exact h9
      have HCO : Hid (∀ W, Below w.heap.size w W → Calls Try.prog 14 #[.slice R2 rs.length d2] W fun e wi' => e = .returned (.int .i64 rs.length) ∧ Below W.heap.size W wi') := fun W hb => CountOwners_any R2 d2 rs W (HR2.out.below hb) (vg_parts HV.out).2
      have f_v : ∀ (z9 : NewW w) (i : Nat), z9.w.cell? ⟨wi.heap.size, i, none⟩ = #[.int .i64 room, .int .i64 start, .slice A2 l.length c2, .int .i64 lv, .int .i64 ra, .int .i64 dr, .int .i64 lo, .slice R2 rs.length d2][i]? := fun z9 i => (kb_v.newW z9).cells i
      clear kb_v kc_v kf_v HV HR1 HR2
      go_wp2_with fail
      refine wp_region_new (by kernel_rfl) (by kernel_rfl) ?_
      repeat (go_big_quiet_step (first | (go_at_call 9; exact NewW.call (HVF.out _ (hB.trans (Below.mono (NewW.h _) hB.size)))) | (go_at_call 14; exact NewW.call (HCO.out _ (hB.trans (Below.mono (NewW.h _) hB.size))))))
      refine wpQuiet_nil ?_
      intro w2 hw'
      obtain ⟨hx, hw''⟩ := hw'
      have hb2 := hx.h
      rw [← hw''] at hb2
      clear hw'' hx
      go_wp2_with fail
      go_ret
      exact ⟨rfl, HB0.out.trans ((hBW.out.trans (hb2.mono hBW.out.size)).mono HB0.out.size)⟩
set_option maxRecDepth 100000 in
theorem lifted_FnTop (os : Os) (started : os.Started) (H : Type) (enc : TypeId × Value → H) :
    ReturnsInHanded {} Try.checked os 3 .any (Rows.fnTopSpec.pre6 enc Try.prog Try.f3 Rows.fnTopRow.domain false) (Rows.fnTopSpec.post enc Try.prog Try.f3 false true false false) := by
  refine returnsInHanded_of_change (C := Try.checked) own_knob started (by kernel_rfl) Try.func3
    (ChangeSpec.witness6 (enc := enc) (C := Try.checked) false ⟨#[], #[.slice none 0 0], []⟩ 8 (by kernel_rfl) (by kernel_rfl) (by kernel_rfl) (by kernel_rfl)) ?_
  intro W base args ds gs before hval0 hW hcnd _
  have hval : ∀ (j : Nat) t v, Try.f3.params[j]? = some t → args[j]? = some v → Value.okWide Try.prog W .any base t v := hval0
  have hW' := hW
  obtain ⟨p, q, hA0, hV, rfl, hfz, hnd⟩ := hW
  have hA : DataW.TrodAll enc Try.prog W 0 (fun _ => true) true Try.f3.params.toList args.toList ds p := hA0
  rw [Try.params3] at hA hval
  obtain ⟨v0, vs0, d0, ds0, p0, q0, hargs, rfl, rfl, h0, r0⟩ := trodAll_cons hA
  obtain ⟨rfl, rfl, rfl⟩ := trodAll_nil r0
  obtain rfl : args = #[v0] := by cases args; simp_all
  obtain ⟨rfl, rfl⟩ := trodVars_none hV
  obtain ⟨A0, c0, l0, rfl, hr0⟩ := arg_bytes (hval 0 22 v0 rfl rfl) h0
  have lt0 : ∀ x ∈ p0, x.block < W.heap.size := by obtain ⟨m, hm⟩ := h0; exact DataW.trod_lt m _ _ _ hm
  clear hA0 hval0
  refine (walk_FnTop W A0 c0 l0 hr0).mono fun e W' ⟨he, bel⟩ => ?_
  subst he
  exact ⟨_, rfl, _, _, _, [], _, [], hW', trodAll_mk1 (shut_bool Try.underlying4 _), (trodAll_cons_mk (Below.trod laid_out (by kernel_rfl) (of_decide_eq_true (by kernel_rfl)) h0 bel lt0) trodAll_mk0), rfl, bel.frame _, fun h => by cases h⟩

theorem fnTop_holds : Rows.FnTopSaid :=
  OpenClaim.holds_of_wide 3 Try.f3 rfl rfl rfl rfl rfl rfl rfl ⟨rfl, rfl, rfl, rfl, rfl⟩ rfl rfl rfl rfl rfl (by kernel_rfl) Try.func3 (by kernel_rfl)
    (of_decide_eq_true (by kernel_rfl)) (by unfold Func.isWrapper; rw [if_neg (by decide +kernel)]; exact ⟨rfl, rfl⟩)
    (fun os started H enc _ => lifted_FnTop os started H enc)
end Go.Proofs.Ytdmgdkeichlccaa
