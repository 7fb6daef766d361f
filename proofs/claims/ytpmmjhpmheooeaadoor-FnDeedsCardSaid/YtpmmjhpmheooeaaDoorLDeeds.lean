/- The law FnDeeds answers true for every code. No conditions. -/
import Derived.Test.YtpmmjhpmheooeaaDoorDeedsPure
import Derived.Test.YtpmmjhpmheooeaaDoorReadDeed
import Derived.Test.YtpmmjhpmheooeaaDoorDeedsDraw
import Derived.Test.YtpmmjhpmheooeaaDoorOpenBytes
import Derived.Test.YtpmmjhpmheooeaaDoorWrap
import Derived.Test.YtpmmjhpmheooeaaDoorTie
import Derived.Test.YtpmmjhpmheooeaaDoorCards
import Derived.SevenTiedAt
import Derived.LaidMore
import Derived.Lay
import Derived.OpenShut
import Derived.Stop.Joined
import Derived.Stop.LaidErr
import Derived.ProofKit
import Derived.LaidLaws
import Derived.Lib.LaidTab
import Derived.Deep.DeepCutAuto
import Derived.BigRegion
namespace Go.Proofs.YtpmmjhpmheooeaaDoor
set_option linter.unusedSimpArgs false
set_option linter.unusedVariables false
open Go.ChangeShapes Go.WideShapes Go.ChangeAt Go.RowKit
set_option maxRecDepth 20000
theorem sv_spL (b : List UInt8) : Value.string (⟨b.toArray⟩ ++ ⟨#[32]⟩) = sv (b ++ [32]) := by
  refine congrArg _ (ByteArray.ext ?_)
  simp
set_option maxHeartbeats 6400000 in
theorem walk_FnDeeds (w0 : World) (ht : Tab w0) (hm : MaxLen w0) (A0 : Option Addr) (c0 : Nat) (l0 : List Int) (h0 : RdY w0 w0.heap.size A0 c0 l0) :
    Calls Tryd.prog 5 #[.slice A0 l0.length c0] w0 fun e wi' => e = .returned (.bool true) ∧ Below w0.heap.size w0 wi' := by
  obtain ⟨hl0, hm0⟩ := h0.le
  by_cases hbig : (1048576 : Int) < l0.length
  · go_enter Tryd.func5, Tryd.ntmps5
    go_wp2_with fail
    refine (big_any A0 l0.length c0 w0 (by omega)).mono ?_
    rintro e w1 ⟨rfl, rfl⟩
    go_wp2_with fail
    go_ret
    exact ⟨rfl, Below.refl _ _⟩
  have hs : l0.length ≤ 1048576 := by omega
  have hbd : decide ((1048576 : Int) < l0.length) = false := by simpa using hbig
  go_enter Tryd.func5, Tryd.ntmps5
  go_wp2_with fail
  refine (big_any A0 l0.length c0 w0 (by omega)).mono ?_
  rintro e w1 ⟨rfl, rfl⟩
  rw [hbd]
  go_wp2_with fail
  refine (DrawRights_any A0 c0 l0 w0 h0 hs).mono ?_
  rintro e w ⟨A, c, l, rfl, hD, hr, hB00⟩
  have HB0 := Lib.hid hB00
  have HT : Hid (Tab w) := ht.below hB00
  have HM : Hid (MaxLen w) := hm.below hB00
  have hok := hD.1
  have hlen := rightsOk_len hok
  have hrd := rd_of hok
  have hne := deed_ne hok
  have htl := deed_len (l := l)
  obtain ⟨t, htd⟩ : ∃ t, t = deedText l := ⟨_, rfl⟩
  rw [← htd] at hrd hne htl
  have HDT : Hid (∀ W, Below w.heap.size w W → Calls Tryd.prog 14 #[.slice A l.length c] W fun e w' => e = .returned (sv t) ∧ Below W.heap.size W w') := fun W hb => by rw [htd]; exact DeedText_any A c l W (hr.below hb) (HT.out.below hb)
  have HRD : Hid (∀ W, Below w.heap.size w W → Calls Tryd.prog 15 #[sv t] W fun e w' => ∃ A' c', e = .returned (.tuple #[.slice A' l.length c', .bool true]) ∧ w'.ownsRow W.heap.size 51 3 (.slice A' l.length c') l.length (t3s l) ∧ Below W.heap.size W w') := fun W hb => by
    have h9 := ReadDeed_any t W (HT.out.below hb) (HM.out.below hb) (by omega)
    rw [hrd.1, hrd.2] at h9
    exact h9
  have HRB : Hid (∀ W, Below w.heap.size w W → Calls Tryd.prog 15 #[sv (t ++ [32])] W fun e w' => ∃ A' c', e = .returned (.tuple #[.slice A' 0 c', .bool false]) ∧ Below W.heap.size W w') := fun W hb => by
    have h9 := ReadDeed_any (t ++ [32]) W (HT.out.below hb) (HM.out.below hb) (by rw [List.length_append, List.length_singleton]; omega)
    have h8 := rdX_no (rd_space t)
    rw [h8.1, h8.2] at h9
    exact h9.mono fun e w' ⟨A', c', q1, _, q3⟩ => ⟨A', c', q1, q3⟩
  have HSR : Hid (∀ W A' c', Below w.heap.size w W → RdT W W.heap.size A' c' l → Calls Tryd.prog 16 #[.slice A' l.length c', .slice A l.length c] W fun e w' => e = .returned (.bool true) ∧ Below W.heap.size W w') := fun W A' c' hb h => by
    have h9 := SameRights_any A' c' l A c l W h (hr.below hb)
    rw [same_of hok] at h9
    exact h9
  have HDD : Hid (∀ W A' c', Below w.heap.size w W → RdT W W.heap.size A' c' l → Calls Tryd.prog 17 #[.slice A l.length c, .slice A' l.length c'] W fun e w' => ∃ A2 c2, e = .returned (.slice A2 0 c2) ∧ Below W.heap.size W w') := fun W A' c' hb h => by
    have h9 := DeedDiff_any A c l A' c' l W (hr.below hb) h
    rw [diff_self] at h9
    exact h9.mono fun e w' ⟨A2, c2, q1, _, q3⟩ => ⟨A2, c2, q1, q3⟩
  have HRR : Hid (∀ (k : Nat) (x : T3), l[k]? = some x → ∃ tx, (∀ W, Below w.heap.size w W → Calls Tryd.prog 19 #[.agg #[.int .i64 x.x, .int .i64 x.y, .int .i64 x.z]] W fun e w' => e = .returned (sv tx) ∧ Below W.heap.size W w') ∧ (∀ W, Below w.heap.size w W → Calls Tryd.prog 18 #[sv tx] W fun e w' => e = .returned (.tuple #[.agg #[.int .i64 x.x, .int .i64 x.y, .int .i64 x.z], .bool true]) ∧ Below W.heap.size W w')) := fun k x hx =>
    ⟨rightText x.x x.y x.z, fun W hb => RightText_any x.x x.y x.z W (HT.out.below hb), fun W hb => by
      have h9 := ReadRight_any (rightText x.x x.y x.z) W (HT.out.below hb) (HM.out.below hb) (by have := rightText_len x.x x.y x.z; omega)
      have h8 := read_right hok (List.mem_of_getElem? hx)
      rw [h8.1, h8.2] at h9
      exact h9⟩
  have HR7 : Hid (∀ W, Below w.heap.size w W → Calls Tryd.prog 19 #[.agg #[.int .i64 7, .int .i64 1, .int .i64 3]] W fun e w' => e = .returned (sv [55, 58, 49, 47, 51]) ∧ Below W.heap.size W w') := fun W hb => by
    have h9 := RightText_any 7 1 3 W (HT.out.below hb)
    rw [text_seven] at h9
    exact h9
  obtain ⟨e0, hx0⟩ : ∃ e0, l[0]? = some e0 := ⟨_, List.getElem?_eq_getElem (by omega)⟩
  have hsl : (sellF l e0.x 700 1 2).2 = true → deedDiff l (sellF l e0.x 700 1 2).1 = [e0.x, 700] ∧ sameRights l (sellF l e0.x 700 1 2).1 = false := by
    cases l with
    | nil => simp at hx0
    | cons a es =>
      obtain rfl : a = e0 := by simpa using hx0
      exact fun h => sell_law hD h
  have hse := SellShareS_any A c l e0.x 700 1 2
  obtain ⟨⟨s, sold⟩, hE⟩ : ∃ r, sellF l e0.x 700 1 2 = r := ⟨_, rfl⟩
  rw [hE] at hsl
  unfold SellRet at hse
  rw [hE] at hse
  simp only at hsl hse
  have HSS : Hid (∀ W, Below w.heap.size w W → Calls Tryd.prog 20 #[.slice A l.length c, .int .i64 e0.x, .int .i64 700, .agg #[.int .i64 1, .int .i64 2]] W fun e w' => ∃ A' c', e = .returned (.tuple #[.slice A' s.length c', .bool sold]) ∧ w'.ownsRow W.heap.size 51 3 (.slice A' s.length c') s.length (t3s s) ∧ Below W.heap.size W w') := fun W hb => hse W (hr.below hb) (by omega)
  have HD2 : Hid (∀ W A' c', Below w.heap.size w W → RdT W W.heap.size A' c' s → Calls Tryd.prog 17 #[.slice A l.length c, .slice A' s.length c'] W fun e w' => ∃ A2 c2, e = .returned (.slice A2 (deedDiff l s).length c2) ∧ OwnI w' W.heap.size A2 c2 (deedDiff l s) ∧ Below W.heap.size W w') := fun W A' c' hb h => DeedDiff_any A c l A' c' s W (hr.below hb) h
  have HS2 : Hid (∀ W A' c', Below w.heap.size w W → RdT W W.heap.size A' c' s → Calls Tryd.prog 16 #[.slice A l.length c, .slice A' s.length c'] W fun e w' => e = .returned (.bool (sameRights l s)) ∧ Below W.heap.size W w') := fun W A' c' hb h => SameRights_any A c l A' c' s W (hr.below hb) h
  have HSL := Lib.hid hsl
  obtain ⟨b0, o0, rfl, hb0, hat⟩ : ∃ b o, A = some ⟨b, o, none⟩ ∧ b < w.heap.size ∧ Hid (∀ (k : Nat) (x : T3), l[k]? = some x → w.cell? ⟨b, o + k * 3, none⟩ = some (.int .i64 x.x) ∧ w.cell? ⟨b, o + k * 3 + 1, none⟩ = some (.int .i64 x.y) ∧ w.cell? ⟨b, o + k * 3 + 2, none⟩ = some (.int .i64 x.z)) := by
    obtain ⟨b, o, -, rfl, hbb, -, -, -, -⟩ := hr.at_ (k := 0) (by omega)
    refine ⟨b, o, rfl, hbb, fun k x hx => ?_⟩
    obtain ⟨b', o', y, hA, -, hy, q0, q1, q2⟩ := hr.at_ (List.getElem?_eq_some_iff.1 hx).1
    simp only [Option.some.injEq, Addr.mk.injEq, and_true] at hA
    obtain ⟨rfl, rfl⟩ := hA
    obtain rfl := Option.some.inj (hx.symm.trans hy)
    exact ⟨q0, q1, q2⟩
  have HX0 := Lib.hid hx0
  have g1 : ¬ 9223372036854775807 < t.length + 1 := by omega
  have hl12 := hlen.2
  have hl1 := hlen.1
  clear hsl hse hE hD hr hB00 hok hlen hrd htd hx0
  have hB := Below.refl w.heap.size w
  have hsv := sv_spL t
  have e1 : ((t.length : Int) == 0) = false := beq_eq_false_iff_ne.2 (by omega)
  have e2 : ¬ (t.length : Int) = 0 := by omega
  go_wp2_with fail
  refine (HDT.out _ hB).mono ?_
  rintro e w2 ⟨rfl, hb⟩
  replace hB := hB.trans (Below.mono hb hB.size)
  have hz_w2 : w.heap.size ≤ w2.heap.size := Below.size hb
  clear hb
  go_wp2_with fail
  refine (HRD.out _ hB).mono ?_
  rintro e w3 ⟨Ar, cr, rfl, hor, hb⟩
  have hr_r := Row2.born hor
  replace hB := hB.trans (Below.mono hb hB.size)
  have hz_w3 : w2.heap.size ≤ w3.heap.size := Below.size hb
  clear hb
  clear hor HDT HRD
  go_wp2_with fail
  refine (HRB.out _ hB).mono ?_
  rintro e w4 ⟨Ax, cx, rfl, hb⟩
  replace hB := hB.trans (Below.mono hb hB.size)
  have hz_w4 : w3.heap.size ≤ w4.heap.size := Below.size hb
  replace hr_r := Row2.below hr_r hb (by omega)
  clear hb
  clear HRB
  go_wp2_with fail
  refine (HSR.out _ _ _ hB hr_r.rd).mono ?_
  rintro e w5 ⟨rfl, hb⟩
  replace hB := hB.trans (Below.mono hb hB.size)
  have hz_w5 : w4.heap.size ≤ w5.heap.size := Below.size hb
  replace hr_r := Row2.below hr_r hb (by omega)
  clear hb
  clear HSR
  go_wp2_with fail
  refine (HDD.out _ _ _ hB hr_r.rd).mono ?_
  rintro e w6 ⟨Ay, cy, rfl, hb⟩
  replace hB := hB.trans (Below.mono hb hB.size)
  have hz_w6 : w5.heap.size ≤ w6.heap.size := Below.size hb
  clear hb
  clear HDD hr_r
  go_wp2_with fail
  go_loopw [9] (fun i wr => ∃ (k : Nat), k ≤ l.length ∧ i = .int .i64 k ∧ Below w.heap.size w wr) (fun i _ => l.length - (intOf i).toNat)
  case atStart => exact ⟨0, Nat.zero_le _, rfl, hB⟩
  case round =>
    clear hB
    obtain ⟨k, hk, rfl, hB⟩ := hrel
    have hbs := hB.size
    by_cases hlt : k < l.length
    · obtain ⟨x, hx⟩ : ∃ x, l[k]? = some x := ⟨_, List.getElem?_eq_getElem hlt⟩
      obtain ⟨q0, q1, q2⟩ := hat.out k x hx
      obtain ⟨tx, ht1, ht2⟩ := HRR.out k x hx
      have HT1 := Lib.hid ht1
      have HT2 := Lib.hid ht2
      obtain ⟨x1, x2, x3⟩ := x
      simp only at q0 q1 q2 HT1 HT2
      have f0 : wr.cell? ⟨b0, o0 + k * 3, none⟩ = some (.int .i64 x1) := (hB.cell (p := ⟨b0, _, none⟩) hb0).trans q0
      have f1 : wr.cell? ⟨b0, o0 + k * 3 + 1, none⟩ = some (.int .i64 x2) := (hB.cell (p := ⟨b0, _, none⟩) hb0).trans q1
      have f2 : wr.cell? ⟨b0, o0 + k * 3 + 2, none⟩ = some (.int .i64 x3) := (hB.cell (p := ⟨b0, _, none⟩) hb0).trans q2
      have hlb : b0 < wr.heap.size := by omega
      have hk0 : (0 : Int) ≤ (k : Int) := by omega
      have hk1 : (k : Int) < (l.length : Int) := by omega
      have d1 : (x1 != x1) = false := by simp
      have d2 : (x2 != x2) = false := by simp
      have d3 : (x3 != x3) = false := by simp
      clear ht1 ht2 hx
      go_wp2_with fail
      refine (HT1.out _ hB).mono ?_
      rintro e w7 ⟨rfl, hb⟩
      replace hB := hB.trans (Below.mono hb hB.size)
      have hz_w7 : wr.heap.size ≤ w7.heap.size := Below.size hb
      clear hb
      clear f0 f1 f2 HT1
      go_wp2_with fail
      refine (HT2.out _ hB).mono ?_
      rintro e w8 ⟨rfl, hb⟩
      replace hB := hB.trans (Below.mono hb hB.size)
      have hz_w8 : w7.heap.size ≤ w8.heap.size := Below.size hb
      clear hb
      clear HT2
      go_upto_region 13 with fail
      first | refine name_world ?_ | refine name_wp ?_
      intro W9 hW
      have kb_a : Blk W9 w8.heap.size 51 #[.int .i64 x1, .int .i64 x2, .int .i64 x3] := by rw [hW]; exact blkT
      have hB9 : Below w.heap.size w W9 := by rw [hW]; exact tacT
      clear hW hB
      have f0 : W9.cell? ⟨b0, o0 + k * 3, none⟩ = some (.int .i64 x1) := (hB9.cell (p := ⟨b0, _, none⟩) hb0).trans q0
      have f1 : W9.cell? ⟨b0, o0 + k * 3 + 1, none⟩ = some (.int .i64 x2) := (hB9.cell (p := ⟨b0, _, none⟩) hb0).trans q1
      have f2 : W9.cell? ⟨b0, o0 + k * 3 + 2, none⟩ = some (.int .i64 x3) := (hB9.cell (p := ⟨b0, _, none⟩) hb0).trans q2
      have hlb9 : b0 < W9.heap.size := by have := hB9.size; omega
      have kc_a := kb_a.cells
      have hl_a := kb_a.lt
      go_quiet (fail)
      go_wp2_with fail
      go_roundw
      case rel => exact ⟨k + 1, by omega, by go_num, by have hB := hB9; repeat' (first | (with_reducible exact Below.refl _ _) | (with_reducible assumption) | (with_reducible refine Below.alloc ?_ ?_ _) | (with_reducible refine Below.setCell ?_ ?_ _) | (with_reducible refine Below.drew ?_) | (with_reducible refine below_drewN ?_ _) | (refine Below.trans ?_ (Below.mono (by with_reducible assumption) ?_)) | omega | (simp; done) | (simp; omega))⟩
      case measure => simp [intOf]; omega
    · obtain rfl : k = l.length := by omega
      have hk1 : ¬ (l.length : Int) < (l.length : Int) := by omega
      obtain ⟨q0, -, -⟩ := hat.out 0 e0 HX0.out
      rw [Nat.zero_mul, Nat.add_zero] at q0
      have f0 : wr.cell? ⟨b0, o0, none⟩ = some (.int .i64 e0.x) := (hB.cell (p := ⟨b0, _, none⟩) hb0).trans q0
      have hl0' : (0 : Int) < (l.length : Int) := by omega
      obtain ⟨ow, how⟩ : ∃ ow, ow = e0.x := ⟨_, rfl⟩
      rw [← how] at f0 HSS HSL q0
      have HQ0 := Lib.hid q0
      clear how q0 HRR hat HX0
      go_wp2_with fail
      refine (HSS.out _ hB).mono ?_
      rintro e w7 ⟨As, cs, rfl, hos, hb⟩
      have hr_s := Row2.born hos
      replace hB := hB.trans (Below.mono hb hB.size)
      have hz_w7 : wr.heap.size ≤ w7.heap.size := Below.size hb
      clear hb
      clear hos HSS f0
      cases sold
      · go_wp2_with fail
        refine (HD2.out _ _ _ hB hr_s.rd).mono ?_
        rintro e w8 ⟨Ad, cd, rfl, -, hb⟩
        replace hB := hB.trans (Below.mono hb hB.size)
        have hz_w8 : w7.heap.size ≤ w8.heap.size := Below.size hb
        clear hb
        clear HD2 HS2 HSL
        have f_l : ∀ z9 : NewW w8, z9.w.cell? ⟨b0, o0, none⟩ = some (.int .i64 ow) := fun z9 => ((hB.trans (Below.mono (NewW.h z9) hB.size)).cell (p := ⟨b0, _, none⟩) hb0).trans HQ0.out
        go_wp2_with fail
        refine wp_region_new (by kernel_rfl) (by kernel_rfl) ?_
        repeat (go_big_quiet_step (first | (go_at_call 19; exact NewW.call (HR7.out _ (hB.trans (Below.mono (NewW.h _) hB.size))))))
        refine wpQuiet_nil ?_
        intro w9 hw'
        obtain ⟨hx, hw''⟩ := hw'
        have hb9 := hx.h
        rw [← hw''] at hb9
        clear hw'' hx
        go_wp2_with fail
        go_ret
        exact ⟨rfl, HB0.out.trans ((hB.trans (hb9.mono hB.size)).mono HB0.out.size)⟩
      · have hd2 := HSL.out rfl
        have HD3 : Hid (∀ W A' c', Below w.heap.size w W → RdT W W.heap.size A' c' s → Calls Tryd.prog 17 #[.slice (some ⟨b0, o0, none⟩) l.length c, .slice A' s.length c'] W fun e w' => ∃ A2 c2, e = .returned (.slice A2 2 c2) ∧ OwnI w' W.heap.size A2 c2 [ow, 700] ∧ Below W.heap.size W w') := fun W A' c' hb h => by
          have h9 := HD2.out W A' c' hb h
          rw [hd2.1] at h9
          exact h9
        have HS3 : Hid (∀ W A' c', Below w.heap.size w W → RdT W W.heap.size A' c' s → Calls Tryd.prog 16 #[.slice (some ⟨b0, o0, none⟩) l.length c, .slice A' s.length c'] W fun e w' => e = .returned (.bool false) ∧ Below W.heap.size W w') := fun W A' c' hb h => by
          have h9 := HS2.out W A' c' hb h
          rw [hd2.2] at h9
          exact h9
        clear hd2 HD2 HS2 HSL
        go_wp2_with fail
        refine (HD3.out _ _ _ hB hr_s.rd).mono ?_
        rintro e w8 ⟨Ad, cd, rfl, hod, hb⟩
        obtain ⟨b9, o9, z0, rfl, hb9', hz0, hc0⟩ := hod.rd.at_ (k := 0) (by simp)
        obtain ⟨b8, o8, z1, hA9, -, hz1, hc1⟩ := hod.rd.at_ (k := 1) (by simp)
        simp only [Option.some.injEq, Addr.mk.injEq, and_true] at hA9
        obtain ⟨rfl, rfl⟩ := hA9
        obtain rfl : ow = z0 := by simpa using hz0
        obtain rfl : (700 : Int) = z1 := by simpa using hz1
        rw [Nat.add_zero] at hc0
        replace hB := hB.trans (Below.mono hb hB.size)
        have hz_w8 : w7.heap.size ≤ w8.heap.size := Below.size hb
        replace hr_s := Row2.below hr_s hb (by omega)
        clear hb
        clear hod HD3 hz0 hz1
        have f_l : ∀ z9 : NewW w8, z9.w.cell? ⟨b0, o0, none⟩ = some (.int .i64 ow) := fun z9 => ((hB.trans (Below.mono (NewW.h z9) hB.size)).cell (p := ⟨b0, _, none⟩) hb0).trans HQ0.out
        have f_0 : ∀ z9 : NewW w8, z9.w.cell? ⟨b9, o9, none⟩ = some (.int .i64 ow) := fun z9 => ((NewW.h z9).cell (p := ⟨b9, _, none⟩) hb9').trans hc0
        have f_1 : ∀ z9 : NewW w8, z9.w.cell? ⟨b9, o9 + 1, none⟩ = some (.int .i64 700) := fun z9 => ((NewW.h z9).cell (p := ⟨b9, _, none⟩) hb9').trans hc1
        have HRS := Lib.hid hr_s.rd
        clear hr_s
        go_wp2_with fail
        refine wp_region_new (by kernel_rfl) (by kernel_rfl) ?_
        repeat (go_big_quiet_step (first | (go_at_call 19; exact NewW.call (HR7.out _ (hB.trans (Below.mono (NewW.h _) hB.size)))) | (go_at_call 16; exact NewW.call (HS3.out _ _ _ (hB.trans (Below.mono (NewW.h _) hB.size)) (Rd.newW HRS.out _)))))
        refine wpQuiet_nil ?_
        intro w9 hw'
        obtain ⟨hx, hw''⟩ := hw'
        have hb9 := hx.h
        rw [← hw''] at hb9
        clear hw'' hx
        go_wp2_with fail
        go_ret
        exact ⟨rfl, HB0.out.trans ((hB.trans (hb9.mono hB.size)).mono HB0.out.size)⟩
theorem tab_of_FnDeeds {W : World} (h : laidMetH Tryd.prog [("math/bits.deBruijn32tab", Rows.laid_math_bits_deBruijn32tab), ("math/bits.deBruijn64tab", Rows.laid_math_bits_deBruijn64tab), ("internal/strconv.uint64pow10", Rows.laid_internal_strconv_uint64pow10), ("unicode/utf8.acceptRanges", Rows.laid_unicode_utf8_acceptRanges), ("unicode/utf8.first", Rows.laid_unicode_utf8_first)] W) : Tab W := by
  rw [MakeChecks.laidMetH_plain _ _ _ (by kernel_rfl)] at h
  exact Lib.tabIs_of_head (g := 1) (t := 146) (e := 135) (n := 20) (by kernel_rfl) (by kernel_rfl) Tryd.underlying146 Tryd.underlying135 (by kernel_rfl) (by kernel_rfl) ((h).tail).tail
theorem door_met_FnDeeds (os : Os) (args : Array Value) : laidMetH Tryd.prog [("math/bits.deBruijn32tab", Rows.laid_math_bits_deBruijn32tab), ("math/bits.deBruijn64tab", Rows.laid_math_bits_deBruijn64tab), ("internal/strconv.uint64pow10", Rows.laid_internal_strconv_uint64pow10), ("unicode/utf8.acceptRanges", Rows.laid_unicode_utf8_acceptRanges), ("unicode/utf8.first", Rows.laid_unicode_utf8_first)] ((World.laidAll Tryd.prog os [("math/bits.deBruijn32tab", Rows.laid_math_bits_deBruijn32tab), ("math/bits.deBruijn64tab", Rows.laid_math_bits_deBruijn64tab), ("internal/strconv.uint64pow10", Rows.laid_internal_strconv_uint64pow10), ("unicode/utf8.acceptRanges", Rows.laid_unicode_utf8_acceptRanges), ("unicode/utf8.first", Rows.laid_unicode_utf8_first)]).forCall (fun _ _ => 0) ⟨#[], args, []⟩).memory :=
  by
  rw [MakeChecks.laidMetH_plain _ _ _ (by kernel_rfl)]
  exact laidMet_laidAll _ (by kernel_rfl) (by kernel_rfl)
set_option maxRecDepth 100000 in
theorem lifted_FnDeeds (os : Os) (started : os.Started) (H : Type) (enc : TypeId × Value → H) :
    ReturnsInHanded {} Tryd.checked os 5 .any (fun w args => (Rows.fnDeedsSpec.pre enc Tryd.prog Tryd.f5 [] false w args ∧ laidMetH Tryd.prog [("math/bits.deBruijn32tab", Rows.laid_math_bits_deBruijn32tab), ("math/bits.deBruijn64tab", Rows.laid_math_bits_deBruijn64tab), ("internal/strconv.uint64pow10", Rows.laid_internal_strconv_uint64pow10), ("unicode/utf8.acceptRanges", Rows.laid_unicode_utf8_acceptRanges), ("unicode/utf8.first", Rows.laid_unicode_utf8_first)] w) ∧ sizedMet enc Tryd.prog Tryd.f5 (OpenSpec.ofChange Rows.fnDeedsSpec) false w args) (Rows.fnDeedsSpec.post enc Tryd.prog Tryd.f5 false true false false) := by
  refine wrap_shaped (C := Tryd.checked) (X := fun w => laidMetH Tryd.prog [("math/bits.deBruijn32tab", Rows.laid_math_bits_deBruijn32tab), ("math/bits.deBruijn64tab", Rows.laid_math_bits_deBruijn64tab), ("internal/strconv.uint64pow10", Rows.laid_internal_strconv_uint64pow10), ("unicode/utf8.acceptRanges", Rows.laid_unicode_utf8_acceptRanges), ("unicode/utf8.first", Rows.laid_unicode_utf8_first)] w) (fun _ _ hh h => h.of_heap hh) own_knob started (by kernel_rfl) Tryd.func5
    (ChangeSpec.witness_shaped (enc := enc) (C := Tryd.checked) (os := os) (X := fun w _ => laidMetH Tryd.prog [("math/bits.deBruijn32tab", Rows.laid_math_bits_deBruijn32tab), ("math/bits.deBruijn64tab", Rows.laid_math_bits_deBruijn64tab), ("internal/strconv.uint64pow10", Rows.laid_internal_strconv_uint64pow10), ("unicode/utf8.acceptRanges", Rows.laid_unicode_utf8_acceptRanges), ("unicode/utf8.first", Rows.laid_unicode_utf8_first)] w) false (World.laidAll Tryd.prog os [("math/bits.deBruijn32tab", Rows.laid_math_bits_deBruijn32tab), ("math/bits.deBruijn64tab", Rows.laid_math_bits_deBruijn64tab), ("internal/strconv.uint64pow10", Rows.laid_internal_strconv_uint64pow10), ("unicode/utf8.acceptRanges", Rows.laid_unicode_utf8_acceptRanges), ("unicode/utf8.first", Rows.laid_unicode_utf8_first)]) #[.slice none 0 0] 8 (World.laidAll_os _ _ _) (World.shaped_of_ZipB (by kernel_rfl) (by kernel_rfl)) (by kernel_rfl) (by kernel_rfl) (by kernel_rfl) (door_met_FnDeeds os _)) ?_
  intro W base args ds gs before hval0 hW hL hsh
  have ht := tab_of_FnDeeds hL
  have hm : MaxLen W := cell_of_shapedOpen_int (P := Tryd.prog) (g := 0) (t := 3) (zero := #[.int .i64 0]) hsh (of_decide_eq_true (by kernel_rfl)) (by kernel_rfl) rfl (by kernel_rfl) (by kernel_rfl) Tryd.underlying3
  have hval : ∀ (j : Nat) t v, Tryd.f5.params[j]? = some t → args[j]? = some v → Value.okWide Tryd.prog W .any base t v := hval0
  have hW' := hW
  obtain ⟨p, q, hA0, hV, rfl, hfz, hnd⟩ := hW
  have hA : DataW.TrodAll enc Tryd.prog W 0 (fun _ => true) true Tryd.f5.params.toList args.toList ds p := hA0
  rw [Tryd.params5] at hA hval
  obtain ⟨v0, vs0, d0, ds0, p0, q0, hargs, rfl, rfl, h0, r0⟩ := trodAll_cons hA
  obtain ⟨rfl, rfl, rfl⟩ := trodAll_nil r0
  obtain rfl : args = #[v0] := by cases args; simp_all
  obtain ⟨rfl, rfl⟩ := trodVars_none hV
  obtain ⟨A0, c0, l0, rfl, hr0⟩ := arg_bytes (hval 0 28 v0 rfl rfl) h0
  have lt0 : ∀ x ∈ p0, x.block < W.heap.size := by obtain ⟨m, hm⟩ := h0; exact DataW.trod_lt m _ _ _ hm
  clear hA0 hval0
  refine (walk_FnDeeds W ht hm A0 c0 l0 hr0).mono fun e W' ⟨he, bel⟩ => ?_
  subst he
  exact ⟨_, rfl, _, _, _, [], _, [], hW', trodAll_mk1 (shut_bool Tryd.underlying4 _), (trodAll_cons_mk (Below.trod laid_out (by kernel_rfl) (of_decide_eq_true (by kernel_rfl)) h0 bel lt0) trodAll_mk0), rfl, bel.frame _, fun h => by cases h⟩

theorem fnDeeds_row : Rows.FnDeedsSaid :=
  OpenClaim.holds_of_wide 5 Tryd.f5 rfl rfl rfl rfl rfl rfl rfl ⟨rfl, rfl, rfl, rfl, rfl⟩ rfl rfl rfl rfl rfl (by kernel_rfl) Tryd.func5 (by kernel_rfl)
    (of_decide_eq_true (by kernel_rfl)) (by unfold Func.isWrapper; rw [if_neg (by decide +kernel)]; exact ⟨rfl, rfl⟩)
    (fun os started H enc _ => lifted_FnDeeds os started H enc)

theorem fnDeeds_holds : Rows.FnDeedsCardSaid :=
  Claim7.holds_tied_plain_at .later [] [.data, .data, .data, .data, .pinned] true (true, "e052a9a80911a7c98e72b18267fa447445759f646e6cd231b6fb30e0babf7d15") false
    fnDeeds_row (fun _ h => by cases h) (by kernel_rfl) (fun _ h => by cases h) fnDeeds_row_tie rfl ⟨rfl, rfl⟩ (by kernel_rfl) rfl
    (fun f fn hf hfn => by
      obtain rfl : f = 5 := Option.some.inj ((show Tryd.prog.funcNamed "loop.example/g03307/laws.FnDeeds" = some 5 by kernel_rfl).symm.trans hf) |>.symm
      obtain rfl : fn = Tryd.f5 := (Option.some.inj (Tryd.func5.symm.trans hfn)).symm
      exact ⟨by kernel_rfl, fun j t ht => by
        rw [Tryd.params5] at ht
        have hm : t ∈ [28] := by simpa using Array.mem_of_getElem? ht
        have hall : ([28].all fun u => !Tryd.prog.wantsStandIn u) = true := by kernel_rfl
        exact (show Tryd.prog.wantsStandIn t = false by simpa using List.all_eq_true.1 hall t hm)⟩)
    (by kernel_rfl)
end Go.Proofs.YtpmmjhpmheooeaaDoor
