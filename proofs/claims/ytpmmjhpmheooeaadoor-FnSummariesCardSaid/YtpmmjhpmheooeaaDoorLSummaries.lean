/- The law FnSummaries answers true for every code. No conditions. -/
import Derived.Test.YtpmmjhpmheooeaaDoorActDraw
import Derived.Test.YtpmmjhpmheooeaaDoorFmtV
import Derived.Test.YtpmmjhpmheooeaaDoorReadDeed
import Derived.Test.YtpmmjhpmheooeaaDoorSame
import Derived.Test.YtpmmjhpmheooeaaDoorOpenBytes
import Derived.Test.YtpmmjhpmheooeaaDoorWrap
import Derived.Test.YtpmmjhpmheooeaaDoorTie
import Derived.Test.YtpmmjhpmheooeaaDoorCards
import Derived.SevenTiedAt
import Derived.LaidMore
import Derived.Lay
import Derived.OpenShut
import Derived.Stop.Joined
import Derived.Stop.LaidErr
import Derived.ProofKit
import Derived.LaidLaws
import Derived.Lib.LaidTab
import Derived.Deep.DeepCutAuto
import Derived.BigRegion
namespace Go.Proofs.YtpmmjhpmheooeaaDoor
set_option linter.unusedSimpArgs false
set_option linter.unusedVariables false
open Go.ChangeShapes Go.WideShapes Go.ChangeAt Go.RowKit
set_option maxRecDepth 20000
set_option maxHeartbeats 6400000 in
theorem walk_FnSummaries (w0 : World) (ht : Tab w0) (hm : MaxLen w0) (A0 : Option Addr) (c0 : Nat) (l0 : List Int) (h0 : RdY w0 w0.heap.size A0 c0 l0) :
    Calls Tryd.prog 6 #[.slice A0 l0.length c0] w0 fun e wi' => e = .returned (.bool true) ∧ Below w0.heap.size w0 wi' := by
  obtain ⟨hl0, hm0⟩ := h0.le
  by_cases hbig : (1048576 : Int) < l0.length
  · go_enter Tryd.func6, Tryd.ntmps6
    go_wp2_with fail
    refine (big_any A0 l0.length c0 w0 (by omega)).mono ?_
    rintro e w1 ⟨rfl, rfl⟩
    go_wp2_with fail
    go_ret
    exact ⟨rfl, Below.refl _ _⟩
  have hs : l0.length ≤ 1048576 := by omega
  have hbd : decide ((1048576 : Int) < l0.length) = false := by simpa using hbig
  go_enter Tryd.func6, Tryd.ntmps6
  go_wp2_with fail
  refine (big_any A0 l0.length c0 w0 (by omega)).mono ?_
  rintro e w1 ⟨rfl, rfl⟩
  rw [hbd]
  go_wp2_with fail
  refine (DrawActs_any A0 c0 l0 w0 h0 hs).mono ?_
  rintro e w ⟨A, c, R, d, v, B, n, acts, rfl, ⟨hv, hok, hal⟩, hr1, hr2, hr3, hB00⟩
  have HB0 := Lib.hid hB00
  have HT : Hid (Tab w) := ht.below hB00
  have HM : Hid (MaxLen w) := hm.below hB00
  obtain ⟨⟨room, start, l, lv, ra, dr, lo⟩, rs⟩ := v
  simp only at hr1 hr2
  have hvp := vg_both hv
  have hbk := book_bounds hvp.1
  have hrf := rights_facts hvp.2
  simp only at hvp hbk hrf
  have hr12 := hrf.1
  have hrd := rd_of hvp.2
  have hmb := may_small ⟨⟨room, start, l, lv, ra, dr, lo⟩, rs⟩
  have hfm := fmtV_yes hv
  obtain ⟨fm, hfmd⟩ : ∃ fm, fm = fmtV ⟨⟨room, start, l, lv, ra, dr, lo⟩, rs⟩ := ⟨_, rfl⟩
  obtain ⟨dt, hdt⟩ : ∃ dt, dt = deedText rs := ⟨_, rfl⟩
  obtain ⟨hd, hhd⟩ : ∃ hd, hd = fvHead ⟨room, start, l, lv, ra, dr, lo⟩ := ⟨_, rfl⟩
  have hdl := deed_len (l := rs)
  rw [← hdt] at hrd hdl
  have HFV : Hid (∀ W, Below w.heap.size w W → Calls Tryd.prog 21 #[.agg #[.int .i64 room, .int .i64 start, .slice A l.length c, .int .i64 lv, .int .i64 ra, .int .i64 dr, .int .i64 lo, .slice R rs.length d]] W fun e w' => ∃ A' c', e = .returned (.slice A' fm.length c') ∧ OwnSt w' W.heap.size A' c' fm ∧ Below W.heap.size W w') := fun W hb => by rw [hfmd]; exact FormatVillage_any A c R d ⟨⟨room, start, l, lv, ra, dr, lo⟩, rs⟩ W (hr1.below hb) (hr2.below hb) (by show l.length ≤ _; omega) (HT.out.below hb)
  have HMD : Hid (∀ W o, Below w.heap.size w W → Calls Tryd.prog 23 #[.agg #[.int .i64 room, .int .i64 start, .slice A l.length c, .int .i64 lv, .int .i64 ra, .int .i64 dr, .int .i64 lo, .slice R rs.length d], .int .i64 o] W fun e w' => e = .returned (.int .i64 (mayDrink ⟨⟨room, start, l, lv, ra, dr, lo⟩, rs⟩ o)) ∧ Below W.heap.size W w') := fun W o hb => MayDrink_any A c R d ⟨⟨room, start, l, lv, ra, dr, lo⟩, rs⟩ o W (hr1.below hb) (hr2.below hb) (by show l.length ≤ _; omega)
  have HRD : Hid (∀ W, Below w.heap.size w W → Calls Tryd.prog 15 #[sv dt] W fun e w' => ∃ A' c', e = .returned (.tuple #[.slice A' rs.length c', .bool true]) ∧ w'.ownsRow W.heap.size 51 3 (.slice A' rs.length c') rs.length (t3s rs) ∧ Below W.heap.size W w') := fun W hb => by
    have h9 := ReadDeed_any dt W (HT.out.below hb) (HM.out.below hb) (by omega)
    rw [hrd.1, hrd.2] at h9
    exact h9
  have HSR : Hid (∀ W A' c', Below w.heap.size w W → RdT W W.heap.size A' c' rs → Calls Tryd.prog 16 #[.slice A' rs.length c', .slice R rs.length d] W fun e w' => e = .returned (.bool true) ∧ Below W.heap.size W w') := fun W A' c' hb h => by
    have h9 := SameRights_any A' c' rs R d rs W h (hr2.below hb)
    rw [show sameRights rs rs = true by unfold sameRights; rw [hvp.2]; simp] at h9
    exact h9
  have HFI : Hid (∀ n W, Below w.heap.size w W → (-1000000000 ≤ n ∧ n ≤ 1000000000000) → Calls Tryd.prog 22 #[.int .i64 n] W fun e w' => e = .returned (sv (Lib.itoa n)) ∧ Below W.heap.size W w') := fun n W hb hn => FormatInt_any n W (by omega) (by omega) (HT.out.below hb)
  have hfl : fm.length = 2 + rs.length := by rw [hfmd, hfm, List.length_append, fvLines_len]; rfl
  have hf0 : fm[0]? = some hd := by rw [hfmd, hfm, hhd]; rfl
  have hf1 : fm[1]? = some dt := by rw [hfmd, hfm, hdt]; rfl
  have hf2 : ∀ (k : Nat) (e : T3), rs[k]? = some e → fm[2 + k]? = some (Lib.itoa e.x ++ [32] ++ Lib.itoa (mayDrink ⟨⟨room, start, l, lv, ra, dr, lo⟩, rs⟩ e.x)) := fun k e he => by
    rw [hfmd, hfm, List.getElem?_append_right (by simp), show 2 + k - [fvHead ⟨room, start, l, lv, ra, dr, lo⟩, deedText rs].length = k by simp]
    unfold fvLines
    rw [List.getElem?_map, he]; rfl
  unfold fvHead at hhd
  simp only at hhd
  have HHD := Lib.hid hhd
  have HF0 := Lib.hid hf0
  have HF1 := Lib.hid hf1
  have HF2 := Lib.hid hf2
  have HMB := Lib.hid hmb
  have HXB : Hid (∀ e ∈ rs, 1 ≤ e.x ∧ e.x ≤ 999) := fun e he => (hrf.2.2 e he).2.2
  have HR2 := Lib.hid hr2
  have HFL := Lib.hid hfl
  have hb4 : (-1000000000 ≤ lv ∧ lv ≤ 1000000000000) ∧ (-1000000000 ≤ ra ∧ ra ≤ 1000000000000) ∧ (-1000000000 ≤ dr ∧ dr ≤ 1000000000000) ∧ (-1000000000 ≤ lo ∧ lo ≤ 1000000000000) := by omega
  have HB4 := Lib.hid hb4
  unfold Vg.val
  clear hv hok hr1 hr2 hr3 hB00 hfm hfmd hdt hhd hf0 hf1 hf2 hrd hvp hrf hmb hfl hb4
  have hB := Below.refl w.heap.size w
  go_wp2_with fail
  first | refine name_world ?_ | refine name_wp ?_
  intro W1 hW
  replace hB : Below w.heap.size w W1 := by rw [hW]; exact tacT
  have hz_W1 : w.heap.size ≤ W1.heap.size := by rw [hW]; exact sT
  replace kb_p : Blk W1 (w.heap.size) 35 #[.int .i64 room, .int .i64 start, .slice A l.length c, .int .i64 lv, .int .i64 ra, .int .i64 dr, .int .i64 lo, .slice R rs.length d] := by rw [hW]; exact blkT
  have hLW1_p := kb_p.lt
  try clear kc_p kf_p
  clear hW
  refine (HFV.out _ hB).mono ?_
  rintro e w2 ⟨A2, c2, rfl, ho, hb⟩
  obtain ⟨bl, ol, rfl, hbl, hfc⟩ := (OwnSt.rd ho).at_ (k := 0) (by rw [HFL.out]; omega)
  have HFC := Lib.hid hfc
  replace hB := hB.trans (Below.mono hb hB.size)
  have hz_w2 : W1.heap.size ≤ w2.heap.size := Below.size hb
  replace kb_p := kb_p.mv hb; obtain ⟨kb_p, kc_p, kf_p, hl_p, hn_p⟩ := kb_p
  clear hb
  clear ho HFV hfc
  go_upto_region 6 with fail
  first | refine name_world ?_ | refine name_wp ?_
  intro W3 hW
  replace hB : Below w.heap.size w W3 := by rw [hW]; exact tacT
  have hp_W3 : Below w2.heap.size w2 W3 := by rw [hW]; exact tacT
  have hz_W3 : w2.heap.size ≤ W3.heap.size := by rw [hW]; exact sT
  replace kb_p : Blk W3 (w.heap.size) 35 #[.int .i64 room, .int .i64 start, .slice A l.length c, .int .i64 lv, .int .i64 ra, .int .i64 dr, .int .i64 lo, .slice R rs.length d] := by rw [hW]; exact blkT
  have hLW3_p := kb_p.lt
  replace kb_b : Blk W3 (w2.heap.size) 32 #[.int .i64 room, .int .i64 start, .slice A l.length c, .int .i64 lv, .int .i64 ra, .int .i64 dr, .int .i64 lo] := by rw [hW]; exact blkT
  have hLW3_b := kb_b.lt
  try clear kc_p kf_p
  try clear kc_b kf_b
  clear hW
  have HF3 : Hid (∀ (W : World) (j : Nat) (x : List UInt8), Below W3.heap.size W3 W → fm[j]? = some x → W.cell? ⟨bl, ol + j, none⟩ = some (sv x)) := fun W j x hW hj => (hW.cell (p := ⟨bl, _, none⟩) (by show bl < W3.heap.size; omega)).trans ((hp_W3.cell (p := ⟨bl, _, none⟩) hbl).trans (HFC.out j x hj))
  have hBW3 := Lib.hid hB
  have HKP := Lib.hid kb_p
  have HKB := Lib.hid kb_b
  have hzl : bl < W3.heap.size := by omega
  have hzw := hB.size
  have hfl := HFL.out
  have hw2 : IntKind.i64.wrap (2 + (rs.length : Int)) = 2 + (rs.length : Int) := IntWalk.i64_in _ (by omega)
  have d1 : ((fm.length : Int) != 2 + (rs.length : Int)) = false := bne_eq_false_iff_eq.2 (by omega)
  have d2 : (fm.length : Int) = 2 + (rs.length : Int) := by omega
  have kc_p := kb_p.cells
  have hl_p := kb_p.lt
  clear kb_p kb_b HFC hp_W3
  go_wp2_with fail
  clear d1 d2 hw2 kc_p hl_p
  go_loopw [7] (fun i wr => ∃ (k : Nat), k ≤ rs.length ∧ i = .int .i64 k ∧ Below W3.heap.size W3 wr) (fun i _ => rs.length - (intOf i).toNat)
  case atStart => exact ⟨0, Nat.zero_le _, rfl, Below.refl _ _⟩
  case round =>
    clear hB
    obtain ⟨k, hk, rfl, hB3⟩ := hrel
    have hbs := hB3.size
    have kb_p := HKP.out.below hB3 HKP.out.lt
    have kc_p := kb_p.cells
    have hl_p := kb_p.lt
    by_cases hlt : k < rs.length
    · obtain ⟨bb, oo, x, rfl, hbb, hx, q0, q1, q2⟩ := HR2.out.at_ hlt
      have hBw := hBW3.out.trans (hB3.mono hBW3.out.size)
      have f0 : wr.cell? ⟨bb, oo + k * 3, none⟩ = some (.int .i64 x.x) := (hBw.cell (p := ⟨bb, _, none⟩) hbb).trans q0
      have hlb : bb < wr.heap.size := by omega
      have hk0 : (0 : Int) ≤ (k : Int) := by omega
      have hk1 : (k : Int) < (rs.length : Int) := by omega
      have hxb := HXB.out x (List.mem_of_getElem? hx)
      have hmb := HMB.out x.x
      have hln := HF2.out k x hx
      have HM1 := Lib.hid (fun W (hb : Below w.heap.size w W) => HMD.out W x.x hb)
      obtain ⟨m9, hm9⟩ : ∃ m9, m9 = mayDrink ⟨⟨room, start, l, lv, ra, dr, lo⟩, rs⟩ x.x := ⟨_, rfl⟩
      rw [← hm9] at hmb hln HM1
      obtain ⟨ow, how⟩ : ∃ ow, ow = x.x := ⟨_, rfl⟩
      rw [← how] at hln HM1 hxb f0
      have F1 : Hid (∀ W, Below w.heap.size w W → Calls Tryd.prog 22 #[.int .i64 ow] W fun e w' => e = .returned (sv (Lib.itoa ow)) ∧ Below W.heap.size W w') := fun W hb => HFI.out ow W hb (by omega)
      have F2 : Hid (∀ W, Below w.heap.size w W → Calls Tryd.prog 22 #[.int .i64 m9] W fun e w' => e = .returned (sv (Lib.itoa m9)) ∧ Below W.heap.size W w') := fun W hb => HFI.out m9 W hb (by omega)
      have i5 := fv_itoa (n := ow) (by omega)
      have i6 := fv_itoa (n := m9) (by omega)
      obtain ⟨t1, ht1⟩ : ∃ t1, t1 = Lib.itoa ow := ⟨_, rfl⟩
      obtain ⟨t2, ht2⟩ : ∃ t2, t2 = Lib.itoa m9 := ⟨_, rfl⟩
      rw [← ht1] at F1 hln i5
      rw [← ht2] at F2 hln i6
      have hsv := sv_lineV t1 t2
      obtain ⟨ln, hlnd⟩ : ∃ ln, ln = t1 ++ [32] ++ t2 := ⟨_, rfl⟩
      rw [← hlnd] at hsv hln
      have c8 : ¬ 9223372036854775807 < t1.length + 1 := by omega
      have c9 : ¬ 9223372036854775807 < t1.length + 1 + t2.length := by omega
      have hw3 : IntKind.i64.wrap (2 + (k : Int)) = 2 + (k : Int) := IntWalk.i64_in _ (by omega)
      have j0 : (0 : Int) ≤ 2 + (k : Int) := by omega
      have j1 : (2 : Int) + (k : Int) < (fm.length : Int) := by omega
      have j2 : (2 + (k : Int)).toNat = 2 + k := by omega
      have dl : (ln != ln) = false := by simp
      have HBZ : Hid (∀ z9 : NewW wr, Below w.heap.size w z9.w) := fun z9 => hBw.trans ((NewW.h z9).mono hBw.size)
      have f_l : ∀ z9 : NewW wr, z9.w.cell? ⟨bl, ol + (2 + k), none⟩ = some (sv ln) := fun z9 => HF3.out _ _ _ (hB3.trans ((NewW.h z9).mono hB3.size)) hln
      have f_p : ∀ (z9 : NewW wr) (i : Nat), z9.w.cell? ⟨w.heap.size, i, none⟩ = #[.int .i64 room, .int .i64 start, .slice A l.length c, .int .i64 lv, .int .i64 ra, .int .i64 dr, .int .i64 lo, .slice (some ⟨bb, oo, none⟩) rs.length d][i]? := fun z9 i => (kb_p.newW z9).cells i
      clear hx hm9 how ht1 ht2 hlnd q0 q1 q2 hln hBw
      go_upto_region 12 with fail
      clear f0 kc_p kb_p
      refine wp_region_new (by kernel_rfl) (by kernel_rfl) ?_
      repeat (go_big_quiet_step (first | (go_at_call 23; exact NewW.call (HM1.out _ (HBZ.out _))) | (go_at_call 22; first | exact NewW.call (F1.out _ (HBZ.out _)) | exact NewW.call (F2.out _ (HBZ.out _)))))
      refine wpQuiet_nil ?_
      intro w4 hw'
      obtain ⟨hx, hw''⟩ := hw'
      have hb4 := hx.h
      rw [← hw''] at hb4
      clear hw'' hx
      go_wp2_with fail
      go_roundw
      case rel => exact ⟨k + 1, by omega, by go_num, hB3.trans (hb4.mono hB3.size)⟩
      case measure => simp [intOf]; omega
    · obtain rfl : k = rs.length := by omega
      have hk1 : ¬ (rs.length : Int) < (rs.length : Int) := by omega
      have j0 : (0 : Int) < (fm.length : Int) := by omega
      have j1 : (1 : Int) < (fm.length : Int) := by omega
      have hBw := hBW3.out.trans (hB3.mono hBW3.out.size)
      have f1 : wr.cell? ⟨bl, ol + 1, none⟩ = some (sv dt) := HF3.out _ _ _ hB3 HF1.out
      have hlb : bl < wr.heap.size := by omega
      go_wp2_with fail
      refine (HRD.out _ hBw).mono ?_
      rintro e w5 ⟨Ar, cr, rfl, hor, hb⟩
      have HRr := Lib.hid (Rd.of_own hor)
      have hB5 := hB3.trans (hb.mono hB3.size)
      have hbs5 := hB5.size
      have kb_q := HKP.out.below hB5 HKP.out.lt
      have kb_b := HKB.out.below hB5 HKB.out.lt
      have HBZ : Hid (∀ z9 : NewW w5, Below w.heap.size w z9.w) := fun z9 => hBW3.out.trans ((hB5.trans ((NewW.h z9).mono hB5.size)).mono hBW3.out.size)
      have f_l : ∀ z9 : NewW w5, z9.w.cell? ⟨bl, ol, none⟩ = some (sv hd) := fun z9 => HF3.out _ 0 _ (hB5.trans ((NewW.h z9).mono hB5.size)) HF0.out
      have f_p : ∀ (z9 : NewW w5) (i : Nat), z9.w.cell? ⟨w.heap.size, i, none⟩ = #[.int .i64 room, .int .i64 start, .slice A l.length c, .int .i64 lv, .int .i64 ra, .int .i64 dr, .int .i64 lo, .slice R rs.length d][i]? := fun z9 i => (kb_q.newW z9).cells i
      have f_b : ∀ (z9 : NewW w5) (i : Nat), z9.w.cell? ⟨w2.heap.size, i, none⟩ = #[.int .i64 room, .int .i64 start, .slice A l.length c, .int .i64 lv, .int .i64 ra, .int .i64 dr, .int .i64 lo][i]? := fun z9 i => (kb_b.newW z9).cells i
      have hhd9 := HHD.out
      have F3 : Hid (∀ W, Below w.heap.size w W → Calls Tryd.prog 22 #[.int .i64 lv] W fun e w' => e = .returned (sv (Lib.itoa lv)) ∧ Below W.heap.size W w') := fun W hb => HFI.out lv W hb HB4.out.1
      have i3 := fv_itoa (n := lv) HB4.out.1
      obtain ⟨t3, ht3⟩ : ∃ t3, t3 = Lib.itoa lv := ⟨_, rfl⟩
      rw [← ht3] at F3 hhd9 i3
      have F4 : Hid (∀ W, Below w.heap.size w W → Calls Tryd.prog 22 #[.int .i64 ra] W fun e w' => e = .returned (sv (Lib.itoa ra)) ∧ Below W.heap.size W w') := fun W hb => HFI.out ra W hb HB4.out.2.1
      have i4 := fv_itoa (n := ra) HB4.out.2.1
      obtain ⟨t4, ht4⟩ : ∃ t4, t4 = Lib.itoa ra := ⟨_, rfl⟩
      rw [← ht4] at F4 hhd9 i4
      have F5 : Hid (∀ W, Below w.heap.size w W → Calls Tryd.prog 22 #[.int .i64 dr] W fun e w' => e = .returned (sv (Lib.itoa dr)) ∧ Below W.heap.size W w') := fun W hb => HFI.out dr W hb HB4.out.2.2.1
      have i5 := fv_itoa (n := dr) HB4.out.2.2.1
      obtain ⟨t5, ht5⟩ : ∃ t5, t5 = Lib.itoa dr := ⟨_, rfl⟩
      rw [← ht5] at F5 hhd9 i5
      have F6 : Hid (∀ W, Below w.heap.size w W → Calls Tryd.prog 22 #[.int .i64 lo] W fun e w' => e = .returned (sv (Lib.itoa lo)) ∧ Below W.heap.size W w') := fun W hb => HFI.out lo W hb HB4.out.2.2.2
      have i6 := fv_itoa (n := lo) HB4.out.2.2.2
      obtain ⟨t6, ht6⟩ : ∃ t6, t6 = Lib.itoa lo := ⟨_, rfl⟩
      rw [← ht6] at F6 hhd9 i6
      have hsv : Value.string (⟨#[108, 101, 118, 101, 108, 32]⟩ ++ ⟨t3.toArray⟩ ++ ⟨#[32, 114, 97, 105, 110, 101, 100, 32]⟩ ++ ⟨t4.toArray⟩ ++ ⟨#[32, 100, 114, 117, 110, 107, 32]⟩ ++ ⟨t5.toArray⟩ ++ ⟨#[32, 108, 111, 115, 116, 32]⟩ ++ ⟨t6.toArray⟩) = sv hd := by rw [sv_head, hhd9]
      have c1 : ¬ 9223372036854775807 < 6 + t3.length := by omega
      have c2 : ¬ 9223372036854775807 < 6 + t3.length + 8 := by omega
      have c3 : ¬ 9223372036854775807 < 6 + t3.length + 8 + t4.length := by omega
      have c4 : ¬ 9223372036854775807 < 6 + t3.length + 8 + t4.length + 7 := by omega
      have c5 : ¬ 9223372036854775807 < 6 + t3.length + 8 + t4.length + 7 + t5.length := by omega
      have c6 : ¬ 9223372036854775807 < 6 + t3.length + 8 + t4.length + 7 + t5.length + 6 := by omega
      have c7 : ¬ 9223372036854775807 < 6 + t3.length + 8 + t4.length + 7 + t5.length + 6 + t6.length := by omega
      have dl : (hd == hd) = true := by simp
      clear hhd9 ht3 ht4 ht5 ht6 kb_q kb_b kb_p kc_p hl_p hor hb f1 hBw HFI HMD HRD HF0 HF1 HF2 HXB HMB HHD
      go_wp2_with fail
      refine wp_region_new (by kernel_rfl) (by kernel_rfl) ?_
      repeat (go_big_quiet_step (first | (go_at_call 16; exact NewW.call (HSR.out _ _ _ (HBZ.out _) (Rd.newW HRr.out _))) | (go_at_call 22; first | exact NewW.call (F3.out _ (HBZ.out _)) | exact NewW.call (F4.out _ (HBZ.out _)) | exact NewW.call (F5.out _ (HBZ.out _)) | exact NewW.call (F6.out _ (HBZ.out _)))))
      refine wpQuiet_nil ?_
      intro w6 hw'
      obtain ⟨hx, hw''⟩ := hw'
      have hb6 := hx.h
      rw [← hw''] at hb6
      clear hw'' hx
      go_wp2_with fail
      go_ret
      exact ⟨rfl, HB0.out.trans ((hBW3.out.trans ((hB5.trans (hb6.mono hB5.size)).mono hBW3.out.size)).mono HB0.out.size)⟩
theorem tab_of_FnSummaries {W : World} (h : laidMetH Tryd.prog [("math/bits.deBruijn32tab", Rows.laid_math_bits_deBruijn32tab), ("math/bits.deBruijn64tab", Rows.laid_math_bits_deBruijn64tab), ("internal/strconv.uint64pow10", Rows.laid_internal_strconv_uint64pow10), ("unicode/utf8.acceptRanges", Rows.laid_unicode_utf8_acceptRanges), ("unicode/utf8.first", Rows.laid_unicode_utf8_first)] W) : Tab W := by
  rw [MakeChecks.laidMetH_plain _ _ _ (by kernel_rfl)] at h
  exact Lib.tabIs_of_head (g := 1) (t := 146) (e := 135) (n := 20) (by kernel_rfl) (by kernel_rfl) Tryd.underlying146 Tryd.underlying135 (by kernel_rfl) (by kernel_rfl) ((h).tail).tail
theorem door_met_FnSummaries (os : Os) (args : Array Value) : laidMetH Tryd.prog [("math/bits.deBruijn32tab", Rows.laid_math_bits_deBruijn32tab), ("math/bits.deBruijn64tab", Rows.laid_math_bits_deBruijn64tab), ("internal/strconv.uint64pow10", Rows.laid_internal_strconv_uint64pow10), ("unicode/utf8.acceptRanges", Rows.laid_unicode_utf8_acceptRanges), ("unicode/utf8.first", Rows.laid_unicode_utf8_first)] ((World.laidAll Tryd.prog os [("math/bits.deBruijn32tab", Rows.laid_math_bits_deBruijn32tab), ("math/bits.deBruijn64tab", Rows.laid_math_bits_deBruijn64tab), ("internal/strconv.uint64pow10", Rows.laid_internal_strconv_uint64pow10), ("unicode/utf8.acceptRanges", Rows.laid_unicode_utf8_acceptRanges), ("unicode/utf8.first", Rows.laid_unicode_utf8_first)]).forCall (fun _ _ => 0) ⟨#[], args, []⟩).memory :=
  by
  rw [MakeChecks.laidMetH_plain _ _ _ (by kernel_rfl)]
  exact laidMet_laidAll _ (by kernel_rfl) (by kernel_rfl)
set_option maxRecDepth 100000 in
theorem lifted_FnSummaries (os : Os) (started : os.Started) (H : Type) (enc : TypeId × Value → H) :
    ReturnsInHanded {} Tryd.checked os 6 .any (fun w args => (Rows.fnSummariesSpec.pre enc Tryd.prog Tryd.f6 [] false w args ∧ laidMetH Tryd.prog [("math/bits.deBruijn32tab", Rows.laid_math_bits_deBruijn32tab), ("math/bits.deBruijn64tab", Rows.laid_math_bits_deBruijn64tab), ("internal/strconv.uint64pow10", Rows.laid_internal_strconv_uint64pow10), ("unicode/utf8.acceptRanges", Rows.laid_unicode_utf8_acceptRanges), ("unicode/utf8.first", Rows.laid_unicode_utf8_first)] w) ∧ sizedMet enc Tryd.prog Tryd.f6 (OpenSpec.ofChange Rows.fnSummariesSpec) false w args) (Rows.fnSummariesSpec.post enc Tryd.prog Tryd.f6 false true false false) := by
  refine wrap_shaped (C := Tryd.checked) (X := fun w => laidMetH Tryd.prog [("math/bits.deBruijn32tab", Rows.laid_math_bits_deBruijn32tab), ("math/bits.deBruijn64tab", Rows.laid_math_bits_deBruijn64tab), ("internal/strconv.uint64pow10", Rows.laid_internal_strconv_uint64pow10), ("unicode/utf8.acceptRanges", Rows.laid_unicode_utf8_acceptRanges), ("unicode/utf8.first", Rows.laid_unicode_utf8_first)] w) (fun _ _ hh h => h.of_heap hh) own_knob started (by kernel_rfl) Tryd.func6
    (ChangeSpec.witness_shaped (enc := enc) (C := Tryd.checked) (os := os) (X := fun w _ => laidMetH Tryd.prog [("math/bits.deBruijn32tab", Rows.laid_math_bits_deBruijn32tab), ("math/bits.deBruijn64tab", Rows.laid_math_bits_deBruijn64tab), ("internal/strconv.uint64pow10", Rows.laid_internal_strconv_uint64pow10), ("unicode/utf8.acceptRanges", Rows.laid_unicode_utf8_acceptRanges), ("unicode/utf8.first", Rows.laid_unicode_utf8_first)] w) false (World.laidAll Tryd.prog os [("math/bits.deBruijn32tab", Rows.laid_math_bits_deBruijn32tab), ("math/bits.deBruijn64tab", Rows.laid_math_bits_deBruijn64tab), ("internal/strconv.uint64pow10", Rows.laid_internal_strconv_uint64pow10), ("unicode/utf8.acceptRanges", Rows.laid_unicode_utf8_acceptRanges), ("unicode/utf8.first", Rows.laid_unicode_utf8_first)]) #[.slice none 0 0] 8 (World.laidAll_os _ _ _) (World.shaped_of_ZipB (by kernel_rfl) (by kernel_rfl)) (by kernel_rfl) (by kernel_rfl) (by kernel_rfl) (door_met_FnSummaries os _)) ?_
  intro W base args ds gs before hval0 hW hL hsh
  have ht := tab_of_FnSummaries hL
  have hm : MaxLen W := cell_of_shapedOpen_int (P := Tryd.prog) (g := 0) (t := 3) (zero := #[.int .i64 0]) hsh (of_decide_eq_true (by kernel_rfl)) (by kernel_rfl) rfl (by kernel_rfl) (by kernel_rfl) Tryd.underlying3
  have hval : ∀ (j : Nat) t v, Tryd.f6.params[j]? = some t → args[j]? = some v → Value.okWide Tryd.prog W .any base t v := hval0
  have hW' := hW
  obtain ⟨p, q, hA0, hV, rfl, hfz, hnd⟩ := hW
  have hA : DataW.TrodAll enc Tryd.prog W 0 (fun _ => true) true Tryd.f6.params.toList args.toList ds p := hA0
  rw [Tryd.params6] at hA hval
  obtain ⟨v0, vs0, d0, ds0, p0, q0, hargs, rfl, rfl, h0, r0⟩ := trodAll_cons hA
  obtain ⟨rfl, rfl, rfl⟩ := trodAll_nil r0
  obtain rfl : args = #[v0] := by cases args; simp_all
  obtain ⟨rfl, rfl⟩ := trodVars_none hV
  obtain ⟨A0, c0, l0, rfl, hr0⟩ := arg_bytes (hval 0 28 v0 rfl rfl) h0
  have lt0 : ∀ x ∈ p0, x.block < W.heap.size := by obtain ⟨m, hm⟩ := h0; exact DataW.trod_lt m _ _ _ hm
  clear hA0 hval0
  refine (walk_FnSummaries W ht hm A0 c0 l0 hr0).mono fun e W' ⟨he, bel⟩ => ?_
  subst he
  exact ⟨_, rfl, _, _, _, [], _, [], hW', trodAll_mk1 (shut_bool Tryd.underlying4 _), (trodAll_cons_mk (Below.trod laid_out (by kernel_rfl) (of_decide_eq_true (by kernel_rfl)) h0 bel lt0) trodAll_mk0), rfl, bel.frame _, fun h => by cases h⟩

theorem fnSummaries_row : Rows.FnSummariesSaid :=
  OpenClaim.holds_of_wide 6 Tryd.f6 rfl rfl rfl rfl rfl rfl rfl ⟨rfl, rfl, rfl, rfl, rfl⟩ rfl rfl rfl rfl rfl (by kernel_rfl) Tryd.func6 (by kernel_rfl)
    (of_decide_eq_true (by kernel_rfl)) (by unfold Func.isWrapper; rw [if_neg (by decide +kernel)]; exact ⟨rfl, rfl⟩)
    (fun os started H enc _ => lifted_FnSummaries os started H enc)

theorem fnSummaries_holds : Rows.FnSummariesCardSaid :=
  Claim7.holds_tied_plain_at .later [] [.data, .data, .data, .data, .pinned] true (true, "e052a9a80911a7c98e72b18267fa447445759f646e6cd231b6fb30e0babf7d15") false
    fnSummaries_row (fun _ h => by cases h) (by kernel_rfl) (fun _ h => by cases h) fnSummaries_row_tie rfl ⟨rfl, rfl⟩ (by kernel_rfl) rfl
    (fun f fn hf hfn => by
      obtain rfl : f = 6 := Option.some.inj ((show Tryd.prog.funcNamed "loop.example/g03307/laws.FnSummaries" = some 6 by kernel_rfl).symm.trans hf) |>.symm
      obtain rfl : fn = Tryd.f6 := (Option.some.inj (Tryd.func6.symm.trans hfn)).symm
      exact ⟨by kernel_rfl, fun j t ht => by
        rw [Tryd.params6] at ht
        have hm : t ∈ [28] := by simpa using Array.mem_of_getElem? ht
        have hall : ([28].all fun u => !Tryd.prog.wantsStandIn u) = true := by kernel_rfl
        exact (show Tryd.prog.wantsStandIn t = false by simpa using List.all_eq_true.1 hall t hm)⟩)
    (by kernel_rfl)
end Go.Proofs.YtpmmjhpmheooeaaDoor
