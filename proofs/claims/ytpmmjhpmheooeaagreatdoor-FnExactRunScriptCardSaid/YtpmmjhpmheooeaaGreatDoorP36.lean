/- Texts of the proof, joined: RightText, PUPure, RRPure, Strs. -/
import Derived.Test.YtpmmjhpmheooeaaGreatDoorP35
import Derived.Test.YtpmmjhpmheooeaaGreatDoorP2
import Derived.Test.YtpmmjhpmheooeaaGreatDoorP3
import Derived.Lib.IndexMore
import Derived.Lib.Join
namespace Go.Proofs.YtpmmjhpmheooeaaGreatDoor
set_option linter.unusedSimpArgs false
set_option linter.unusedVariables false
section
open Go.RowKit
set_option maxRecDepth 20000
def fracText (x y : Int) : List UInt8 := if fracOk x y then (if y = 1 then Lib.itoa x else Lib.itoa x ++ 47 :: Lib.itoa y) else []
def rightText (o x y : Int) : List UInt8 := if inB o 1 999 && fracOk x y then Lib.itoa o ++ 58 :: fracText x y else []
theorem fracText_no {x y : Int} (h : fracOk x y = false) : fracText x y = [] := by unfold fracText; rw [h]; rfl
theorem rightText_no {o x y : Int} (h : inB o 1 999 = false ∨ fracOk x y = false) : rightText o x y = [] := by
 unfold rightText; rcases h with h | h <;> simp [h]
theorem sv_mid (a b : List UInt8) (c : UInt8) : Value.string (⟨a.toArray⟩ ++ ⟨#[c]⟩ ++ ⟨b.toArray⟩) = sv (a ++ c :: b) := by
 refine congrArg _ (ByteArray.ext ?_)
 simp
set_option maxHeartbeats 1600000 in
theorem FractionText_any (x y : Int) (w : World) (ht : Tab w) :
  Calls Tryz.prog 105 #[.agg #[.int .i64 x, .int .i64 y]] w fun e w' => e = .returned (sv (fracText x y)) ∧ Below w.heap.size w w' := by
 have hB := Below.refl w.heap.size w
 cases hf : fracOk x y
 ·have E := Lib.hid (fracText_no hf)
  have HC := Lib.hid (fun W => FractionOk_any x y W)
  rw [hf] at HC
  go_enter Tryz.func105, Tryz.ntmps105
  go_wp2_with fail
  first | refine name_world ?_ | refine name_wp ?_
  intro W1 hW
  replace hB : Below w.heap.size w W1 := by rw [hW]; exact tacT
  have hz_W1 : w.heap.size ≤ W1.heap.size := by rw [hW]; exact sT
  replace kb_p : Blk W1 (w.heap.size) 67 #[.int .i64 x, .int .i64 y] := by rw [hW]; exact blkT
  have hLW1_p := kb_p.lt
  try clear kc_p kf_p
  clear hW
  refine (HC.out _).mono ?_
  rintro e w1 ⟨rfl, hb⟩
  replace hB := hB.trans (Below.mono hb hB.size)
  have hz_w1 : W1.heap.size ≤ w1.heap.size := Below.size hb
  replace kb_p := kb_p.mv hb; obtain ⟨kb_p, kc_p, kf_p, hl_p, hn_p⟩ := kb_p
  clear hb
  go_wp2_with fail
  go_ret
  exact ⟨by rw [E.out]; rfl, hB⟩
 have hr := fracOk_iff hf
 have HC := Lib.hid (fun W => FractionOk_any x y W)
 rw [hf] at HC
 have hlx := itoa_len (n := x) (by omega) (by omega)
 have hly := itoa_len (n := y) (by omega) (by omega)
 by_cases hy : y = 1
 ·have E : Hid (fracText x y = Lib.itoa x) := by show _ = _; unfold fracText; rw [hf, if_pos rfl, if_pos hy]
  have d1 : (y == 1) = true := by simpa using hy
  clear hy
  go_enter Tryz.func105, Tryz.ntmps105
  go_wp2_with fail
  first | refine name_world ?_ | refine name_wp ?_
  intro W1 hW
  replace hB : Below w.heap.size w W1 := by rw [hW]; exact tacT
  have hz_W1 : w.heap.size ≤ W1.heap.size := by rw [hW]; exact sT
  replace kb_p : Blk W1 (w.heap.size) 67 #[.int .i64 x, .int .i64 y] := by rw [hW]; exact blkT
  have hLW1_p := kb_p.lt
  try clear kc_p kf_p
  clear hW
  refine (HC.out _).mono ?_
  rintro e w1 ⟨rfl, hb⟩
  replace hB := hB.trans (Below.mono hb hB.size)
  have hz_w1 : W1.heap.size ≤ w1.heap.size := Below.size hb
  replace kb_p := kb_p.mv hb; obtain ⟨kb_p, kc_p, kf_p, hl_p, hn_p⟩ := kb_p
  clear hb
  have HT := Lib.hid (FormatInt_t x w1 (by omega) (ht.below hB))
  go_wp2_with fail
  refine HT.out.mono ?_
  rintro e w2 ⟨rfl, hb⟩
  replace hB := hB.trans (Below.mono hb hB.size)
  have hz_w2 : w1.heap.size ≤ w2.heap.size := Below.size hb
  replace kb_p := kb_p.mv hb; obtain ⟨kb_p, kc_p, kf_p, hl_p, hn_p⟩ := kb_p
  clear hb
  go_wp2_with fail
  go_ret
  exact ⟨by rw [E.out]; rfl, hB⟩
 ·have E : Hid (fracText x y = Lib.itoa x ++ 47 :: Lib.itoa y) := by show _ = _; unfold fracText; rw [hf, if_pos rfl, if_neg hy]
  have d1 : (y == 1) = false := by simpa using hy
  have c1 : ¬ 9223372036854775807 < (Lib.itoa x).length + 1 := by omega
  have c2 : ¬ 9223372036854775807 < (Lib.itoa x).length + 1 + (Lib.itoa y).length := by omega
  go_enter Tryz.func105, Tryz.ntmps105
  go_wp2_with fail
  first | refine name_world ?_ | refine name_wp ?_
  intro W1 hW
  replace hB : Below w.heap.size w W1 := by rw [hW]; exact tacT
  have hz_W1 : w.heap.size ≤ W1.heap.size := by rw [hW]; exact sT
  replace kb_p : Blk W1 (w.heap.size) 67 #[.int .i64 x, .int .i64 y] := by rw [hW]; exact blkT
  have hLW1_p := kb_p.lt
  try clear kc_p kf_p
  clear hW
  refine (HC.out _).mono ?_
  rintro e w1 ⟨rfl, hb⟩
  replace hB := hB.trans (Below.mono hb hB.size)
  have hz_w1 : W1.heap.size ≤ w1.heap.size := Below.size hb
  replace kb_p := kb_p.mv hb; obtain ⟨kb_p, kc_p, kf_p, hl_p, hn_p⟩ := kb_p
  clear hb
  have HT := Lib.hid (ht.below hB)
  have g0 : ∀ (z : NewW w1), z.w.cell? ⟨w.heap.size, 0, none⟩ = some (.int .i64 x) := fun z => NewW.cell (by rw [kc_p]; rfl) z
  have g1 : ∀ (z : NewW w1), z.w.cell? ⟨w.heap.size, 1, none⟩ = some (.int .i64 y) := fun z => NewW.cell (by rw [kc_p]; rfl) z
  go_wp2_with fail
  refine wp_region_new (by kernel_rfl) (by kernel_rfl) ?_
  repeat (go_big_quiet_step ((go_at_call 16; exact NewW.call (FormatInt_t _ _ (by omega) (HT.out.below (NewW.h _))))))
  refine wpQuiet_nil ?_
  intro w2 hw'
  obtain ⟨hx, hw''⟩ := hw'
  have hb2 := hx.h
  rw [← hw''] at hb2
  clear hw'' hx
  clear g0 g1
  replace hB := hB.trans (Below.mono hb2 hB.size)
  have hz_w2 : w1.heap.size ≤ w2.heap.size := Below.size hb2
  replace kb_p := kb_p.mv hb2; obtain ⟨kb_p, kc_p, kf_p, hl_p, hn_p⟩ := kb_p
  clear hb2
  go_wp2_with fail
  go_ret
  refine ⟨?_, hB⟩
  rw [E.out]
  exact congrArg _ (sv_mid _ _ _)
set_option maxHeartbeats 1600000 in
theorem RightText_any (o x y : Int) (w : World) (ht : Tab w) :
  Calls Tryz.prog 70 #[.agg #[.int .i64 o, .int .i64 x, .int .i64 y]] w fun e w' => e = .returned (sv (rightText o x y)) ∧ Below w.heap.size w w' := by
 have hB := Below.refl w.heap.size w
 have HC := Lib.hid (fun W => FractionOk_any x y W)
 cases ho : inB o 1 999
 ·have E := Lib.hid (rightText_no (x := x) (y := y) (.inl ho))
  go_enter Tryz.func70, Tryz.ntmps70
  go_wp2_with (go_at_call 97; refine (within_any _ _ _ _).mono ?_; rintro e w' ⟨rfl, rfl⟩)
  go_ret
  exact ⟨by rw [E.out]; rfl, by exact tacT⟩
 cases hf : fracOk x y
 ·have E := Lib.hid (rightText_no (o := o) (.inr hf))
  rw [hf] at HC
  go_enter Tryz.func70, Tryz.ntmps70
  go_wp2_with (go_at_call 97; refine (within_any _ _ _ _).mono ?_; rintro e w' ⟨rfl, rfl⟩)
  first | refine name_world ?_ | refine name_wp ?_
  intro W1 hW
  replace hB : Below w.heap.size w W1 := by rw [hW]; exact tacT
  have hz_W1 : w.heap.size ≤ W1.heap.size := by rw [hW]; exact sT
  replace kb_p : Blk W1 (w.heap.size) 69 #[.int .i64 o, .int .i64 x, .int .i64 y] := by rw [hW]; exact blkT
  have hLW1_p := kb_p.lt
  try clear kc_p kf_p
  clear hW
  refine (HC.out _).mono ?_
  rintro e w1 ⟨rfl, hb⟩
  replace hB := hB.trans (Below.mono hb hB.size)
  have hz_w1 : W1.heap.size ≤ w1.heap.size := Below.size hb
  replace kb_p := kb_p.mv hb; obtain ⟨kb_p, kc_p, kf_p, hl_p, hn_p⟩ := kb_p
  clear hb
  go_wp2_with fail
  go_ret
  exact ⟨by rw [E.out]; rfl, hB⟩
 have E : Hid (rightText o x y = Lib.itoa o ++ 58 :: fracText x y) := by show _ = _; unfold rightText; rw [ho, hf]; rfl
 have hr := fracOk_iff hf
 have hoo := inB_iff.1 ho
 have hlx := itoa_len (n := o) (by omega) (by omega)
 have hly : (fracText x y).length ≤ 50 := by
  have h1 := itoa_len (n := x) (by omega) (by omega)
  have h2 := itoa_len (n := y) (by omega) (by omega)
  unfold fracText
  rw [hf, if_pos rfl]
  split
  ·omega
  ·rw [List.length_append, List.length_cons]; omega
 have c1 : ¬ 9223372036854775807 < (Lib.itoa o).length + 1 := by omega
 have c2 : ¬ 9223372036854775807 < (Lib.itoa o).length + 1 + (fracText x y).length := by omega
 rw [hf] at HC
 go_enter Tryz.func70, Tryz.ntmps70
 go_wp2_with (go_at_call 97; refine (within_any _ _ _ _).mono ?_; rintro e w' ⟨rfl, rfl⟩)
 first | refine name_world ?_ | refine name_wp ?_
 intro W1 hW
 replace hB : Below w.heap.size w W1 := by rw [hW]; exact tacT
 have hz_W1 : w.heap.size ≤ W1.heap.size := by rw [hW]; exact sT
 replace kb_p : Blk W1 (w.heap.size) 69 #[.int .i64 o, .int .i64 x, .int .i64 y] := by rw [hW]; exact blkT
 have hLW1_p := kb_p.lt
 try clear kc_p kf_p
 clear hW
 refine (HC.out _).mono ?_
 rintro e w1 ⟨rfl, hb⟩
 replace hB := hB.trans (Below.mono hb hB.size)
 have hz_w1 : W1.heap.size ≤ w1.heap.size := Below.size hb
 replace kb_p := kb_p.mv hb; obtain ⟨kb_p, kc_p, kf_p, hl_p, hn_p⟩ := kb_p
 clear hb
 have HT := Lib.hid (ht.below hB)
 have g0 : ∀ (z : NewW w1), z.w.cell? ⟨w.heap.size, 0, none⟩ = some (.int .i64 o) := fun z => NewW.cell (by rw [kc_p]; rfl) z
 have g1 : ∀ (z : NewW w1), z.w.cell? ⟨w.heap.size, 1, none⟩ = some (.int .i64 x) := fun z => NewW.cell (by rw [kc_p]; rfl) z
 have g2 : ∀ (z : NewW w1), z.w.cell? ⟨w.heap.size, 2, none⟩ = some (.int .i64 y) := fun z => NewW.cell (by rw [kc_p]; rfl) z
 go_wp2_with fail
 refine wp_region_new (by kernel_rfl) (by kernel_rfl) ?_
 repeat (go_big_quiet_step ((first | (go_at_call 16; exact NewW.call (FormatInt_t _ _ (by omega) (HT.out.below (NewW.h _)))) | (go_at_call 105; exact NewW.call (FractionText_any _ _ _ (HT.out.below (NewW.h _)))))))
 refine wpQuiet_nil ?_
 intro w2 hw'
 obtain ⟨hx, hw''⟩ := hw'
 have hb2 := hx.h
 rw [← hw''] at hb2
 clear hw'' hx
 clear g0 g1 g2
 replace hB := hB.trans (Below.mono hb2 hB.size)
 have hz_w2 : w1.heap.size ≤ w2.heap.size := Below.size hb2
 replace kb_p := kb_p.mv hb2; obtain ⟨kb_p, kc_p, kf_p, hl_p, hn_p⟩ := kb_p
 clear hb2
 go_wp2_with fail
 go_ret
 refine ⟨?_, hB⟩
 rw [E.out]
 exact congrArg _ (sv_mid _ _ _)
set_option maxHeartbeats 1600000 in
theorem FractionTextS_any (x y : Int) (w : World) (ht : Tab w) :
  Calls Tryz.prog 114 #[.agg #[.int .i64 x, .int .i64 y]] w fun e w' => e = .returned (sv (fracText x y)) ∧ Below w.heap.size w w' := by
 have hB := Below.refl w.heap.size w
 cases hf : fracOk x y
 ·have E := Lib.hid (fracText_no hf)
  have HC := Lib.hid (fun W => FractionOkS_any x y W)
  rw [hf] at HC
  go_enter Tryz.func114, Tryz.ntmps114
  go_wp2_with fail
  first | refine name_world ?_ | refine name_wp ?_
  intro W1 hW
  replace hB : Below w.heap.size w W1 := by rw [hW]; exact tacT
  have hz_W1 : w.heap.size ≤ W1.heap.size := by rw [hW]; exact sT
  replace kb_p : Blk W1 (w.heap.size) 67 #[.int .i64 x, .int .i64 y] := by rw [hW]; exact blkT
  have hLW1_p := kb_p.lt
  try clear kc_p kf_p
  clear hW
  refine (HC.out _).mono ?_
  rintro e w1 ⟨rfl, hb⟩
  replace hB := hB.trans (Below.mono hb hB.size)
  have hz_w1 : W1.heap.size ≤ w1.heap.size := Below.size hb
  replace kb_p := kb_p.mv hb; obtain ⟨kb_p, kc_p, kf_p, hl_p, hn_p⟩ := kb_p
  clear hb
  go_wp2_with fail
  go_ret
  exact ⟨by rw [E.out]; rfl, hB⟩
 have hr := fracOk_iff hf
 have HC := Lib.hid (fun W => FractionOkS_any x y W)
 rw [hf] at HC
 have hlx := itoa_len (n := x) (by omega) (by omega)
 have hly := itoa_len (n := y) (by omega) (by omega)
 by_cases hy : y = 1
 ·have E : Hid (fracText x y = Lib.itoa x) := by show _ = _; unfold fracText; rw [hf, if_pos rfl, if_pos hy]
  have d1 : (y == 1) = true := by simpa using hy
  clear hy
  go_enter Tryz.func114, Tryz.ntmps114
  go_wp2_with fail
  first | refine name_world ?_ | refine name_wp ?_
  intro W1 hW
  replace hB : Below w.heap.size w W1 := by rw [hW]; exact tacT
  have hz_W1 : w.heap.size ≤ W1.heap.size := by rw [hW]; exact sT
  replace kb_p : Blk W1 (w.heap.size) 67 #[.int .i64 x, .int .i64 y] := by rw [hW]; exact blkT
  have hLW1_p := kb_p.lt
  try clear kc_p kf_p
  clear hW
  refine (HC.out _).mono ?_
  rintro e w1 ⟨rfl, hb⟩
  replace hB := hB.trans (Below.mono hb hB.size)
  have hz_w1 : W1.heap.size ≤ w1.heap.size := Below.size hb
  replace kb_p := kb_p.mv hb; obtain ⟨kb_p, kc_p, kf_p, hl_p, hn_p⟩ := kb_p
  clear hb
  have HT := Lib.hid (FormatIntS_t x w1 (by omega) (ht.below hB))
  go_wp2_with fail
  refine HT.out.mono ?_
  rintro e w2 ⟨rfl, hb⟩
  replace hB := hB.trans (Below.mono hb hB.size)
  have hz_w2 : w1.heap.size ≤ w2.heap.size := Below.size hb
  replace kb_p := kb_p.mv hb; obtain ⟨kb_p, kc_p, kf_p, hl_p, hn_p⟩ := kb_p
  clear hb
  go_wp2_with fail
  go_ret
  exact ⟨by rw [E.out]; rfl, hB⟩
 ·have E : Hid (fracText x y = Lib.itoa x ++ 47 :: Lib.itoa y) := by show _ = _; unfold fracText; rw [hf, if_pos rfl, if_neg hy]
  have d1 : (y == 1) = false := by simpa using hy
  have c1 : ¬ 9223372036854775807 < (Lib.itoa x).length + 1 := by omega
  have c2 : ¬ 9223372036854775807 < (Lib.itoa x).length + 1 + (Lib.itoa y).length := by omega
  go_enter Tryz.func114, Tryz.ntmps114
  go_wp2_with fail
  first | refine name_world ?_ | refine name_wp ?_
  intro W1 hW
  replace hB : Below w.heap.size w W1 := by rw [hW]; exact tacT
  have hz_W1 : w.heap.size ≤ W1.heap.size := by rw [hW]; exact sT
  replace kb_p : Blk W1 (w.heap.size) 67 #[.int .i64 x, .int .i64 y] := by rw [hW]; exact blkT
  have hLW1_p := kb_p.lt
  try clear kc_p kf_p
  clear hW
  refine (HC.out _).mono ?_
  rintro e w1 ⟨rfl, hb⟩
  replace hB := hB.trans (Below.mono hb hB.size)
  have hz_w1 : W1.heap.size ≤ w1.heap.size := Below.size hb
  replace kb_p := kb_p.mv hb; obtain ⟨kb_p, kc_p, kf_p, hl_p, hn_p⟩ := kb_p
  clear hb
  have HT := Lib.hid (ht.below hB)
  have g0 : ∀ (z : NewW w1), z.w.cell? ⟨w.heap.size, 0, none⟩ = some (.int .i64 x) := fun z => NewW.cell (by rw [kc_p]; rfl) z
  have g1 : ∀ (z : NewW w1), z.w.cell? ⟨w.heap.size, 1, none⟩ = some (.int .i64 y) := fun z => NewW.cell (by rw [kc_p]; rfl) z
  go_wp2_with fail
  refine wp_region_new (by kernel_rfl) (by kernel_rfl) ?_
  repeat (go_big_quiet_step ((go_at_call 25; exact NewW.call (FormatIntS_t _ _ (by omega) (HT.out.below (NewW.h _))))))
  refine wpQuiet_nil ?_
  intro w2 hw'
  obtain ⟨hx, hw''⟩ := hw'
  have hb2 := hx.h
  rw [← hw''] at hb2
  clear hw'' hx
  clear g0 g1
  replace hB := hB.trans (Below.mono hb2 hB.size)
  have hz_w2 : w1.heap.size ≤ w2.heap.size := Below.size hb2
  replace kb_p := kb_p.mv hb2; obtain ⟨kb_p, kc_p, kf_p, hl_p, hn_p⟩ := kb_p
  clear hb2
  go_wp2_with fail
  go_ret
  refine ⟨?_, hB⟩
  rw [E.out]
  exact congrArg _ (sv_mid _ _ _)
set_option maxHeartbeats 1600000 in
theorem RightTextS_any (o x y : Int) (w : World) (ht : Tab w) :
  Calls Tryz.prog 86 #[.agg #[.int .i64 o, .int .i64 x, .int .i64 y]] w fun e w' => e = .returned (sv (rightText o x y)) ∧ Below w.heap.size w w' := by
 have hB := Below.refl w.heap.size w
 have HC := Lib.hid (fun W => FractionOkS_any x y W)
 cases ho : inB o 1 999
 ·have E := Lib.hid (rightText_no (x := x) (y := y) (.inl ho))
  go_enter Tryz.func86, Tryz.ntmps86
  go_wp2_with (go_at_call 43; refine (l01In_any _ _ _ _).mono ?_; rintro e w' ⟨rfl, rfl⟩)
  go_ret
  exact ⟨by rw [E.out]; rfl, by exact tacT⟩
 cases hf : fracOk x y
 ·have E := Lib.hid (rightText_no (o := o) (.inr hf))
  rw [hf] at HC
  go_enter Tryz.func86, Tryz.ntmps86
  go_wp2_with (go_at_call 43; refine (l01In_any _ _ _ _).mono ?_; rintro e w' ⟨rfl, rfl⟩)
  first | refine name_world ?_ | refine name_wp ?_
  intro W1 hW
  replace hB : Below w.heap.size w W1 := by rw [hW]; exact tacT
  have hz_W1 : w.heap.size ≤ W1.heap.size := by rw [hW]; exact sT
  replace kb_p : Blk W1 (w.heap.size) 69 #[.int .i64 o, .int .i64 x, .int .i64 y] := by rw [hW]; exact blkT
  have hLW1_p := kb_p.lt
  try clear kc_p kf_p
  clear hW
  refine (HC.out _).mono ?_
  rintro e w1 ⟨rfl, hb⟩
  replace hB := hB.trans (Below.mono hb hB.size)
  have hz_w1 : W1.heap.size ≤ w1.heap.size := Below.size hb
  replace kb_p := kb_p.mv hb; obtain ⟨kb_p, kc_p, kf_p, hl_p, hn_p⟩ := kb_p
  clear hb
  go_wp2_with fail
  go_ret
  exact ⟨by rw [E.out]; rfl, hB⟩
 have E : Hid (rightText o x y = Lib.itoa o ++ 58 :: fracText x y) := by show _ = _; unfold rightText; rw [ho, hf]; rfl
 have hr := fracOk_iff hf
 have hoo := inB_iff.1 ho
 have hlx := itoa_len (n := o) (by omega) (by omega)
 have hly : (fracText x y).length ≤ 50 := by
  have h1 := itoa_len (n := x) (by omega) (by omega)
  have h2 := itoa_len (n := y) (by omega) (by omega)
  unfold fracText
  rw [hf, if_pos rfl]
  split
  ·omega
  ·rw [List.length_append, List.length_cons]; omega
 have c1 : ¬ 9223372036854775807 < (Lib.itoa o).length + 1 := by omega
 have c2 : ¬ 9223372036854775807 < (Lib.itoa o).length + 1 + (fracText x y).length := by omega
 rw [hf] at HC
 go_enter Tryz.func86, Tryz.ntmps86
 go_wp2_with (go_at_call 43; refine (l01In_any _ _ _ _).mono ?_; rintro e w' ⟨rfl, rfl⟩)
 first | refine name_world ?_ | refine name_wp ?_
 intro W1 hW
 replace hB : Below w.heap.size w W1 := by rw [hW]; exact tacT
 have hz_W1 : w.heap.size ≤ W1.heap.size := by rw [hW]; exact sT
 replace kb_p : Blk W1 (w.heap.size) 69 #[.int .i64 o, .int .i64 x, .int .i64 y] := by rw [hW]; exact blkT
 have hLW1_p := kb_p.lt
 try clear kc_p kf_p
 clear hW
 refine (HC.out _).mono ?_
 rintro e w1 ⟨rfl, hb⟩
 replace hB := hB.trans (Below.mono hb hB.size)
 have hz_w1 : W1.heap.size ≤ w1.heap.size := Below.size hb
 replace kb_p := kb_p.mv hb; obtain ⟨kb_p, kc_p, kf_p, hl_p, hn_p⟩ := kb_p
 clear hb
 have HT := Lib.hid (ht.below hB)
 have g0 : ∀ (z : NewW w1), z.w.cell? ⟨w.heap.size, 0, none⟩ = some (.int .i64 o) := fun z => NewW.cell (by rw [kc_p]; rfl) z
 have g1 : ∀ (z : NewW w1), z.w.cell? ⟨w.heap.size, 1, none⟩ = some (.int .i64 x) := fun z => NewW.cell (by rw [kc_p]; rfl) z
 have g2 : ∀ (z : NewW w1), z.w.cell? ⟨w.heap.size, 2, none⟩ = some (.int .i64 y) := fun z => NewW.cell (by rw [kc_p]; rfl) z
 go_wp2_with fail
 refine wp_region_new (by kernel_rfl) (by kernel_rfl) ?_
 repeat (go_big_quiet_step ((first | (go_at_call 25; exact NewW.call (FormatIntS_t _ _ (by omega) (HT.out.below (NewW.h _)))) | (go_at_call 114; exact NewW.call (FractionTextS_any _ _ _ (HT.out.below (NewW.h _)))))))
 refine wpQuiet_nil ?_
 intro w2 hw'
 obtain ⟨hx, hw''⟩ := hw'
 have hb2 := hx.h
 rw [← hw''] at hb2
 clear hw'' hx
 clear g0 g1 g2
 replace hB := hB.trans (Below.mono hb2 hB.size)
 have hz_w2 : w1.heap.size ≤ w2.heap.size := Below.size hb2
 replace kb_p := kb_p.mv hb2; obtain ⟨kb_p, kc_p, kf_p, hl_p, hn_p⟩ := kb_p
 clear hb2
 go_wp2_with fail
 go_ret
 refine ⟨?_, hB⟩
 rw [E.out]
 exact congrArg _ (sv_mid _ _ _)
end
section
open Go.RowKit
set_option maxRecDepth 20000
def dig (b : UInt8) : Bool := decide (48 ≤ b.toNat) && decide (b.toNat ≤ 57)
def pval (acc : Nat) (l : List UInt8) : Nat := l.foldl (fun n b => 10 * n + (b.toNat - 48)) acc
def puOk (s : List UInt8) : Bool := decide (s.length ≤ 10) && s.all dig && decide (pval 0 s ≤ 1000000000) && decide (Lib.itoa (pval 0 s) = s)
def puVal (s : List UInt8) : Nat := if puOk s then pval 0 s else 0
theorem pval_cons (acc : Nat) (b : UInt8) (r : List UInt8) : pval acc (b :: r) = pval (10 * acc + (b.toNat - 48)) r := by unfold pval; rw [List.foldl_cons]
theorem pval_snoc : ∀ (r : List UInt8) (acc : Nat) (b : UInt8), pval acc (r ++ [b]) = 10 * pval acc r + (b.toNat - 48)
 | [], _, _ => rfl
 |x :: r, acc, b => by rw [List.cons_append, pval_cons, pval_cons]; exact pval_snoc r _ b
theorem pval_step {s : List UInt8} {k : Nat} {b : UInt8} (h : s[k]? = some b) : pval 0 (s.take (k + 1)) = 10 * pval 0 (s.take k) + (b.toNat - 48) := by
 have : s.take (k + 1) = s.take k ++ [b] := by rw [List.take_add_one, h]; rfl
 rw [this, pval_snoc]
theorem digs_step {s : List UInt8} {k : Nat} {b : UInt8} (h : s[k]? = some b) : (s.take (k + 1)).all dig = ((s.take k).all dig && dig b) := by
 have : s.take (k + 1) = s.take k ++ [b] := by rw [List.take_add_one, h]; rfl
 rw [this]; simp
theorem pval_lt : ∀ (s : List UInt8), s.all dig = true → ∀ acc, pval acc s < (acc + 1) * 10 ^ s.length
 | [], _, acc => by show acc < _; rw [List.length_nil, Nat.pow_zero]; omega
 |b :: r, h, acc => by
  simp only [List.all_cons, Bool.and_eq_true] at h
  have hb : b.toNat ≤ 57 := by have := h.1; unfold dig at this; simp at this; exact this.2
  have h1 := pval_lt r h.2 (10 * acc + (b.toNat - 48))
  rw [pval_cons, List.length_cons, Nat.pow_succ]
  have h2 : (10 * acc + (b.toNat - 48) + 1) * 10 ^ r.length ≤ ((acc + 1) * 10) * 10 ^ r.length := Nat.mul_le_mul_right _ (by omega)
  have h3 : (acc + 1) * 10 * 10 ^ r.length = (acc + 1) * (10 ^ r.length * 10) := by rw [Nat.mul_assoc, Nat.mul_comm 10]
  omega
theorem pval_10 {s : List UInt8} (h : s.all dig = true) (hl : s.length ≤ 10) : pval 0 s < 10000000000 := by
 have h1 := pval_lt s h 0
 have h2 : 10 ^ s.length ≤ 10 ^ 10 := Nat.pow_le_pow_right (by omega) hl
 omega
theorem take_digs {s : List UInt8} {k : Nat} (h : (s.take k).all dig = true) (hl : s.length ≤ 10) : pval 0 (s.take k) < 10000000000 :=
 pval_10 h (by rw [List.length_take]; omega)
theorem pu_long {s : List UInt8} (h : 10 < s.length) : puOk s = false := by unfold puOk; rw [decide_eq_false (by omega)]; rfl
theorem pu_nodig {s : List UInt8} {k : Nat} {b : UInt8} (h : s[k]? = some b) (hb : dig b = false) : puOk s = false := by
 have : s.all dig = false := by rw [List.all_eq_false]; exact ⟨b, List.mem_of_getElem? h, by rw [hb]; simp⟩
 unfold puOk; rw [this]; simp
theorem pu_empty : puOk [] = false := by
 unfold puOk
 have h : Lib.itoa ((pval 0 [] : Nat) : Int) ≠ [] := by
  show Lib.itoa 0 ≠ []
  unfold Lib.itoa
  rw [if_neg (by omega), dec_small (by simp)]
  simp
 rw [decide_eq_false h]; simp
theorem puVal_no {s : List UInt8} (h : puOk s = false) : puVal s = 0 := by unfold puVal; rw [h]; rfl
theorem puVal_yes {s : List UInt8} (h : puOk s = true) : puVal s = pval 0 s := by unfold puVal; rw [h]; rfl
theorem fig_nat {r : Nat} (h : r < 10) : (UInt8.ofNat (48 + r)).toNat = 48 + r := by
 rw [UInt8.toNat_ofNat']; omega
theorem dig_fig {r : Nat} (h : r < 10) : dig (UInt8.ofNat (48 + r)) = true := by
 unfold dig; rw [fig_nat h]; simp; omega
theorem dec_digs : ∀ (n u : Nat), u ≤ n → (Lib.decDigits u).all dig = true
 |n, u, hu => by
  by_cases h : u < 10
  ·rw [dec_small h, List.all_cons, dig_fig h]; rfl
  ·rw [dec_big h, List.all_append]
   cases n with
   |zero => omega
   |succ n =>
    rw [dec_digs n (u / 10) (by omega)]
    rw [List.all_cons, dig_fig (Nat.mod_lt u (by omega : 10 > 0))]; rfl
theorem dec_val : ∀ (n u : Nat), u ≤ n → pval 0 (Lib.decDigits u) = u
 |n, u, hu => by
  by_cases h : u < 10
  ·rw [dec_small h]
   show 10 * 0 + ((UInt8.ofNat (48 + u)).toNat - 48) = u
   rw [fig_nat h]; omega
  ·rw [dec_big h, pval_snoc, fig_nat (Nat.mod_lt u (by omega : 10 > 0))]
   cases n with
   |zero => omega
   |succ n => rw [dec_val n (u / 10) (by omega)]; omega
theorem itoa_nat (n : Nat) : Lib.itoa (n : Int) = Lib.decDigits n := by
 unfold Lib.itoa; rw [if_neg (by omega)]; rfl
theorem pu_itoa {n : Nat} (h : n ≤ 1000000000) : puOk (Lib.itoa n) = true ∧ puVal (Lib.itoa n) = n := by
 have h1 : puOk (Lib.itoa n) = true := by
  unfold puOk
  rw [itoa_nat, dec_digs n n (Nat.le_refl _), dec_val n n (Nat.le_refl _), itoa_nat, decide_eq_true (dec_len 9 n (by omega)), decide_eq_true h]
  simp
 exact ⟨h1, by rw [puVal_yes h1, itoa_nat, dec_val n n (Nat.le_refl _)]⟩
theorem pu_iff {s : List UInt8} (h : puOk s = true) : Lib.itoa (puVal s : Int) = s ∧ puVal s ≤ 1000000000 := by
 rw [puVal_yes h]
 unfold puOk at h
 simp only [Bool.and_eq_true, decide_eq_true_eq] at h
 exact ⟨h.2, h.1.2⟩
end
section
open Go.RowKit
set_option maxRecDepth 20000
/-- The pieces of a text between the bytes c. -/
def spl (c : UInt8) (cur : List UInt8) : List UInt8 → List (List UInt8)
 | [] => [cur]
 |b :: r => if b = c then cur :: spl c [] r else spl c (cur ++ [b]) r
theorem spl_nil (c : UInt8) (cur : List UInt8) : spl c cur [] = [cur] := rfl
theorem spl_hit (c : UInt8) (cur r : List UInt8) : spl c cur (c :: r) = cur :: spl c [] r := by rw [spl, if_pos rfl]
theorem spl_miss {c b : UInt8} (h : b ≠ c) (cur r : List UInt8) : spl c cur (b :: r) = spl c (cur ++ [b]) r := by rw [spl, if_neg h]
theorem spl_none (c : UInt8) : ∀ (a cur : List UInt8), (∀ b ∈ a, b ≠ c) → spl c cur a = [cur ++ a]
 | [], cur, _ => by simp [spl]
 |b :: a, cur, h => by
  rw [spl_miss (h b List.mem_cons_self), spl_none c a _ (fun x hx => h x (List.mem_cons_of_mem _ hx))]; simp
theorem spl_cut (c : UInt8) (r : List UInt8) : ∀ (a cur : List UInt8), (∀ b ∈ a, b ≠ c) → spl c cur (a ++ c :: r) = (cur ++ a) :: spl c [] r
 | [], cur, _ => by simp [spl_hit]
 |b :: a, cur, h => by
  rw [List.cons_append, spl_miss (h b List.mem_cons_self), spl_cut c r a _ (fun x hx => h x (List.mem_cons_of_mem _ hx))]; simp
theorem spl_ne (c : UInt8) : ∀ (s cur : List UInt8), spl c cur s ≠ []
 | [], cur => by simp [spl]
 |b :: s, cur => by
  rw [spl]; split
  ·simp
  ·exact spl_ne c s _
theorem index_no (c : UInt8) : ∀ (a : List UInt8), (∀ b ∈ a, b ≠ c) → Lib.index a [c] = -1
 | [], _ => by simp [Lib.index]
 |b :: a, h => by
  have hb : c ≠ b := fun e => h b List.mem_cons_self e.symm
  have := index_no c a (fun x hx => h x (List.mem_cons_of_mem _ hx))
  rw [Lib.index, this]
  simp [List.isPrefixOf, hb]
theorem index_yes (c : UInt8) (r : List UInt8) : ∀ (a : List UInt8), (∀ b ∈ a, b ≠ c) → Lib.index (a ++ c :: r) [c] = a.length
 | [], _ => by simp [Lib.index, List.isPrefixOf]
 |b :: a, h => by
  have hb : c ≠ b := fun e => h b List.mem_cons_self e.symm
  have := index_yes c r a (fun x hx => h x (List.mem_cons_of_mem _ hx))
  rw [List.cons_append, Lib.index, this]
  have h1 : ([c].isPrefixOf (b :: (a ++ c :: r))) = false := by simp [List.isPrefixOf, hb]
  have h2 : (((a.length : Nat) : Int) == -1) = false := by simp
  rw [h1, h2]
  simp
theorem itoa_noc {n : Nat} {c : UInt8} (hc : dig c = false) : ∀ b ∈ Lib.itoa n, b ≠ c := by
 intro b hb e
 subst e
 rw [itoa_nat] at hb
 have := List.all_eq_true.1 (dec_digs n n (Nat.le_refl _)) b hb
 rw [hc] at this; cases this
end
section
open Go.RowKit
set_option maxRecDepth 20000
def strs (l : List (List UInt8)) : List Value := l.map sv
def RdSt (w : World) (B : Nat) (A : Option Addr) (c : Nat) (l : List (List UInt8)) : Prop := Rd w B 1 A l.length c (strs l)
theorem infoSt : (Tryz.prog.info? 9).map (fun i => (i.zero, i.size, i.bytes)) = some (some (.string ⟨#[]⟩), 1, 16) := by kernel_rfl
def OwnSt (w : World) (base : Nat) (A : Option Addr) (c : Nat) (l : List (List UInt8)) : Prop := w.ownsRow base 9 1 (.slice A l.length c) l.length (strs l)
theorem OwnSt.rd {w : World} {base c : Nat} {A : Option Addr} {l : List (List UInt8)} (h : OwnSt w base A c l) : RdSt w w.heap.size A c l := Rd.of_own h
/-- one string appended to an owned row. -/
theorem wpList_appSt {w : World} {ops : Array Oper} {rest : List Oper} {o : Oper} {a : _root_.Go.Act} {Q : Exit → _root_.Go.Act → World → Prop} (hgd : o.guard = none) (s x : Operand)
  (ho : o.op = .call { callee := .builtin .append, args := #[s, x], argTypes := #[22, 22] })
  (base : Nat) (A : Option Addr) (c : Nat) (l : List (List UInt8)) (hs : a.eval s = .slice A l.length c) (hown : OwnSt w base A c l)
  (g : Nat) (y : List UInt8) (hx : a.eval x = .slice (some ⟨g, 0, none⟩) 1 1) (hc : w.cell? ⟨g, 0, none⟩ = some (sv y)) (hlen : l.length ≤ 1000000000) (hbase : base ≤ w.heap.size)
  (h : ∀ A' c' w', OwnSt w' base A' c' (l ++ [y]) → w.grownBy w' (Value.slice A l.length c).ownBlock → wpList Tryz.prog ops Q rest (a.put o.dst (.slice A' (l.length + 1) c')) w') :
  wpList Tryz.prog ops Q (o :: rest) a w := by
 obtain ⟨i0, hi, hz0, hz1, hz2⟩ := info_parts infoSt
 refine wpList_append_own _ hgd s x 22 ho base 9 i0 (.string ⟨#[]⟩) 1 16 Tryz.underlying22 hi hz0 hz1 hz2 rfl (by decide) _ _ _ hs hown ⟨g, 0, none⟩ 1 1 [sv y] hx rfl ?_ ?_ (by unfold maxLen; omega) (by omega) hbase ?_
 ·intro j u hj
  match j, hj with
  |0, hj => simp only [List.getElem?_cons_zero, Option.some.injEq] at hj; subst hj; rw [Addr.add_lit]; exact hc
 ·intro u hu; simp only [List.mem_singleton] at hu; subst hu; rfl
 ·intro v' w1 hown' hgrow _
  have hex : ∃ A' c', v' = .slice A' (l.length + 1) c' := by
   rcases hown'.2 with ⟨rfl, h0⟩ | ⟨g', cap, cur, rfl, _⟩
   ·omega
   ·exact ⟨_, _, rfl⟩
  obtain ⟨A', c', rfl⟩ := hex
  refine h A' c' w1 ?_ hgrow
  unfold OwnSt
  rw [List.length_append]
  have e : strs (l ++ [y]) = strs l ++ [sv y] := by unfold strs; rw [List.map_append]; rfl
  rw [e]
  exact hown'
theorem ownSt_nil (w : World) (base : Nat) : OwnSt w base none 0 [] := World.ownsRow_nil _ _ _ _
theorem RdSt.at_ {w : World} {B c : Nat} {A : Option Addr} {l : List (List UInt8)} (h : RdSt w B A c l) {k : Nat} (hk : k < l.length) :
  ∃ b o, A = some ⟨b, o, none⟩ ∧ b < B ∧ ∀ (j : Nat) x, l[j]? = some x → w.cell? ⟨b, o + j, none⟩ = some (sv x) := by
 obtain ⟨b, o, e, hb, hc⟩ := h.2.2.2 (by omega)
 exact ⟨b, o, e, hb, fun j x hj => hc j _ (by simp [strs, hj])⟩
end
end Go.Proofs.YtpmmjhpmheooeaaGreatDoor
