/- RightText: both sides. -/
import Derived.Test.YtpmmjhpmheooeaaDoorText
import Derived.Test.YtpmmjhpmheooeaaDoorFrac
import Derived.Test.YtpmmjhpmheooeaaDoorKb
namespace Go.Proofs.YtpmmjhpmheooeaaDoor
set_option linter.unusedSimpArgs false
set_option linter.unusedVariables false
open Go.RowKit
set_option maxRecDepth 20000
def fracText (x y : Int) : List UInt8 := if fracOk x y then (if y = 1 then Lib.itoa x else Lib.itoa x ++ 47 :: Lib.itoa y) else []
def rightText (o x y : Int) : List UInt8 := if inB o 1 999 && fracOk x y then Lib.itoa o ++ 58 :: fracText x y else []
theorem fracText_no {x y : Int} (h : fracOk x y = false) : fracText x y = [] := by unfold fracText; rw [h]; rfl
theorem rightText_no {o x y : Int} (h : inB o 1 999 = false ∨ fracOk x y = false) : rightText o x y = [] := by
  unfold rightText; rcases h with h | h <;> simp [h]
theorem sv_mid (a b : List UInt8) (c : UInt8) : Value.string (⟨a.toArray⟩ ++ ⟨#[c]⟩ ++ ⟨b.toArray⟩) = sv (a ++ c :: b) := by
  refine congrArg _ (ByteArray.ext ?_)
  simp
set_option maxHeartbeats 1600000 in
theorem FractionText_any (x y : Int) (w : World) (ht : Tab w) :
    Calls Tryd.prog 43 #[.agg #[.int .i64 x, .int .i64 y]] w fun e w' => e = .returned (sv (fracText x y)) ∧ Below w.heap.size w w' := by
  have hB := Below.refl w.heap.size w
  cases hf : fracOk x y
  · have E := Lib.hid (fracText_no hf)
    have HC := Lib.hid (fun W => FractionOk_any x y W)
    rw [hf] at HC
    go_enter Tryd.func43, Tryd.ntmps43
    go_wp2_with fail
    first | refine name_world ?_ | refine name_wp ?_
    intro W1 hW
    replace hB : Below w.heap.size w W1 := by rw [hW]; exact tacT
    have hz_W1 : w.heap.size ≤ W1.heap.size := by rw [hW]; exact sT
    replace kb_p : Blk W1 (w.heap.size) 49 #[.int .i64 x, .int .i64 y] := by rw [hW]; exact blkT
    have hLW1_p := kb_p.lt
    try clear kc_p kf_p
    clear hW
    refine (HC.out _).mono ?_
    rintro e w1 ⟨rfl, hb⟩
    replace hB := hB.trans (Below.mono hb hB.size)
    have hz_w1 : W1.heap.size ≤ w1.heap.size := Below.size hb
    replace kb_p := kb_p.mv hb; obtain ⟨kb_p, kc_p, kf_p, hl_p, hn_p⟩ := kb_p
    clear hb
    go_wp2_with fail
    go_ret
    exact ⟨by rw [E.out]; rfl, hB⟩
  have hr := fracOk_iff hf
  have HC := Lib.hid (fun W => FractionOk_any x y W)
  rw [hf] at HC
  have hlx := itoa_len (n := x) (by omega) (by omega)
  have hly := itoa_len (n := y) (by omega) (by omega)
  by_cases hy : y = 1
  · have E : Hid (fracText x y = Lib.itoa x) := by show _ = _; unfold fracText; rw [hf, if_pos rfl, if_pos hy]
    have d1 : (y == 1) = true := by simpa using hy
    clear hy
    go_enter Tryd.func43, Tryd.ntmps43
    go_wp2_with fail
    first | refine name_world ?_ | refine name_wp ?_
    intro W1 hW
    replace hB : Below w.heap.size w W1 := by rw [hW]; exact tacT
    have hz_W1 : w.heap.size ≤ W1.heap.size := by rw [hW]; exact sT
    replace kb_p : Blk W1 (w.heap.size) 49 #[.int .i64 x, .int .i64 y] := by rw [hW]; exact blkT
    have hLW1_p := kb_p.lt
    try clear kc_p kf_p
    clear hW
    refine (HC.out _).mono ?_
    rintro e w1 ⟨rfl, hb⟩
    replace hB := hB.trans (Below.mono hb hB.size)
    have hz_w1 : W1.heap.size ≤ w1.heap.size := Below.size hb
    replace kb_p := kb_p.mv hb; obtain ⟨kb_p, kc_p, kf_p, hl_p, hn_p⟩ := kb_p
    clear hb
    have HT := Lib.hid (FormatInt_t x w1 (by omega) (ht.below hB))
    go_wp2_with fail
    refine HT.out.mono ?_
    rintro e w2 ⟨rfl, hb⟩
    replace hB := hB.trans (Below.mono hb hB.size)
    have hz_w2 : w1.heap.size ≤ w2.heap.size := Below.size hb
    replace kb_p := kb_p.mv hb; obtain ⟨kb_p, kc_p, kf_p, hl_p, hn_p⟩ := kb_p
    clear hb
    go_wp2_with fail
    go_ret
    exact ⟨by rw [E.out]; rfl, hB⟩
  · have E : Hid (fracText x y = Lib.itoa x ++ 47 :: Lib.itoa y) := by show _ = _; unfold fracText; rw [hf, if_pos rfl, if_neg hy]
    have d1 : (y == 1) = false := by simpa using hy
    have c1 : ¬ 9223372036854775807 < (Lib.itoa x).length + 1 := by omega
    have c2 : ¬ 9223372036854775807 < (Lib.itoa x).length + 1 + (Lib.itoa y).length := by omega
    go_enter Tryd.func43, Tryd.ntmps43
    go_wp2_with fail
    first | refine name_world ?_ | refine name_wp ?_
    intro W1 hW
    replace hB : Below w.heap.size w W1 := by rw [hW]; exact tacT
    have hz_W1 : w.heap.size ≤ W1.heap.size := by rw [hW]; exact sT
    replace kb_p : Blk W1 (w.heap.size) 49 #[.int .i64 x, .int .i64 y] := by rw [hW]; exact blkT
    have hLW1_p := kb_p.lt
    try clear kc_p kf_p
    clear hW
    refine (HC.out _).mono ?_
    rintro e w1 ⟨rfl, hb⟩
    replace hB := hB.trans (Below.mono hb hB.size)
    have hz_w1 : W1.heap.size ≤ w1.heap.size := Below.size hb
    replace kb_p := kb_p.mv hb; obtain ⟨kb_p, kc_p, kf_p, hl_p, hn_p⟩ := kb_p
    clear hb
    have HT := Lib.hid (ht.below hB)
    have g0 : ∀ (z : NewW w1), z.w.cell? ⟨w.heap.size, 0, none⟩ = some (.int .i64 x) := fun z => NewW.cell (by rw [kc_p]; rfl) z
    have g1 : ∀ (z : NewW w1), z.w.cell? ⟨w.heap.size, 1, none⟩ = some (.int .i64 y) := fun z => NewW.cell (by rw [kc_p]; rfl) z
    go_wp2_with fail
    refine wp_region_new (by kernel_rfl) (by kernel_rfl) ?_
    repeat (go_big_quiet_step ((go_at_call 22; exact NewW.call (FormatInt_t _ _ (by omega) (HT.out.below (NewW.h _))))))
    refine wpQuiet_nil ?_
    intro w2 hw'
    obtain ⟨hx, hw''⟩ := hw'
    have hb2 := hx.h
    rw [← hw''] at hb2
    clear hw'' hx
    clear g0 g1
    replace hB := hB.trans (Below.mono hb2 hB.size)
    have hz_w2 : w1.heap.size ≤ w2.heap.size := Below.size hb2
    replace kb_p := kb_p.mv hb2; obtain ⟨kb_p, kc_p, kf_p, hl_p, hn_p⟩ := kb_p
    clear hb2
    go_wp2_with fail
    go_ret
    refine ⟨?_, hB⟩
    rw [E.out]
    exact congrArg _ (sv_mid _ _ _)
set_option maxHeartbeats 1600000 in
theorem RightText_any (o x y : Int) (w : World) (ht : Tab w) :
    Calls Tryd.prog 19 #[.agg #[.int .i64 o, .int .i64 x, .int .i64 y]] w fun e w' => e = .returned (sv (rightText o x y)) ∧ Below w.heap.size w w' := by
  have hB := Below.refl w.heap.size w
  have HC := Lib.hid (fun W => FractionOk_any x y W)
  cases ho : inB o 1 999
  · have E := Lib.hid (rightText_no (x := x) (y := y) (.inl ho))
    go_enter Tryd.func19, Tryd.ntmps19
    go_wp2_with (go_at_call 41; refine (within_any _ _ _ _).mono ?_; rintro e w' ⟨rfl, rfl⟩)
    go_ret
    exact ⟨by rw [E.out]; rfl, by exact tacT⟩
  cases hf : fracOk x y
  · have E := Lib.hid (rightText_no (o := o) (.inr hf))
    rw [hf] at HC
    go_enter Tryd.func19, Tryd.ntmps19
    go_wp2_with (go_at_call 41; refine (within_any _ _ _ _).mono ?_; rintro e w' ⟨rfl, rfl⟩)
    first | refine name_world ?_ | refine name_wp ?_
    intro W1 hW
    replace hB : Below w.heap.size w W1 := by rw [hW]; exact tacT
    have hz_W1 : w.heap.size ≤ W1.heap.size := by rw [hW]; exact sT
    replace kb_p : Blk W1 (w.heap.size) 51 #[.int .i64 o, .int .i64 x, .int .i64 y] := by rw [hW]; exact blkT
    have hLW1_p := kb_p.lt
    try clear kc_p kf_p
    clear hW
    refine (HC.out _).mono ?_
    rintro e w1 ⟨rfl, hb⟩
    replace hB := hB.trans (Below.mono hb hB.size)
    have hz_w1 : W1.heap.size ≤ w1.heap.size := Below.size hb
    replace kb_p := kb_p.mv hb; obtain ⟨kb_p, kc_p, kf_p, hl_p, hn_p⟩ := kb_p
    clear hb
    go_wp2_with fail
    go_ret
    exact ⟨by rw [E.out]; rfl, hB⟩
  have E : Hid (rightText o x y = Lib.itoa o ++ 58 :: fracText x y) := by show _ = _; unfold rightText; rw [ho, hf]; rfl
  have hr := fracOk_iff hf
  have hoo := inB_iff.1 ho
  have hlx := itoa_len (n := o) (by omega) (by omega)
  have hly : (fracText x y).length ≤ 50 := by
    have h1 := itoa_len (n := x) (by omega) (by omega)
    have h2 := itoa_len (n := y) (by omega) (by omega)
    unfold fracText
    rw [hf, if_pos rfl]
    split
    · omega
    · rw [List.length_append, List.length_cons]; omega
  have c1 : ¬ 9223372036854775807 < (Lib.itoa o).length + 1 := by omega
  have c2 : ¬ 9223372036854775807 < (Lib.itoa o).length + 1 + (fracText x y).length := by omega
  rw [hf] at HC
  go_enter Tryd.func19, Tryd.ntmps19
  go_wp2_with (go_at_call 41; refine (within_any _ _ _ _).mono ?_; rintro e w' ⟨rfl, rfl⟩)
  first | refine name_world ?_ | refine name_wp ?_
  intro W1 hW
  replace hB : Below w.heap.size w W1 := by rw [hW]; exact tacT
  have hz_W1 : w.heap.size ≤ W1.heap.size := by rw [hW]; exact sT
  replace kb_p : Blk W1 (w.heap.size) 51 #[.int .i64 o, .int .i64 x, .int .i64 y] := by rw [hW]; exact blkT
  have hLW1_p := kb_p.lt
  try clear kc_p kf_p
  clear hW
  refine (HC.out _).mono ?_
  rintro e w1 ⟨rfl, hb⟩
  replace hB := hB.trans (Below.mono hb hB.size)
  have hz_w1 : W1.heap.size ≤ w1.heap.size := Below.size hb
  replace kb_p := kb_p.mv hb; obtain ⟨kb_p, kc_p, kf_p, hl_p, hn_p⟩ := kb_p
  clear hb
  have HT := Lib.hid (ht.below hB)
  have g0 : ∀ (z : NewW w1), z.w.cell? ⟨w.heap.size, 0, none⟩ = some (.int .i64 o) := fun z => NewW.cell (by rw [kc_p]; rfl) z
  have g1 : ∀ (z : NewW w1), z.w.cell? ⟨w.heap.size, 1, none⟩ = some (.int .i64 x) := fun z => NewW.cell (by rw [kc_p]; rfl) z
  have g2 : ∀ (z : NewW w1), z.w.cell? ⟨w.heap.size, 2, none⟩ = some (.int .i64 y) := fun z => NewW.cell (by rw [kc_p]; rfl) z
  go_wp2_with fail
  refine wp_region_new (by kernel_rfl) (by kernel_rfl) ?_
  repeat (go_big_quiet_step ((first | (go_at_call 22; exact NewW.call (FormatInt_t _ _ (by omega) (HT.out.below (NewW.h _)))) | (go_at_call 43; exact NewW.call (FractionText_any _ _ _ (HT.out.below (NewW.h _)))))))
  refine wpQuiet_nil ?_
  intro w2 hw'
  obtain ⟨hx, hw''⟩ := hw'
  have hb2 := hx.h
  rw [← hw''] at hb2
  clear hw'' hx
  clear g0 g1 g2
  replace hB := hB.trans (Below.mono hb2 hB.size)
  have hz_w2 : w1.heap.size ≤ w2.heap.size := Below.size hb2
  replace kb_p := kb_p.mv hb2; obtain ⟨kb_p, kc_p, kf_p, hl_p, hn_p⟩ := kb_p
  clear hb2
  go_wp2_with fail
  go_ret
  refine ⟨?_, hB⟩
  rw [E.out]
  exact congrArg _ (sv_mid _ _ _)
end Go.Proofs.YtpmmjhpmheooeaaDoor
