/- Texts of the proof, joined: RightsOk. -/
import Derived.Test.YtpmmjhpmheooeaaGreatDoorQ9
namespace Go.Proofs.YtpmmjhpmheooeaaGreatDoor
set_option linter.unusedSimpArgs false
set_option linter.unusedVariables false
section
open Go.RowKit
def rowsOk : Int → List T3 → Bool
 |_, [] => true
 |p, e :: es => inB e.x 1 999 && decide (p < e.x) && decide (1 ≤ e.y) && rowsOk e.x es
theorem rowsOk_cons (p : Int) (e : T3) (es : List T3) : rowsOk p (e :: es) = (inB e.x 1 999 && decide (p < e.x) && decide (1 ≤ e.y) && rowsOk e.x es) := rfl
def rowsI : Int → List T3 → Bool
 |_, [] => true
 |p, e :: es => inB e.x 1 999 && decide (p < e.x) && fracOk e.y e.z && !(e.y == 0) && rowsI e.x es
theorem rowsI_cons (p : Int) (e : T3) (es : List T3) : rowsI p (e :: es) = (inB e.x 1 999 && decide (p < e.x) && fracOk e.y e.z && !(e.y == 0) && rowsI e.x es) := rfl
def rightsOk (l : List T3) : Bool := rowsOk 0 l && inB l.length 1 12 && ((sumShares l).2.2 && ((sumShares l).1 == 1) && ((sumShares l).2.1 == 1))
theorem addF_ok {a b c d : Int} (h : (addF a b c d).2.2 = true) : fracOk a b = true ∧ fracOk c d = true := by
 unfold addF at h
 split at h
 ·rename_i hc; simpa using hc
 ·cases h
theorem sumF_all : ∀ (l : List T3) (t b : Int), (sumF l t b).2.2 = true → ∀ e ∈ l, fracOk e.y e.z = true
 | [], _, _, _, e, he => by cases he
 |x :: l, t, b, h, e, he => by
  obtain ⟨t', b', ok, ha⟩ : ∃ t' b' ok, addF t b x.y x.z = (t', b', ok) := ⟨_, _, _, rfl⟩
  cases ok
  ·rw [sumF_no ha] at h; cases h
  ·rw [sumF_yes ha] at h
   rcases List.mem_cons.1 he with rfl | he
   ·exact (addF_ok (by rw [ha])).2
   ·exact sumF_all l t' b' h e he
theorem rowsI_eq : ∀ (l : List T3) (p : Int), (∀ e ∈ l, fracOk e.y e.z = true) → rowsI p l = rowsOk p l
 | [], _, _ => rfl
 |x :: l, p, h => by
  rw [rowsI_cons, rowsOk_cons, rowsI_eq l x.x (fun e he => h e (List.mem_cons_of_mem _ he)), h x List.mem_cons_self]
  have h0 := (fracOk_iff (h x List.mem_cons_self)).1
  have : (!(x.y == 0)) = decide (1 ≤ x.y) := by
   by_cases hy : 1 ≤ x.y
   ·have : x.y ≠ 0 := by omega
    simp [hy, this]
   ·have : x.y = 0 := by omega
    simp [this]
  rw [this, Bool.and_true]
theorem rights_no {l : List T3} (h : rowsI 0 l = false) : rightsOk l = false := by
 unfold rightsOk
 cases hs : (sumShares l).2.2
 ·simp
 ·have : (sumF l 0 1).2.2 = true := by
   unfold sumShares at hs; split at hs
   ·exact hs
   ·cases hs
  rw [← rowsI_eq l 0 (sumF_all l 0 1 this), h]; rfl
theorem rights_yes {l : List T3} {t b : Int} {ok : Bool} (h : rowsI 0 l = true) (hl : inB l.length 1 12 = true) (hs : sumShares l = (t, b, ok)) : rightsOk l = (ok && (t == 1) && (b == 1)) := by
 unfold rightsOk
 rw [hl, hs]
 cases ok
 ·simp
 ·have : (sumF l 0 1).2.2 = true := by
   unfold sumShares at hs; split at hs
   ·rw [hs]
   ·cases hs
  rw [← rowsI_eq l 0 (sumF_all l 0 1 this), h]; rfl
set_option maxHeartbeats 3200000 in
theorem RightsOk_any (A : Option Addr) (c : Nat) (l : List T3) (w : World) (h : RdT w w.heap.size A c l) :
  Calls Tryz.prog 63 #[.slice A l.length c] w fun e w' => e = .returned (.bool (rightsOk l)) ∧ Below w.heap.size w w' := by
 obtain ⟨hl, hm⟩ := h.le
 have hB := Below.refl w.heap.size w
 cases hin : inB l.length 1 12
 ·have HE : Hid (rightsOk l = false) := by show rightsOk l = false; unfold rightsOk; rw [hin]; simp
  go_enter Tryz.func63, Tryz.ntmps63
  go_wp2_with (go_at_call 97; refine (within_any _ _ _ _).mono ?_; rintro e w' ⟨rfl, rfl⟩)
  go_ret
  exact ⟨ret_bool HE.out.symm, by exact tacT⟩
 have hlen := inB_iff.1 hin
 obtain ⟨t, b, ok, hs⟩ : ∃ t b ok, sumShares l = (t, b, ok) := ⟨_, _, _, rfl⟩
 have HS : Hid (∀ W, Below w.heap.size w W → Calls Tryz.prog 100 #[.slice A l.length c] W fun e w' => e = frRet (t, b, ok) ∧ Below W.heap.size W w') := fun W hb => by rw [← hs]; exact SumOfShares_any A c l W (h.below hb)
 have HE : Hid (rowsI 0 l = true → rightsOk l = (ok && (t == 1) && (b == 1))) := fun hr => rights_yes hr hin hs
 have HF : Hid (∀ (t b : Int) (W : World), Calls Tryz.prog 99 #[.agg #[.int .i64 t, .int .i64 b]] W fun e w' => e = .returned (.bool (fracOk t b)) ∧ Below W.heap.size W w') := fun t b W => FractionOk_any t b W
 clear hs
 go_enter Tryz.func63, Tryz.ntmps63
 go_wp2_with (go_at_call 97; refine (within_any _ _ _ _).mono ?_; rintro e w' ⟨rfl, rfl⟩)
 go_loopw [13] (fun i wr => ∃ (k : Nat) (p : Int), k ≤ l.length ∧ i = .int .i64 k ∧ ((k = 0 ∧ p = 0) ∨ (0 < k ∧ ∃ e, l[k - 1]? = some e ∧ e.x = p)) ∧ Below w.heap.size w wr ∧ Hid (rowsI p (l.drop k) = rowsI 0 l)) (fun i _ => l.length - (intOf i).toNat)
 case atStart => exact ⟨0, 0, Nat.zero_le _, rfl, .inl ⟨rfl, rfl⟩, by exact tacT, rfl⟩
 case round =>
  obtain ⟨k, p, hk, rfl, hp, hB, HR⟩ := hrel
  have hbs := hB.size
  by_cases hlt : k < l.length
  ·obtain ⟨bb, o, x, rfl, hbb, hx, e0, e1, e2⟩ := h.at_ hlt
   have f0 : wr.cell? ⟨bb, o + k * 3, none⟩ = some (.int .i64 x.x) := (hB.cell (p := ⟨bb, _, none⟩) hbb).trans e0
   have f1 : wr.cell? ⟨bb, o + k * 3 + 1, none⟩ = some (.int .i64 x.y) := (hB.cell (p := ⟨bb, _, none⟩) hbb).trans e1
   have f2 : wr.cell? ⟨bb, o + k * 3 + 2, none⟩ = some (.int .i64 x.z) := (hB.cell (p := ⟨bb, _, none⟩) hbb).trans e2
   clear e0 e1 e2
   have hlb : bb < wr.heap.size := by omega
   have hk0 : (0 : Int) ≤ (k : Int) := by omega
   have hk1 : (k : Int) < (l.length : Int) := by omega
   have hrr := HR.out
   rw [drop_cons hx, rowsI_cons] at hrr
   have HRR := Lib.hid (And.intro hrr hx)
   clear hrr hx HR
   rcases hp with ⟨hk9, rfl⟩ | ⟨hkp, q, hq, rfl⟩
   ·have g0 : ¬ (0 : Int) < (k : Int) := by omega
    have g1 : decide ((0 : Int) < (k : Int)) = false := by simpa using g0
    have g2 : ¬ 0 < k := by omega
    have g3 : decide (0 < k) = false := by simpa using g2
    clear hk9
    cases c1 : inB x.x 1 999
    ·skip
     go_wp2_with fail
     first | refine name_world ?_ | refine name_wp ?_
     intro W1 hW
     replace hB : Below w.heap.size w W1 := by rw [hW]; exact tacT
     have hz_W1 : wr.heap.size ≤ W1.heap.size := by rw [hW]; exact sT
     replace kb_r : Blk W1 (wr.heap.size) 69 #[.int .i64 x.x, .int .i64 x.y, .int .i64 x.z] := by rw [hW]; exact blkT
     have hLW1_r := kb_r.lt
     try clear kc_r kf_r
     clear hW
     have gr : ∀ (z : NewW W1) (i : Nat), z.w.cell? ⟨wr.heap.size, i, none⟩ = #[.int .i64 x.x, .int .i64 x.y, .int .i64 x.z][i]? := fun z i => (kb_r.newW z).cells i
     clear f0 f1 f2
     refine wp_region_new (by kernel_rfl) (by kernel_rfl) ?_
     repeat (go_big_quiet_step (first | (go_at_call 97; exact NewW.same (within_any _ _ _ _)) | (go_at_call 99; exact NewW.call (HF.out _ _ _))))
     refine wpQuiet_nil ?_
     intro w2 hw'
     obtain ⟨hx, hw''⟩ := hw'
     have hb2 := hx.h
     rw [← hw''] at hb2
     clear hw'' hx
     clear gr
     replace hB := hB.trans (Below.mono hb2 hB.size)
     have hz_w2 : W1.heap.size ≤ w2.heap.size := Below.size hb2
     clear hb2
     go_wp2_with fail
     go_ret
     exact ⟨ret_bool (rights_no (by rw [← HRR.out.1]; simp [c1])).symm, by exact tacT⟩
    have c2 : 0 < x.x := by have := inB_iff.1 c1; omega
    cases c3 : fracOk x.y x.z
    ·skip
     go_wp2_with fail
     first | refine name_world ?_ | refine name_wp ?_
     intro W1 hW
     replace hB : Below w.heap.size w W1 := by rw [hW]; exact tacT
     have hz_W1 : wr.heap.size ≤ W1.heap.size := by rw [hW]; exact sT
     replace kb_r : Blk W1 (wr.heap.size) 69 #[.int .i64 x.x, .int .i64 x.y, .int .i64 x.z] := by rw [hW]; exact blkT
     have hLW1_r := kb_r.lt
     try clear kc_r kf_r
     clear hW
     have gr : ∀ (z : NewW W1) (i : Nat), z.w.cell? ⟨wr.heap.size, i, none⟩ = #[.int .i64 x.x, .int .i64 x.y, .int .i64 x.z][i]? := fun z i => (kb_r.newW z).cells i
     clear f0 f1 f2
     refine wp_region_new (by kernel_rfl) (by kernel_rfl) ?_
     repeat (go_big_quiet_step (first | (go_at_call 97; exact NewW.same (within_any _ _ _ _)) | (go_at_call 99; exact NewW.call (HF.out _ _ _))))
     refine wpQuiet_nil ?_
     intro w2 hw'
     obtain ⟨hx, hw''⟩ := hw'
     have hb2 := hx.h
     rw [← hw''] at hb2
     clear hw'' hx
     clear gr
     replace hB := hB.trans (Below.mono hb2 hB.size)
     have hz_w2 : W1.heap.size ≤ w2.heap.size := Below.size hb2
     clear hb2
     go_wp2_with fail
     go_ret
     exact ⟨ret_bool (rights_no (by rw [← HRR.out.1]; simp [c3])).symm, by exact tacT⟩
    by_cases c4 : x.y = 0
    ·rw [c4] at c3
     go_wp2_with fail
     first | refine name_world ?_ | refine name_wp ?_
     intro W1 hW
     replace hB : Below w.heap.size w W1 := by rw [hW]; exact tacT
     have hz_W1 : wr.heap.size ≤ W1.heap.size := by rw [hW]; exact sT
     replace kb_r : Blk W1 (wr.heap.size) 69 #[.int .i64 x.x, .int .i64 0, .int .i64 x.z] := by rw [hW]; exact blkT
     have hLW1_r := kb_r.lt
     try clear kc_r kf_r
     clear hW
     have gr : ∀ (z : NewW W1) (i : Nat), z.w.cell? ⟨wr.heap.size, i, none⟩ = #[.int .i64 x.x, .int .i64 0, .int .i64 x.z][i]? := fun z i => (kb_r.newW z).cells i
     clear f0 f1 f2
     refine wp_region_new (by kernel_rfl) (by kernel_rfl) ?_
     repeat (go_big_quiet_step (first | (go_at_call 97; exact NewW.same (within_any _ _ _ _)) | (go_at_call 99; exact NewW.call (HF.out _ _ _))))
     refine wpQuiet_nil ?_
     intro w2 hw'
     obtain ⟨hx, hw''⟩ := hw'
     have hb2 := hx.h
     rw [← hw''] at hb2
     clear hw'' hx
     clear gr
     replace hB := hB.trans (Below.mono hb2 hB.size)
     have hz_w2 : W1.heap.size ≤ w2.heap.size := Below.size hb2
     clear hb2
     go_wp2_with fail
     go_ret
     exact ⟨ret_bool (rights_no (by rw [← HRR.out.1]; simp [c4])).symm, by exact tacT⟩
    have c4' : (x.y == 0) = false := by simpa using c4
    go_wp2_with fail
    first | refine name_world ?_ | refine name_wp ?_
    intro W1 hW
    replace hB : Below w.heap.size w W1 := by rw [hW]; exact tacT
    have hz_W1 : wr.heap.size ≤ W1.heap.size := by rw [hW]; exact sT
    replace kb_r : Blk W1 (wr.heap.size) 69 #[.int .i64 x.x, .int .i64 x.y, .int .i64 x.z] := by rw [hW]; exact blkT
    have hLW1_r := kb_r.lt
    try clear kc_r kf_r
    clear hW
    have gr : ∀ (z : NewW W1) (i : Nat), z.w.cell? ⟨wr.heap.size, i, none⟩ = #[.int .i64 x.x, .int .i64 x.y, .int .i64 x.z][i]? := fun z i => (kb_r.newW z).cells i
    clear f0 f1 f2
    refine wp_region_new (by kernel_rfl) (by kernel_rfl) ?_
    repeat (go_big_quiet_step (first | (go_at_call 97; exact NewW.same (within_any _ _ _ _)) | (go_at_call 99; exact NewW.call (HF.out _ _ _))))
    refine wpQuiet_nil ?_
    intro w2 hw'
    obtain ⟨hx, hw''⟩ := hw'
    have hb2 := hx.h
    rw [← hw''] at hb2
    clear hw'' hx
    clear gr
    replace hB := hB.trans (Below.mono hb2 hB.size)
    have hz_w2 : W1.heap.size ≤ w2.heap.size := Below.size hb2
    clear hb2
    go_wp2_with fail
    go_roundw
    case rel => exact ⟨k + 1, x.x, by omega, by go_num, .inr ⟨by omega, x, by simpa using HRR.out.2, rfl⟩, by exact tacT, (show rowsI x.x (l.drop (k + 1)) = rowsI 0 l from by rw [← HRR.out.1]; simp [c1, c2, c3, c4])⟩
    case measure => simp [intOf]; omega
   ·obtain ⟨bb', o', q', hA, hbb', hq', q0, _, _⟩ := h.at_ (k := k - 1) (by omega)
    simp only [Option.some.injEq, Addr.mk.injEq, and_true] at hA
    obtain ⟨rfl, rfl⟩ := hA
    obtain rfl : q = q' := by rw [hq] at hq'; exact Option.some.inj hq'
    clear hq hq'
    have hkp' : (0 : Int) < (k : Int) := by omega
    have hkq : IntKind.i64.wrap ((k : Int) - 1) = (k : Int) - 1 := IntWalk.i64_in _ (by omega)
    have hkr : (1 : Int) ≤ (k : Int) := by omega
    have hks : (k : Int) - 1 < (l.length : Int) := by omega
    have hkt : (0 : Int) ≤ (k : Int) - 1 := by omega
    obtain ⟨p, hpq⟩ : ∃ p, p = q.x := ⟨_, rfl⟩
    rw [← hpq] at HRR
    cases c1 : inB x.x 1 999
    ·skip
     go_wp2_with fail
     first | refine name_world ?_ | refine name_wp ?_
     intro W1 hW
     replace hB : Below w.heap.size w W1 := by rw [hW]; exact tacT
     have hz_W1 : wr.heap.size ≤ W1.heap.size := by rw [hW]; exact sT
     replace kb_r : Blk W1 (wr.heap.size) 69 #[.int .i64 x.x, .int .i64 x.y, .int .i64 x.z] := by rw [hW]; exact blkT
     have hLW1_r := kb_r.lt
     try clear kc_r kf_r
     clear hW
     have gr : ∀ (z : NewW W1) (i : Nat), z.w.cell? ⟨wr.heap.size, i, none⟩ = #[.int .i64 x.x, .int .i64 x.y, .int .i64 x.z][i]? := fun z i => (kb_r.newW z).cells i
     clear f0 f1 f2
     have gp : ∀ (z : NewW W1), z.w.cell? ⟨bb, o + (k - 1) * 3, none⟩ = some (.int .i64 q.x) := fun z => NewW.cell (Below.cell hB (p := ⟨bb, o + (k - 1) * 3, none⟩) hbb |>.trans q0) z
     refine wp_region_new (by kernel_rfl) (by kernel_rfl) ?_
     repeat (go_big_quiet_step (first | (go_at_call 97; exact NewW.same (within_any _ _ _ _)) | (go_at_call 99; exact NewW.call (HF.out _ _ _))))
     refine wpQuiet_nil ?_
     intro w2 hw'
     obtain ⟨hx, hw''⟩ := hw'
     have hb2 := hx.h
     rw [← hw''] at hb2
     clear hw'' hx
     clear gr gp
     replace hB := hB.trans (Below.mono hb2 hB.size)
     have hz_w2 : W1.heap.size ≤ w2.heap.size := Below.size hb2
     clear hb2
     go_wp2_with fail
     go_ret
     exact ⟨ret_bool (rights_no (by rw [← HRR.out.1]; simp [c1])).symm, by exact tacT⟩
    by_cases c2 : q.x < x.x
    case neg =>
     have c2' : x.x ≤ q.x := by omega
     have c2b : decide (x.x ≤ q.x) = true := by simpa using c2'
     go_wp2_with fail
     first | refine name_world ?_ | refine name_wp ?_
     intro W1 hW
     replace hB : Below w.heap.size w W1 := by rw [hW]; exact tacT
     have hz_W1 : wr.heap.size ≤ W1.heap.size := by rw [hW]; exact sT
     replace kb_r : Blk W1 (wr.heap.size) 69 #[.int .i64 x.x, .int .i64 x.y, .int .i64 x.z] := by rw [hW]; exact blkT
     have hLW1_r := kb_r.lt
     try clear kc_r kf_r
     clear hW
     have gr : ∀ (z : NewW W1) (i : Nat), z.w.cell? ⟨wr.heap.size, i, none⟩ = #[.int .i64 x.x, .int .i64 x.y, .int .i64 x.z][i]? := fun z i => (kb_r.newW z).cells i
     clear f0 f1 f2
     have gp : ∀ (z : NewW W1), z.w.cell? ⟨bb, o + (k - 1) * 3, none⟩ = some (.int .i64 q.x) := fun z => NewW.cell (Below.cell hB (p := ⟨bb, o + (k - 1) * 3, none⟩) hbb |>.trans q0) z
     refine wp_region_new (by kernel_rfl) (by kernel_rfl) ?_
     repeat (go_big_quiet_step (first | (go_at_call 97; exact NewW.same (within_any _ _ _ _)) | (go_at_call 99; exact NewW.call (HF.out _ _ _))))
     refine wpQuiet_nil ?_
     intro w2 hw'
     obtain ⟨hx, hw''⟩ := hw'
     have hb2 := hx.h
     rw [← hw''] at hb2
     clear hw'' hx
     clear gr gp
     replace hB := hB.trans (Below.mono hb2 hB.size)
     have hz_w2 : W1.heap.size ≤ w2.heap.size := Below.size hb2
     clear hb2
     go_wp2_with fail
     go_ret
     exact ⟨ret_bool (rights_no (by rw [← HRR.out.1]; simp [hpq, show ¬ q.x < x.x from by omega])).symm, by exact tacT⟩
    have c2' : ¬ x.x ≤ q.x := by omega
    have c2b : decide (x.x ≤ q.x) = false := by simpa using c2'
    cases c3 : fracOk x.y x.z
    ·skip
     go_wp2_with fail
     first | refine name_world ?_ | refine name_wp ?_
     intro W1 hW
     replace hB : Below w.heap.size w W1 := by rw [hW]; exact tacT
     have hz_W1 : wr.heap.size ≤ W1.heap.size := by rw [hW]; exact sT
     replace kb_r : Blk W1 (wr.heap.size) 69 #[.int .i64 x.x, .int .i64 x.y, .int .i64 x.z] := by rw [hW]; exact blkT
     have hLW1_r := kb_r.lt
     try clear kc_r kf_r
     clear hW
     have gr : ∀ (z : NewW W1) (i : Nat), z.w.cell? ⟨wr.heap.size, i, none⟩ = #[.int .i64 x.x, .int .i64 x.y, .int .i64 x.z][i]? := fun z i => (kb_r.newW z).cells i
     clear f0 f1 f2
     have gp : ∀ (z : NewW W1), z.w.cell? ⟨bb, o + (k - 1) * 3, none⟩ = some (.int .i64 q.x) := fun z => NewW.cell (Below.cell hB (p := ⟨bb, o + (k - 1) * 3, none⟩) hbb |>.trans q0) z
     refine wp_region_new (by kernel_rfl) (by kernel_rfl) ?_
     repeat (go_big_quiet_step (first | (go_at_call 97; exact NewW.same (within_any _ _ _ _)) | (go_at_call 99; exact NewW.call (HF.out _ _ _))))
     refine wpQuiet_nil ?_
     intro w2 hw'
     obtain ⟨hx, hw''⟩ := hw'
     have hb2 := hx.h
     rw [← hw''] at hb2
     clear hw'' hx
     clear gr gp
     replace hB := hB.trans (Below.mono hb2 hB.size)
     have hz_w2 : W1.heap.size ≤ w2.heap.size := Below.size hb2
     clear hb2
     go_wp2_with fail
     go_ret
     exact ⟨ret_bool (rights_no (by rw [← HRR.out.1]; simp [c3])).symm, by exact tacT⟩
    by_cases c4 : x.y = 0
    ·rw [c4] at c3
     go_wp2_with fail
     first | refine name_world ?_ | refine name_wp ?_
     intro W1 hW
     replace hB : Below w.heap.size w W1 := by rw [hW]; exact tacT
     have hz_W1 : wr.heap.size ≤ W1.heap.size := by rw [hW]; exact sT
     replace kb_r : Blk W1 (wr.heap.size) 69 #[.int .i64 x.x, .int .i64 0, .int .i64 x.z] := by rw [hW]; exact blkT
     have hLW1_r := kb_r.lt
     try clear kc_r kf_r
     clear hW
     have gr : ∀ (z : NewW W1) (i : Nat), z.w.cell? ⟨wr.heap.size, i, none⟩ = #[.int .i64 x.x, .int .i64 0, .int .i64 x.z][i]? := fun z i => (kb_r.newW z).cells i
     clear f0 f1 f2
     have gp : ∀ (z : NewW W1), z.w.cell? ⟨bb, o + (k - 1) * 3, none⟩ = some (.int .i64 q.x) := fun z => NewW.cell (Below.cell hB (p := ⟨bb, o + (k - 1) * 3, none⟩) hbb |>.trans q0) z
     refine wp_region_new (by kernel_rfl) (by kernel_rfl) ?_
     repeat (go_big_quiet_step (first | (go_at_call 97; exact NewW.same (within_any _ _ _ _)) | (go_at_call 99; exact NewW.call (HF.out _ _ _))))
     refine wpQuiet_nil ?_
     intro w2 hw'
     obtain ⟨hx, hw''⟩ := hw'
     have hb2 := hx.h
     rw [← hw''] at hb2
     clear hw'' hx
     clear gr gp
     replace hB := hB.trans (Below.mono hb2 hB.size)
     have hz_w2 : W1.heap.size ≤ w2.heap.size := Below.size hb2
     clear hb2
     go_wp2_with fail
     go_ret
     exact ⟨ret_bool (rights_no (by rw [← HRR.out.1]; simp [c4])).symm, by exact tacT⟩
    have c4' : (x.y == 0) = false := by simpa using c4
    go_wp2_with fail
    first | refine name_world ?_ | refine name_wp ?_
    intro W1 hW
    replace hB : Below w.heap.size w W1 := by rw [hW]; exact tacT
    have hz_W1 : wr.heap.size ≤ W1.heap.size := by rw [hW]; exact sT
    replace kb_r : Blk W1 (wr.heap.size) 69 #[.int .i64 x.x, .int .i64 x.y, .int .i64 x.z] := by rw [hW]; exact blkT
    have hLW1_r := kb_r.lt
    try clear kc_r kf_r
    clear hW
    have gr : ∀ (z : NewW W1) (i : Nat), z.w.cell? ⟨wr.heap.size, i, none⟩ = #[.int .i64 x.x, .int .i64 x.y, .int .i64 x.z][i]? := fun z i => (kb_r.newW z).cells i
    clear f0 f1 f2
    have gp : ∀ (z : NewW W1), z.w.cell? ⟨bb, o + (k - 1) * 3, none⟩ = some (.int .i64 q.x) := fun z => NewW.cell (Below.cell hB (p := ⟨bb, o + (k - 1) * 3, none⟩) hbb |>.trans q0) z
    refine wp_region_new (by kernel_rfl) (by kernel_rfl) ?_
    repeat (go_big_quiet_step (first | (go_at_call 97; exact NewW.same (within_any _ _ _ _)) | (go_at_call 99; exact NewW.call (HF.out _ _ _))))
    refine wpQuiet_nil ?_
    intro w2 hw'
    obtain ⟨hx, hw''⟩ := hw'
    have hb2 := hx.h
    rw [← hw''] at hb2
    clear hw'' hx
    clear gr gp
    replace hB := hB.trans (Below.mono hb2 hB.size)
    have hz_w2 : W1.heap.size ≤ w2.heap.size := Below.size hb2
    clear hb2
    go_wp2_with fail
    go_roundw
    case rel => exact ⟨k + 1, x.x, by omega, by go_num, .inr ⟨by omega, x, by simpa using HRR.out.2, rfl⟩, by exact tacT, (show rowsI x.x (l.drop (k + 1)) = rowsI 0 l from by rw [← HRR.out.1]; simp [hpq, c1, c2, c3, c4])⟩
    case measure => simp [intOf]; omega
  ·have hrr := HR.out
   rw [drop_end hlt] at hrr
   have HRR := Lib.hid hrr.symm
   clear hrr HR hp
   go_wp2_with fail
   refine (HS.out _ hB).mono ?_
   rintro e w2 ⟨rfl, hb⟩
   unfold frRet
   replace hB := hB.trans (Below.mono hb hB.size)
   have hz_w2 : wr.heap.size ≤ w2.heap.size := Below.size hb
   clear hb
   cases ok
   ·go_wp2_with fail
    go_ret
    exact ⟨ret_bool (HE.out HRR.out).symm, by exact tacT⟩
   ·go_wp2_with fail
    all_goals
     go_ret
     exact ⟨ret_bool (by rw [HE.out HRR.out]; simp [*]), by exact tacT⟩
set_option maxHeartbeats 3200000 in
theorem RightsOkS_any (A : Option Addr) (c : Nat) (l : List T3) (w : World) (h : RdT w w.heap.size A c l) :
  Calls Tryz.prog 79 #[.slice A l.length c] w fun e w' => e = .returned (.bool (rightsOk l)) ∧ Below w.heap.size w w' := by
 obtain ⟨hl, hm⟩ := h.le
 have hB := Below.refl w.heap.size w
 obtain ⟨t, b, ok, hs⟩ : ∃ t b ok, sumShares l = (t, b, ok) := ⟨_, _, _, rfl⟩
 have HS : Hid (∀ W, Below w.heap.size w W → Calls Tryz.prog 109 #[.slice A l.length c] W fun e w' => e = frRet (t, b, ok) ∧ Below W.heap.size W w') := fun W hb => by rw [← hs]; exact SumOfSharesS_any A c l W (h.below hb)
 have HE : Hid (rowsOk 0 l = true → rightsOk l = (inB l.length 1 12 && (ok && (t == 1) && (b == 1)))) := fun hr => by unfold rightsOk; rw [hr, hs]; rfl
 clear hs
 go_enter Tryz.func79, Tryz.ntmps79
 go_wp2_with fail
 go_loopw [3] (fun i wr => ∃ (k : Nat) (p : Int), k ≤ l.length ∧ i = .int .i64 k ∧ ((k = 0 ∧ p = 0) ∨ (0 < k ∧ ∃ e, l[k - 1]? = some e ∧ e.x = p)) ∧ Below w.heap.size w wr ∧ Hid (rowsOk p (l.drop k) = rowsOk 0 l)) (fun i _ => l.length - (intOf i).toNat)
 case atStart => exact ⟨0, 0, Nat.zero_le _, rfl, .inl ⟨rfl, rfl⟩, by exact tacT, rfl⟩
 case round =>
  obtain ⟨k, p, hk, rfl, hp, hB, HR⟩ := hrel
  have hbs := hB.size
  by_cases hlt : k < l.length
  ·obtain ⟨bb, o, x, rfl, hbb, hx, e0, e1, e2⟩ := h.at_ hlt
   have f0 : wr.cell? ⟨bb, o + k * 3, none⟩ = some (.int .i64 x.x) := (hB.cell (p := ⟨bb, _, none⟩) hbb).trans e0
   have f1 : wr.cell? ⟨bb, o + k * 3 + 1, none⟩ = some (.int .i64 x.y) := (hB.cell (p := ⟨bb, _, none⟩) hbb).trans e1
   have f2 : wr.cell? ⟨bb, o + k * 3 + 2, none⟩ = some (.int .i64 x.z) := (hB.cell (p := ⟨bb, _, none⟩) hbb).trans e2
   clear e0 e1 e2
   have hlb : bb < wr.heap.size := by omega
   have hk0 : (0 : Int) ≤ (k : Int) := by omega
   have hk1 : (k : Int) < (l.length : Int) := by omega
   have hrr := HR.out
   rw [drop_cons hx, rowsOk_cons] at hrr
   have HRR := Lib.hid (And.intro hrr hx)
   clear hrr hx HR
   rcases hp with ⟨hk9, rfl⟩ | ⟨hkp, q, hq, rfl⟩
   ·have g0 : ¬ (0 : Int) < (k : Int) := by omega
    have g1 : decide ((0 : Int) < (k : Int)) = false := by simpa using g0
    have g2 : ¬ 0 < k := by omega
    have g3 : decide (0 < k) = false := by simpa using g2
    clear hk9
    cases c1 : inB x.x 1 999
    ·skip
     go_wp2_with fail
     first | refine name_world ?_ | refine name_wp ?_
     intro W1 hW
     replace hB : Below w.heap.size w W1 := by rw [hW]; exact tacT
     have hz_W1 : wr.heap.size ≤ W1.heap.size := by rw [hW]; exact sT
     have gr : ∀ (z : NewW W1), z.w.cell? ⟨bb, o + k * 3, none⟩ = some (.int .i64 x.x) := fun z => NewW.cell (by rw [hW]; exact f0) z
     have gr1 : ∀ (z : NewW W1), z.w.cell? ⟨bb, o + k * 3 + 1, none⟩ = some (.int .i64 x.y) := fun z => NewW.cell (by rw [hW]; exact f1) z
     clear f0 f1 f2
     clear hW
     refine wp_region_new (by kernel_rfl) (by kernel_rfl) ?_
     repeat (go_big_quiet_step ((go_at_call 43; exact NewW.same (l01In_any _ _ _ _))))
     refine wpQuiet_nil ?_
     intro w2 hw'
     obtain ⟨hx, hw''⟩ := hw'
     have hb2 := hx.h
     rw [← hw''] at hb2
     clear hw'' hx
     clear gr gr1
     replace hB := hB.trans (Below.mono hb2 hB.size)
     have hz_w2 : W1.heap.size ≤ w2.heap.size := Below.size hb2
     clear hb2
     go_wp2_with fail
     go_ret
     exact ⟨ret_bool (show false = rightsOk l from (by unfold rightsOk; rw [show rowsOk 0 l = false from by rw [← HRR.out.1]; simp [c1]]; rfl)), by exact tacT⟩
    by_cases c4 : 1 ≤ x.y
    case neg =>
     have c4' : x.y < 1 := by omega
     have c4b : decide (x.y < 1) = true := by simpa using c4'
     go_wp2_with fail
     first | refine name_world ?_ | refine name_wp ?_
     intro W1 hW
     replace hB : Below w.heap.size w W1 := by rw [hW]; exact tacT
     have hz_W1 : wr.heap.size ≤ W1.heap.size := by rw [hW]; exact sT
     have gr : ∀ (z : NewW W1), z.w.cell? ⟨bb, o + k * 3, none⟩ = some (.int .i64 x.x) := fun z => NewW.cell (by rw [hW]; exact f0) z
     have gr1 : ∀ (z : NewW W1), z.w.cell? ⟨bb, o + k * 3 + 1, none⟩ = some (.int .i64 x.y) := fun z => NewW.cell (by rw [hW]; exact f1) z
     clear f0 f1 f2
     clear hW
     refine wp_region_new (by kernel_rfl) (by kernel_rfl) ?_
     repeat (go_big_quiet_step ((go_at_call 43; exact NewW.same (l01In_any _ _ _ _))))
     refine wpQuiet_nil ?_
     intro w2 hw'
     obtain ⟨hx, hw''⟩ := hw'
     have hb2 := hx.h
     rw [← hw''] at hb2
     clear hw'' hx
     clear gr gr1
     replace hB := hB.trans (Below.mono hb2 hB.size)
     have hz_w2 : W1.heap.size ≤ w2.heap.size := Below.size hb2
     clear hb2
     go_wp2_with fail
     go_ret
     exact ⟨ret_bool (show false = rightsOk l from (by unfold rightsOk; rw [show rowsOk 0 l = false from by rw [← HRR.out.1]; simp [show ¬ 1 ≤ x.y from by omega]]; rfl)), by exact tacT⟩
    have c4' : ¬ x.y < 1 := by omega
    have c4b : decide (x.y < 1) = false := by simpa using c4'
    have c2 : 0 < x.x := by have := inB_iff.1 c1; omega
    go_wp2_with fail
    first | refine name_world ?_ | refine name_wp ?_
    intro W1 hW
    replace hB : Below w.heap.size w W1 := by rw [hW]; exact tacT
    have hz_W1 : wr.heap.size ≤ W1.heap.size := by rw [hW]; exact sT
    have gr : ∀ (z : NewW W1), z.w.cell? ⟨bb, o + k * 3, none⟩ = some (.int .i64 x.x) := fun z => NewW.cell (by rw [hW]; exact f0) z
    have gr1 : ∀ (z : NewW W1), z.w.cell? ⟨bb, o + k * 3 + 1, none⟩ = some (.int .i64 x.y) := fun z => NewW.cell (by rw [hW]; exact f1) z
    clear f0 f1 f2
    clear hW
    refine wp_region_new (by kernel_rfl) (by kernel_rfl) ?_
    repeat (go_big_quiet_step ((go_at_call 43; exact NewW.same (l01In_any _ _ _ _))))
    refine wpQuiet_nil ?_
    intro w2 hw'
    obtain ⟨hx, hw''⟩ := hw'
    have hb2 := hx.h
    rw [← hw''] at hb2
    clear hw'' hx
    clear gr gr1
    replace hB := hB.trans (Below.mono hb2 hB.size)
    have hz_w2 : W1.heap.size ≤ w2.heap.size := Below.size hb2
    clear hb2
    go_wp2_with fail
    go_roundw
    case rel => exact ⟨k + 1, x.x, by omega, by go_num, .inr ⟨by omega, x, by simpa using HRR.out.2, rfl⟩, by exact tacT, (show rowsOk x.x (l.drop (k + 1)) = rowsOk 0 l from by rw [← HRR.out.1]; simp [c1, c2, c4])⟩
    case measure => simp [intOf]; omega
   ·obtain ⟨bb', o', q', hA, hbb', hq', q0, _, _⟩ := h.at_ (k := k - 1) (by omega)
    simp only [Option.some.injEq, Addr.mk.injEq, and_true] at hA
    obtain ⟨rfl, rfl⟩ := hA
    obtain rfl : q = q' := by rw [hq] at hq'; exact Option.some.inj hq'
    clear hq hq'
    have hkp' : (0 : Int) < (k : Int) := by omega
    have hkq : IntKind.i64.wrap ((k : Int) - 1) = (k : Int) - 1 := IntWalk.i64_in _ (by omega)
    have hkr : (1 : Int) ≤ (k : Int) := by omega
    have hks : (k : Int) - 1 < (l.length : Int) := by omega
    have hkt : (0 : Int) ≤ (k : Int) - 1 := by omega
    obtain ⟨p, hpq⟩ : ∃ p, p = q.x := ⟨_, rfl⟩
    rw [← hpq] at HRR
    cases c1 : inB x.x 1 999
    ·skip
     have hB0 := hB
     go_wp2_with fail
     first | refine name_world ?_ | refine name_wp ?_
     intro W1 hW
     replace hB : Below w.heap.size w W1 := by rw [hW]; exact tacT
     have hz_W1 : wr.heap.size ≤ W1.heap.size := by rw [hW]; exact sT
     have gr : ∀ (z : NewW W1), z.w.cell? ⟨bb, o + k * 3, none⟩ = some (.int .i64 x.x) := fun z => NewW.cell (by rw [hW]; exact f0) z
     have gr1 : ∀ (z : NewW W1), z.w.cell? ⟨bb, o + k * 3 + 1, none⟩ = some (.int .i64 x.y) := fun z => NewW.cell (by rw [hW]; exact f1) z
     clear f0 f1 f2
     have gp : ∀ (z : NewW W1), z.w.cell? ⟨bb, o + (k - 1) * 3, none⟩ = some (.int .i64 q.x) := fun z => NewW.cell (by rw [hW]; exact Below.cell hB0 (p := ⟨bb, o + (k - 1) * 3, none⟩) hbb |>.trans q0) z
     clear hW
     refine wp_region_new (by kernel_rfl) (by kernel_rfl) ?_
     repeat (go_big_quiet_step ((go_at_call 43; exact NewW.same (l01In_any _ _ _ _))))
     refine wpQuiet_nil ?_
     intro w2 hw'
     obtain ⟨hx, hw''⟩ := hw'
     have hb2 := hx.h
     rw [← hw''] at hb2
     clear hw'' hx
     clear gr gr1 gp
     replace hB := hB.trans (Below.mono hb2 hB.size)
     have hz_w2 : W1.heap.size ≤ w2.heap.size := Below.size hb2
     clear hb2
     go_wp2_with fail
     go_ret
     exact ⟨ret_bool (show false = rightsOk l from (by unfold rightsOk; rw [show rowsOk 0 l = false from by rw [← HRR.out.1]; simp [hpq, c1]]; rfl)), by exact tacT⟩
    by_cases c4 : 1 ≤ x.y
    case neg =>
     have c4' : x.y < 1 := by omega
     have c4b : decide (x.y < 1) = true := by simpa using c4'
     have hB0 := hB
     go_wp2_with fail
     first | refine name_world ?_ | refine name_wp ?_
     intro W1 hW
     replace hB : Below w.heap.size w W1 := by rw [hW]; exact tacT
     have hz_W1 : wr.heap.size ≤ W1.heap.size := by rw [hW]; exact sT
     have gr : ∀ (z : NewW W1), z.w.cell? ⟨bb, o + k * 3, none⟩ = some (.int .i64 x.x) := fun z => NewW.cell (by rw [hW]; exact f0) z
     have gr1 : ∀ (z : NewW W1), z.w.cell? ⟨bb, o + k * 3 + 1, none⟩ = some (.int .i64 x.y) := fun z => NewW.cell (by rw [hW]; exact f1) z
     clear f0 f1 f2
     have gp : ∀ (z : NewW W1), z.w.cell? ⟨bb, o + (k - 1) * 3, none⟩ = some (.int .i64 q.x) := fun z => NewW.cell (by rw [hW]; exact Below.cell hB0 (p := ⟨bb, o + (k - 1) * 3, none⟩) hbb |>.trans q0) z
     clear hW
     refine wp_region_new (by kernel_rfl) (by kernel_rfl) ?_
     repeat (go_big_quiet_step ((go_at_call 43; exact NewW.same (l01In_any _ _ _ _))))
     refine wpQuiet_nil ?_
     intro w2 hw'
     obtain ⟨hx, hw''⟩ := hw'
     have hb2 := hx.h
     rw [← hw''] at hb2
     clear hw'' hx
     clear gr gr1 gp
     replace hB := hB.trans (Below.mono hb2 hB.size)
     have hz_w2 : W1.heap.size ≤ w2.heap.size := Below.size hb2
     clear hb2
     go_wp2_with fail
     go_ret
     exact ⟨ret_bool (show false = rightsOk l from (by unfold rightsOk; rw [show rowsOk 0 l = false from by rw [← HRR.out.1]; simp [hpq, show ¬ 1 ≤ x.y from by omega]]; rfl)), by exact tacT⟩
    have c4' : ¬ x.y < 1 := by omega
    have c4b : decide (x.y < 1) = false := by simpa using c4'
    by_cases c2 : q.x < x.x
    case neg =>
     have c2' : x.x ≤ q.x := by omega
     have c2b : decide (x.x ≤ q.x) = true := by simpa using c2'
     have hB0 := hB
     go_wp2_with fail
     first | refine name_world ?_ | refine name_wp ?_
     intro W1 hW
     replace hB : Below w.heap.size w W1 := by rw [hW]; exact tacT
     have hz_W1 : wr.heap.size ≤ W1.heap.size := by rw [hW]; exact sT
     have gr : ∀ (z : NewW W1), z.w.cell? ⟨bb, o + k * 3, none⟩ = some (.int .i64 x.x) := fun z => NewW.cell (by rw [hW]; exact f0) z
     have gr1 : ∀ (z : NewW W1), z.w.cell? ⟨bb, o + k * 3 + 1, none⟩ = some (.int .i64 x.y) := fun z => NewW.cell (by rw [hW]; exact f1) z
     clear f0 f1 f2
     have gp : ∀ (z : NewW W1), z.w.cell? ⟨bb, o + (k - 1) * 3, none⟩ = some (.int .i64 q.x) := fun z => NewW.cell (by rw [hW]; exact Below.cell hB0 (p := ⟨bb, o + (k - 1) * 3, none⟩) hbb |>.trans q0) z
     clear hW
     refine wp_region_new (by kernel_rfl) (by kernel_rfl) ?_
     repeat (go_big_quiet_step ((go_at_call 43; exact NewW.same (l01In_any _ _ _ _))))
     refine wpQuiet_nil ?_
     intro w2 hw'
     obtain ⟨hx, hw''⟩ := hw'
     have hb2 := hx.h
     rw [← hw''] at hb2
     clear hw'' hx
     clear gr gr1 gp
     replace hB := hB.trans (Below.mono hb2 hB.size)
     have hz_w2 : W1.heap.size ≤ w2.heap.size := Below.size hb2
     clear hb2
     go_wp2_with fail
     go_ret
     exact ⟨ret_bool (show false = rightsOk l from (by unfold rightsOk; rw [show rowsOk 0 l = false from by rw [← HRR.out.1]; simp [hpq, show ¬ q.x < x.x from by omega]]; rfl)), by exact tacT⟩
    have c2' : ¬ x.x ≤ q.x := by omega
    have c2b : decide (x.x ≤ q.x) = false := by simpa using c2'
    have hB0 := hB
    go_wp2_with fail
    first | refine name_world ?_ | refine name_wp ?_
    intro W1 hW
    replace hB : Below w.heap.size w W1 := by rw [hW]; exact tacT
    have hz_W1 : wr.heap.size ≤ W1.heap.size := by rw [hW]; exact sT
    have gr : ∀ (z : NewW W1), z.w.cell? ⟨bb, o + k * 3, none⟩ = some (.int .i64 x.x) := fun z => NewW.cell (by rw [hW]; exact f0) z
    have gr1 : ∀ (z : NewW W1), z.w.cell? ⟨bb, o + k * 3 + 1, none⟩ = some (.int .i64 x.y) := fun z => NewW.cell (by rw [hW]; exact f1) z
    clear f0 f1 f2
    have gp : ∀ (z : NewW W1), z.w.cell? ⟨bb, o + (k - 1) * 3, none⟩ = some (.int .i64 q.x) := fun z => NewW.cell (by rw [hW]; exact Below.cell hB0 (p := ⟨bb, o + (k - 1) * 3, none⟩) hbb |>.trans q0) z
    clear hW
    refine wp_region_new (by kernel_rfl) (by kernel_rfl) ?_
    repeat (go_big_quiet_step ((go_at_call 43; exact NewW.same (l01In_any _ _ _ _))))
    refine wpQuiet_nil ?_
    intro w2 hw'
    obtain ⟨hx, hw''⟩ := hw'
    have hb2 := hx.h
    rw [← hw''] at hb2
    clear hw'' hx
    clear gr gr1 gp
    replace hB := hB.trans (Below.mono hb2 hB.size)
    have hz_w2 : W1.heap.size ≤ w2.heap.size := Below.size hb2
    clear hb2
    go_wp2_with fail
    go_roundw
    case rel => exact ⟨k + 1, x.x, by omega, by go_num, .inr ⟨by omega, x, by simpa using HRR.out.2, rfl⟩, by exact tacT, (show rowsOk x.x (l.drop (k + 1)) = rowsOk 0 l from by rw [← HRR.out.1]; simp [hpq, c1, c2, c4])⟩
    case measure => simp [intOf]; omega
  ·have hrr := HR.out
   rw [drop_end hlt] at hrr
   have HRR := Lib.hid hrr.symm
   clear hrr HR hp
   go_wp2_with fail
   refine (HS.out _ hB).mono ?_
   rintro e w2 ⟨rfl, hb⟩
   unfold frRet
   replace hB := hB.trans (Below.mono hb hB.size)
   have hz_w2 : wr.heap.size ≤ w2.heap.size := Below.size hb
   clear hb
   cases hin : inB l.length 1 12 <;> cases ok
   all_goals
    go_wp2_with (go_at_call 43; refine (l01In_any _ _ _ _).mono ?_; rintro e w' ⟨rfl, rfl⟩)
    all_goals
     go_ret
     exact ⟨ret_bool (by rw [HE.out HRR.out]; simp [*]), by exact tacT⟩
end
end Go.Proofs.YtpmmjhpmheooeaaGreatDoor
