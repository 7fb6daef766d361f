/- Texts of the proof, joined: May, Enter0. -/
import Derived.Test.YtpmmjhpmheooeaaGreatDoorP10
import Derived.IntWalk
import Derived.Test.YtpmmjhpmheooeaaGreatDoorP1
namespace Go.Proofs.YtpmmjhpmheooeaaGreatDoor
set_option linter.unusedSimpArgs false
set_option linter.unusedVariables false
section
open Go.RowKit
set_option maxRecDepth 20000
theorem min_if (a b : Int) : min a b = if b < a then b else a := by split <;> omega
theorem max_if (a b : Int) : max a b = if a < b then b else a := by split <;> omega
def mayDrink (v : Vg) (o : Int) : Int :=
 if villageOk v then (if rightAt v.rights o < 0 then 0 else max 0 (partOf (shareOf v.rights o).1 (shareOf v.rights o).2 (min 1000000 (v.book.start + v.book.rained)) - drunkBy v.book o)) else -1
theorem may_no {v : Vg} {o : Int} (h : villageOk v = false) : mayDrink v o = -1 := by unfold mayDrink; rw [h]; rfl
theorem may_none {v : Vg} {o : Int} (h : villageOk v = true) (h2 : rightAt v.rights o = -1) : mayDrink v o = 0 := by unfold mayDrink; rw [h, h2]; rfl
theorem may_some {v : Vg} {o y z : Int} {k : Nat} (h : villageOk v = true) (h2 : rightAt v.rights o = (k : Int)) (h3 : shareOf v.rights o = (y, z)) : mayDrink v o = max 0 (partOf y z (min 1000000 (v.book.start + v.book.rained)) - drunkBy v.book o) := by
 unfold mayDrink
 rw [h, h2, h3, if_pos rfl, if_neg (by omega)]
set_option maxHeartbeats 1600000 in
theorem MayDrink_any (A : Option Addr) (c : Nat) (R : Option Addr) (d : Nat) (v : Vg) (o : Int) (w : World) (h : RdT w w.heap.size A c v.book.evs) (h' : RdT w w.heap.size R d v.rights) (hs : v.book.evs.length ≤ 1048576) :
  Calls Tryz.prog 41 #[v.val A c R d, .int .i64 o] w fun e w' => e = .returned (.int .i64 (mayDrink v o)) ∧ Below w.heap.size w w' := by
 have hB := Below.refl w.heap.size w
 have h1 := fun (W : World) (hb : Below w.heap.size w W) => VillageOk_any A c R d v W (h.below hb) (h'.below hb) hs
 have h2 := fun (W : World) (hb : Below w.heap.size w W) => rightOf_any R d v.rights o W (h'.below hb)
 have h3 := fun (W : World) (hb : Below w.heap.size w W) => DrunkBy_any A c v.book o W (h.below hb)
 cases hv : villageOk v
 ·rw [may_no hv]
  rw [hv] at h1
  unfold Vg.val at h1 ⊢
  obtain ⟨⟨room, start, l, lv, ra, dr, lo⟩, rs⟩ := v
  simp only at h h' hs h1 ⊢
  have H1 := Lib.hid h1
  clear h1 h2 h3 hv
  go_enter Tryz.func41, Tryz.ntmps41
  go_wp2_with fail
  first | refine name_world ?_ | refine name_wp ?_
  intro W1 hW
  replace hB : Below w.heap.size w W1 := by rw [hW]; exact tacT
  have hz_W1 : w.heap.size ≤ W1.heap.size := by rw [hW]; exact sT
  replace kb_p : Blk W1 (w.heap.size) 35 #[.int .i64 room, .int .i64 start, .slice A l.length c, .int .i64 lv, .int .i64 ra, .int .i64 dr, .int .i64 lo, .slice R rs.length d] := by rw [hW]; exact blkT
  have hLW1_p := kb_p.lt
  try clear kc_p kf_p
  clear hW
  refine (H1.out _ hB).mono ?_
  rintro e w1 ⟨rfl, hb⟩
  replace hB := hB.trans (Below.mono hb hB.size)
  have hz_w1 : W1.heap.size ≤ w1.heap.size := Below.size hb
  replace kb_p := kb_p.mv hb; obtain ⟨kb_p, kc_p, kf_p, hl_p, hn_p⟩ := kb_p
  clear hb
  go_wp2_with fail
  go_ret
  exact ⟨rfl, hB⟩
 rw [hv] at h1
 obtain ⟨hm1, hm2⟩ := h'.le
 rcases rightAt_cases v.rights o with ⟨k1, _⟩ | ⟨k, x, k1, k2, k3, k4, k5⟩
 ·rw [may_none hv k1]
  rw [k1] at h2
  unfold Vg.val at h1 ⊢
  obtain ⟨⟨room, start, l, lv, ra, dr, lo⟩, rs⟩ := v
  simp only at h h' hs h1 h2 ⊢
  have H1 := Lib.hid h1
  have H2 := Lib.hid h2
  clear h1 h2 h3 hv k1
  go_enter Tryz.func41, Tryz.ntmps41
  go_wp2_with fail
  first | refine name_world ?_ | refine name_wp ?_
  intro W1 hW
  replace hB : Below w.heap.size w W1 := by rw [hW]; exact tacT
  have hz_W1 : w.heap.size ≤ W1.heap.size := by rw [hW]; exact sT
  replace kb_p : Blk W1 (w.heap.size) 35 #[.int .i64 room, .int .i64 start, .slice A l.length c, .int .i64 lv, .int .i64 ra, .int .i64 dr, .int .i64 lo, .slice R rs.length d] := by rw [hW]; exact blkT
  have hLW1_p := kb_p.lt
  try clear kc_p kf_p
  clear hW
  refine (H1.out _ hB).mono ?_
  rintro e w1 ⟨rfl, hb⟩
  replace hB := hB.trans (Below.mono hb hB.size)
  have hz_w1 : W1.heap.size ≤ w1.heap.size := Below.size hb
  replace kb_p := kb_p.mv hb; obtain ⟨kb_p, kc_p, kf_p, hl_p, hn_p⟩ := kb_p
  clear hb
  go_wp2_with fail
  refine (H2.out _ hB).mono ?_
  rintro e w2 ⟨rfl, hb⟩
  replace hB := hB.trans (Below.mono hb hB.size)
  have hz_w2 : w1.heap.size ≤ w2.heap.size := Below.size hb
  replace kb_p := kb_p.mv hb; obtain ⟨kb_p, kc_p, kf_p, hl_p, hn_p⟩ := kb_p
  clear hb
  go_wp2_with fail
  go_ret
  exact ⟨rfl, hB⟩
 ·rw [may_some hv k1 k5]
  rw [k1] at h2
  obtain ⟨b1, b2, b3, b4⟩ := book_bd (b := v.book) (by unfold villageOk at hv; rw [Bool.and_eq_true] at hv; exact hv.1)
  obtain ⟨d1, d2⟩ := drunkBy_bd v.book o
  obtain ⟨p1, p2⟩ := partOf_bd x.y x.z (min 1000000 (v.book.start + v.book.rained))
  obtain ⟨D, hD⟩ : ∃ D, D = drunkBy v.book o := ⟨_, rfl⟩
  rw [← hD] at h3 d1 d2 ⊢
  have h4 := fun (W : World) => PartOf_any x.y x.z (min 1000000 (v.book.start + v.book.rained)) W
  obtain ⟨P, hP⟩ : ∃ P, P = partOf x.y x.z (min 1000000 (v.book.start + v.book.rained)) := ⟨_, rfl⟩
  rw [← hP] at h4 p1 p2 ⊢
  obtain ⟨bb, oo, x', hR, hbb, hx, e0, e1, e2⟩ := h'.at_ k2
  rw [k3] at hx
  obtain rfl : x = x' := Option.some.inj hx
  unfold Vg.val at h1 ⊢
  unfold Bk.val at h3
  obtain ⟨⟨room, start, l, lv, ra, dr, lo⟩, rs⟩ := v
  simp only at h h' hs h1 h2 h3 h4 b1 b2 b3 b4 k2 hm1 ⊢
  subst hR
  have H1 := Lib.hid h1
  have H2 := Lib.hid h2
  have H3 := Lib.hid h3
  rw [min_if] at h4
  clear h1 h2 h3 hv k1 k3 k4 k5 hD hP hx
  have hk0 : (0 : Int) ≤ (k : Int) := by omega
  have hk1 : (k : Int) < (rs.length : Int) := by omega
  have hk9 : ¬ (k : Int) < 0 := by omega
  have hk8 : decide ((k : Int) < 0) = false := by simp only [decide_eq_false_iff_not]; exact hk9
  by_cases g1 : start + ra < 1000000
  all_goals
   first | rw [if_pos g1] at h4 | rw [if_neg g1] at h4
   have H4 := Lib.hid h4
   clear h4
   by_cases g2 : 0 < P - D
   all_goals
    go_enter Tryz.func41, Tryz.ntmps41
    go_wp2_with fail
    first | refine name_world ?_ | refine name_wp ?_
    intro W1 hW
    replace hB : Below w.heap.size w W1 := by rw [hW]; exact tacT
    have hz_W1 : w.heap.size ≤ W1.heap.size := by rw [hW]; exact sT
    replace kb_p : Blk W1 (w.heap.size) 35 #[.int .i64 room, .int .i64 start, .slice A l.length c, .int .i64 lv, .int .i64 ra, .int .i64 dr, .int .i64 lo, .slice (some ⟨bb, oo, none⟩) rs.length d] := by rw [hW]; exact blkT
    have hLW1_p := kb_p.lt
    try clear kc_p kf_p
    clear hW
    refine (H1.out _ hB).mono ?_
    rintro e w1 ⟨rfl, hb⟩
    replace hB := hB.trans (Below.mono hb hB.size)
    have hz_w1 : W1.heap.size ≤ w1.heap.size := Below.size hb
    replace kb_p := kb_p.mv hb; obtain ⟨kb_p, kc_p, kf_p, hl_p, hn_p⟩ := kb_p
    clear hb
    go_wp2_with fail
    refine (H2.out _ hB).mono ?_
    rintro e w2 ⟨rfl, hb⟩
    replace hB := hB.trans (Below.mono hb hB.size)
    have hz_w2 : w1.heap.size ≤ w2.heap.size := Below.size hb
    replace kb_p := kb_p.mv hb; obtain ⟨kb_p, kc_p, kf_p, hl_p, hn_p⟩ := kb_p
    clear hb
    have f1 : ∀ z : NewW w2, z.w.cell? ⟨bb, oo + k * 3 + 1, none⟩ = some (.int .i64 x.y) := fun z => NewW.cell ((hB.cell (p := ⟨bb, _, none⟩) hbb).trans e1) z
    have f2 : ∀ z : NewW w2, z.w.cell? ⟨bb, oo + k * 3 + 2, none⟩ = some (.int .i64 x.z) := fun z => NewW.cell ((hB.cell (p := ⟨bb, _, none⟩) hbb).trans e2) z
    have f3 : ∀ (z : NewW w2) (i : Nat), z.w.cell? ⟨w.heap.size, i, none⟩ = #[.int .i64 room, .int .i64 start, .slice A l.length c, .int .i64 lv, .int .i64 ra, .int .i64 dr, .int .i64 lo, .slice (some ⟨bb, oo, none⟩) rs.length d][i]? := fun z i => (kb_p.newW z).cells i
    have hw1 : IntKind.i64.wrap (start + ra) = start + ra := by exact IntWalk.i64_in _ (by omega)
    have hw2 : IntKind.i64.wrap (P - D) = P - D := by exact IntWalk.i64_in _ (by omega)
    clear e0 e1 e2
    go_wp2_with fail
    refine wp_region_new (by kernel_rfl) (by kernel_rfl) ?_
    repeat (go_big_quiet_step (first | (go_at_call 72; exact NewW.call (H4.out _)) | (go_at_call 73; exact NewW.call (H3.out _ (hB.trans (Below.mono (NewW.h _) hB.size))))))
    refine wpQuiet_nil ?_
    intro w3 hw'
    obtain ⟨hx, hw''⟩ := hw'
    have hb3 := hx.h
    rw [← hw''] at hb3
    clear hw'' hx
    clear f1 f2 f3 hw1 hw2
    replace hB := hB.trans (Below.mono hb3 hB.size)
    have hz_w3 : w2.heap.size ≤ w3.heap.size := Below.size hb3
    clear hb3
    go_wp2_with fail
    go_ret
    exact ⟨ret_int (by first | rfl | (rw [max_if]; done) | (split <;> omega) | omega), hB⟩
theorem shareGo_done {l : List T3} {k : Nat} {o : Int} {x : T3} (hx : l[k]? = some x) (hq : x.x = o) (h : findGo (l.drop k) k o = rightAt l o ∧ shareOf (l.drop k) o = shareOf l o) : rightAt l o = (k : Int) ∧ shareOf l o = (x.y, x.z) := by
 rw [drop_cons hx, findGo_cons, shareOf_cons, if_pos hq, if_pos hq] at h
 exact ⟨h.1.symm, h.2.symm⟩
theorem shareGo_next {l : List T3} {k : Nat} {o : Int} {x : T3} (hx : l[k]? = some x) (hq : x.x ≠ o) (h : findGo (l.drop k) k o = rightAt l o ∧ shareOf (l.drop k) o = shareOf l o) : findGo (l.drop (k + 1)) (k + 1) o = rightAt l o ∧ shareOf (l.drop (k + 1)) o = shareOf l o := by
 rw [drop_cons hx, findGo_cons, shareOf_cons, if_neg hq, if_neg hq] at h
 exact h
set_option maxHeartbeats 3200000 in
theorem MayDrinkS_any (A : Option Addr) (c : Nat) (R : Option Addr) (d : Nat) (v : Vg) (o : Int) (w : World) (h : RdT w w.heap.size A c v.book.evs) (h' : RdT w w.heap.size R d v.rights) (hs : v.book.evs.length ≤ 1048576) :
  Calls Tryz.prog 52 #[v.val A c R d, .int .i64 o] w fun e w' => e = .returned (.int .i64 (mayDrink v o)) ∧ Below w.heap.size w w' := by
 have hB := Below.refl w.heap.size w
 have h1 := fun (W : World) (hb : Below w.heap.size w W) => VillageOkS_any A c R d v W (h.below hb) (h'.below hb) hs
 have h3 := fun (W : World) (hb : Below w.heap.size w W) => DrunkByS_any A c v.book o W (h.below hb) hs
 cases hv : villageOk v
 ·rw [may_no hv]
  rw [hv] at h1
  unfold Vg.val at h1 ⊢
  obtain ⟨⟨room, start, l, lv, ra, dr, lo⟩, rs⟩ := v
  simp only at h h' hs h1 ⊢
  have H1 := Lib.hid h1
  clear h1 h3 hv
  go_enter Tryz.func52, Tryz.ntmps52
  go_wp2_with fail
  first | refine name_world ?_ | refine name_wp ?_
  intro W1 hW
  replace hB : Below w.heap.size w W1 := by rw [hW]; exact tacT
  have hz_W1 : w.heap.size ≤ W1.heap.size := by rw [hW]; exact sT
  replace kb_p : Blk W1 (w.heap.size) 35 #[.int .i64 room, .int .i64 start, .slice A l.length c, .int .i64 lv, .int .i64 ra, .int .i64 dr, .int .i64 lo, .slice R rs.length d] := by rw [hW]; exact blkT
  have hLW1_p := kb_p.lt
  try clear kc_p kf_p
  clear hW
  refine (H1.out _ hB).mono ?_
  rintro e w1 ⟨rfl, hb⟩
  replace hB := hB.trans (Below.mono hb hB.size)
  have hz_w1 : W1.heap.size ≤ w1.heap.size := Below.size hb
  replace kb_p := kb_p.mv hb; obtain ⟨kb_p, kc_p, kf_p, hl_p, hn_p⟩ := kb_p
  clear hb
  go_wp2_with fail
  go_ret
  exact ⟨rfl, hB⟩
 rw [hv] at h1
 obtain ⟨hm1, hm2⟩ := h'.le
 obtain ⟨b1, b2, b3, b4⟩ := book_bd (b := v.book) (by unfold villageOk at hv; rw [Bool.and_eq_true] at hv; exact hv.1)
 obtain ⟨d1, d2⟩ := drunkBy_bd v.book o
 obtain ⟨M, hM⟩ : ∃ M, M = mayDrink v o := ⟨_, rfl⟩
 rw [← hM]
 have HN : Hid (rightAt v.rights o = -1 → M = 0) := fun hr => by rw [hM, may_none hv hr]
 have HY : Hid (∀ (k : Nat) (y z : Int), rightAt v.rights o = (k : Int) → shareOf v.rights o = (y, z) → M = max 0 (partOf y z (min 1000000 (v.book.start + v.book.rained)) - drunkBy v.book o)) := fun k y z h2 h3 => by rw [hM, may_some hv h2 h3]
 obtain ⟨D, hD⟩ : ∃ D, D = drunkBy v.book o := ⟨_, rfl⟩
 rw [← hD] at h3 d1 d2 HY
 unfold Vg.val at h1 ⊢
 unfold Bk.val at h3
 obtain ⟨⟨room, start, l, lv, ra, dr, lo⟩, rs⟩ := v
 simp only at h h' hs h1 h3 b1 b2 b3 b4 hm1 HN HY ⊢
 have H1 := Lib.hid h1
 have H3 := Lib.hid h3
 clear h1 h3 hv hM hD
 go_enter Tryz.func52, Tryz.ntmps52
 go_wp2_with fail
 first | refine name_world ?_ | refine name_wp ?_
 intro W1 hW
 replace hB : Below w.heap.size w W1 := by rw [hW]; exact tacT
 have hz_W1 : w.heap.size ≤ W1.heap.size := by rw [hW]; exact sT
 replace kb_p : Blk W1 (w.heap.size) 35 #[.int .i64 room, .int .i64 start, .slice A l.length c, .int .i64 lv, .int .i64 ra, .int .i64 dr, .int .i64 lo, .slice R rs.length d] := by rw [hW]; exact blkT
 have hLW1_p := kb_p.lt
 try clear kc_p kf_p
 clear hW
 refine (H1.out _ hB).mono ?_
 rintro e w1 ⟨rfl, hb⟩
 replace hB := hB.trans (Below.mono hb hB.size)
 have hz_w1 : W1.heap.size ≤ w1.heap.size := Below.size hb
 replace kb_p := kb_p.mv hb; obtain ⟨kb_p, kc_p, kf_p, hl_p, hn_p⟩ := kb_p
 clear hb
 clear hz_W1 hLW1_p
 go_wp2_with fail
 go_loop [5] (fun i => ∃ k : Nat, k ≤ rs.length ∧ i = .int .i64 k ∧ Hid (findGo (rs.drop k) k o = rightAt rs o ∧ shareOf (rs.drop k) o = shareOf rs o)) (fun i => rs.length - (intOf i).toNat)
 case atStart => exact ⟨0, Nat.zero_le _, rfl, rfl, rfl⟩
 case round =>
  obtain ⟨k, hk, rfl, HR⟩ := hrel
  by_cases hlt : k < rs.length
  ·obtain ⟨bb, oo, x, rfl, hbb, hx, e0, e1, e2⟩ := h'.at_ hlt
   have f0 : w1.cell? ⟨bb, oo + k * 3, none⟩ = some (.int .i64 x.x) := (hB.cell (p := ⟨bb, _, none⟩) hbb).trans e0
   have f1 : w1.cell? ⟨bb, oo + k * 3 + 1, none⟩ = some (.int .i64 x.y) := (hB.cell (p := ⟨bb, _, none⟩) hbb).trans e1
   have f2 : w1.cell? ⟨bb, oo + k * 3 + 2, none⟩ = some (.int .i64 x.z) := (hB.cell (p := ⟨bb, _, none⟩) hbb).trans e2
   clear e0 e1 e2
   have hk0 : (0 : Int) ≤ (k : Int) := by omega
   have hk1 : (k : Int) < (rs.length : Int) := by omega
   have HX := Lib.hid hx
   clear hx
   cases hq : (x.x == o)
   ·have hne : x.x ≠ o := by simpa using hq
    have HR2 := Lib.hid (shareGo_next HX.out hne HR.out)
    clear hne
    go_wp2_with fail
    go_round
    case rel => exact ⟨k + 1, by omega, by go_num, HR2⟩
    case measure => simp [intOf]; omega
   ·have hne : x.x = o := by simpa using hq
    obtain ⟨q1, q2⟩ := shareGo_done HX.out hne HR.out
    have hM := HY.out k _ _ q1 q2
    obtain ⟨p1, p2⟩ := partOf_bd x.y x.z (min 1000000 (start + ra))
    have h4 := fun (W : World) => PartOfS_any x.y x.z (min 1000000 (start + ra)) W
    obtain ⟨P, hP⟩ : ∃ P, P = partOf x.y x.z (min 1000000 (start + ra)) := ⟨_, rfl⟩
    rw [← hP] at h4 p1 p2 hM
    rw [min_if] at h4
    have HM := Lib.hid hM
    clear hM q1 q2 hne hP HR HX
    have g1' : ∀ z : NewW w1, z.w.cell? ⟨bb, oo + k * 3 + 1, none⟩ = some (.int .i64 x.y) := fun z => NewW.cell f1 z
    have g2' : ∀ z : NewW w1, z.w.cell? ⟨bb, oo + k * 3 + 2, none⟩ = some (.int .i64 x.z) := fun z => NewW.cell f2 z
    have g3' : ∀ (z : NewW w1) (i : Nat), z.w.cell? ⟨w.heap.size, i, none⟩ = #[.int .i64 room, .int .i64 start, .slice A l.length c, .int .i64 lv, .int .i64 ra, .int .i64 dr, .int .i64 lo, .slice (some ⟨bb, oo, none⟩) rs.length d][i]? := fun z i => (kb_p.newW z).cells i
    have hw2 : IntKind.i64.wrap (P - D) = P - D := by exact IntWalk.i64_in _ (by omega)
    by_cases g1 : start + ra < 1000000
    all_goals
     first | rw [if_pos g1] at h4 | rw [if_neg g1] at h4
     have H4 := Lib.hid h4
     clear h4
     by_cases g2 : 0 < P - D
     all_goals
      go_wp2_with fail
      refine wp_region_new (by kernel_rfl) (by kernel_rfl) ?_
      repeat (go_big_quiet_step (first | (go_at_call 87; exact NewW.call (H4.out _)) | (go_at_call 88; exact NewW.call (H3.out _ (hB.trans (Below.mono (NewW.h _) hB.size))))))
      refine wpQuiet_nil ?_
      intro w3 hw'
      obtain ⟨hx, hw''⟩ := hw'
      have hb3 := hx.h
      rw [← hw''] at hb3
      clear hw'' hx
      clear g1' g2' g3' hw2 f0 f1 f2
      replace hB := hB.trans (Below.mono hb3 hB.size)
      have hz_w3 : w1.heap.size ≤ w3.heap.size := Below.size hb3
      clear hb3
      go_wp2_with fail
      go_ret
      exact ⟨ret_int (by rw [HM.out]; omega), hB⟩
  ·have e1 := HR.out.1
   rw [drop_end hlt] at e1
   have HZ := Lib.hid (HN.out e1.symm)
   clear e1
   go_wp2_with fail
   go_ret
   exact ⟨ret_int HZ.out.symm, hB⟩
end
section
open Go.RowKit
set_option maxRecDepth 20000
def enterOk (b : Bk) (e : T3) : Bool := bookOk b && decide (b.evs.length < 40) && (runEv b.room (b.evs ++ [e]) b.start 0 0 0).2.2.2.2
def enter (b : Bk) (e : T3) : Bk × Bool := if enterOk b e then (madeBk b.room b.start (b.evs ++ [e]), true) else (b, false)
theorem rd_blk {w : World} {g : Nat} {t : TypeId} {x y z : Int} (h : Blk w g t #[.int .i64 x, .int .i64 y, .int .i64 z]) : Rd w w.heap.size 3 (some ⟨g, 0, none⟩) 1 1 (t3s [⟨x, y, z⟩]) :=
 ⟨rfl, Nat.le_refl _, by omega, fun _ => ⟨g, 0, rfl, h.lt, fun j u hu => by
  rw [Nat.zero_add, h.cell]
  match j, hu with
  |0, hu => exact hu
  |1, hu => exact hu
  |2, hu => exact hu⟩⟩
/-- A block of another type is no row's block. -/
theorem blk_keep {w w' : World} {base : Nat} {e t : TypeId} {sz n c g : Nat} {A : Option Addr} {xs : List Value} {cs : Array Value} (h : w.ownsRow base e sz (.slice A n c) n xs) (hg : w.grownBy w' (Value.slice A n c).ownBlock) (hne : e ≠ t) (hk : Blk w g t cs) : Blk w' g t cs :=
 hk.grown hg fun he => by
  rcases h.2 with ⟨hn, _⟩ | ⟨b, cap, cur, hv, _, hh, _⟩
  ·rw [hn] at he; cases he
  ·rw [hv] at he
   simp only [Value.ownBlock, Option.some.injEq] at he
   subst he
   unfold Blk at hk
   rw [hk] at hh
   injection hh with hh
   injection hh with _ ht
   exact hne ht.symm
theorem keep_below {w w' : World} (h : Below w.heap.size w w') : ∀ g t cs, Blk w g t cs → Blk w' g t cs := fun _ _ _ k => k.below h k.lt
theorem keep_none {w w' : World} {n c : Nat} (h : w.grownBy w' (Value.slice none n c).ownBlock) : ∀ g t cs, Blk w g t cs → Blk w' g t cs := fun _ _ _ k => k.grown h (fun he => by cases he)
theorem step_appB {P : Program} {w : World} {ops : Array Oper} {o : Oper} {a : Act} {K : Act → World → Prop} {Q : Exit → Act → World → Prop} {E : Prop} (hgd : o.guard = none) (s x : Operand) (t : TypeId)
  (ho : o.op = .call { callee := .builtin .append, args := #[s, x], argTypes := #[t, t] })
  (base : Nat) (e : TypeId) (z : Value) (size bytes : Nat) (ht : P.underlying t = some (.slice e)) (hinfo : (P.info? e).map (fun i => (i.zero, i.size, i.bytes)) = some (some z, size, bytes))
  (hzs : z.cells.size = size) (hsz : 0 < size)
  (v : Value) (n : Nat) (xs : List Value) (hs : a.eval s = v) (hown : w.ownsRow base e size v n xs)
  (B : Nat) (A : Option Addr) (m c : Nat) (news : List Value) (hx : a.eval x = .slice A m c) (hr : Rd w B size A m c news) (h1 : ∀ u ∈ news, u.oneCell' = true)
  (h63 : n + m ≤ 9223372036854775807) (hbytes : (n + m) * bytes ≤ 140737488355328) (hbase : base ≤ w.heap.size)
  (h : ∀ A' c' w', w'.ownsRow base e size (.slice A' (n + m) c') (n + m) (xs ++ news) → w.grownBy w' v.ownBlock → (∀ g t cs, e ≠ t → Blk w g t cs → Blk w' g t cs) → K (a.put o.dst (.slice A' (n + m) c')) w') : if Region.wanted o (yielded ops a.tmps) = true then Oper.wp P o a w K Q else E :=
 step_appAll hgd s x t ho base e z size bytes ht hinfo hzs hsz v n xs hs hown B A m c news hx hr h1 h63 hbytes hbase fun A' c' w' h2 h3 => h A' c' w' h2 h3 (fun g t cs hne hk => by
  rcases hown.2 with ⟨hn, _⟩ | ⟨b, cap, cur, hv, hg, hh, r⟩
  ·exact hk.grown h3 (fun he => by rw [hn] at he; cases he)
  ·subst hv
   exact blk_keep hown h3 hne hk)
theorem step_appN {P : Program} {w : World} {ops : Array Oper} {o : Oper} {a : Act} {K : Act → World → Prop} {Q : Exit → Act → World → Prop} {E : Prop} (hgd : o.guard = none) (s x : Operand) (t : TypeId)
  (ho : o.op = .call { callee := .builtin .append, args := #[s, x], argTypes := #[t, t] })
  (base : Nat) (e : TypeId) (z : Value) (size bytes : Nat) (ht : P.underlying t = some (.slice e)) (hinfo : (P.info? e).map (fun i => (i.zero, i.size, i.bytes)) = some (some z, size, bytes))
  (hzs : z.cells.size = size) (hsz : 0 < size)
  (hs : a.eval s = .slice none 0 0)
  (B : Nat) (A : Option Addr) (m c : Nat) (news : List Value) (hx : a.eval x = .slice A m c) (hr : Rd w B size A m c news) (h1 : ∀ u ∈ news, u.oneCell' = true)
  (h63 : m ≤ 9223372036854775807) (hbytes : m * bytes ≤ 140737488355328) (hbase : base ≤ w.heap.size)
  (h : ∀ A' c' w', w'.ownsRow base e size (.slice A' m c') m news → w.grownBy w' none → (∀ g t cs, Blk w g t cs → Blk w' g t cs) → K (a.put o.dst (.slice A' m c')) w') : if Region.wanted o (yielded ops a.tmps) = true then Oper.wp P o a w K Q else E :=
 step_appAll hgd s x t ho base e z size bytes ht hinfo hzs hsz (.slice none 0 0) 0 [] hs (World.ownsRow_nil _ _ _ _) B A m c news hx hr h1 (by omega) (by rw [Nat.zero_add]; exact hbytes) hbase fun A' c' w' h2 h3 => by
  rw [Nat.zero_add] at h2 ⊢
  exact h A' c' w' h2 h3 (keep_none h3)
theorem wpList_appB {P : Program} {w : World} {ops : Array Oper} {rest : List Oper} {o : Oper} {a : Act} {Q : Exit → Act → World → Prop} (hgd : o.guard = none) (s x : Operand) (t : TypeId)
  (ho : o.op = .call { callee := .builtin .append, args := #[s, x], argTypes := #[t, t] })
  (base : Nat) (e : TypeId) (z : Value) (size bytes : Nat) (ht : P.underlying t = some (.slice e)) (hinfo : (P.info? e).map (fun i => (i.zero, i.size, i.bytes)) = some (some z, size, bytes))
  (hzs : z.cells.size = size) (hsz : 0 < size)
  (v : Value) (n : Nat) (xs : List Value) (hs : a.eval s = v) (hown : w.ownsRow base e size v n xs)
  (B : Nat) (A : Option Addr) (m c : Nat) (news : List Value) (hx : a.eval x = .slice A m c) (hr : Rd w B size A m c news) (h1 : ∀ u ∈ news, u.oneCell' = true)
  (h63 : n + m ≤ 9223372036854775807) (hbytes : (n + m) * bytes ≤ 140737488355328) (hbase : base ≤ w.heap.size)
  (h : ∀ A' c' w', w'.ownsRow base e size (.slice A' (n + m) c') (n + m) (xs ++ news) → w.grownBy w' v.ownBlock → (∀ g t cs, e ≠ t → Blk w g t cs → Blk w' g t cs) → wpList P ops Q rest (a.put o.dst (.slice A' (n + m) c')) w') : wpList P ops Q (o :: rest) a w :=
 wpList_appAll hgd s x t ho base e z size bytes ht hinfo hzs hsz v n xs hs hown B A m c news hx hr h1 h63 hbytes hbase fun A' c' w' h2 h3 => h A' c' w' h2 h3 (fun g t cs hne hk => by
  rcases hown.2 with ⟨hn, _⟩ | ⟨b, cap, cur, hv, hg, hh, r⟩
  ·exact hk.grown h3 (fun he => by rw [hn] at he; cases he)
  ·subst hv
   exact blk_keep hown h3 hne hk)
theorem enter_count {b : Bk} {e : T3} {R1 R2 R3 R4 : Int} {ok : Bool} (hq : bookOk b = true) (hR : countBk b.room b.start (b.evs ++ [e]) = (R1, R2, R3, R4, ok)) : enter b e = if ok then (⟨b.room, b.start, b.evs ++ [e], R1, R2, R3, R4⟩, true) else (b, false) := by
 obtain ⟨i1, i2, i3, i4⟩ := bookOk_iff hq
 unfold enter enterOk madeBk
 by_cases h40 : b.evs.length < 40
 ·rw [countBk_yes i1 i2 (by rw [List.length_append]; simp; omega)] at hR
  rw [hR, hq]
  simp [h40]
 ·rw [countBk_no (.inr (.inr (by rw [List.length_append]; simp; omega)))] at hR
  simp only [Prod.mk.injEq] at hR
  rw [← hR.2.2.2.2]
  simp [h40]
end
end Go.Proofs.YtpmmjhpmheooeaaGreatDoor
