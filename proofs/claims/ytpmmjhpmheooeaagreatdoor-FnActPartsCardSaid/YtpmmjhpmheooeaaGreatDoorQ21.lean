/- Texts of the proof, joined: May, BookBd. -/
import Derived.Test.YtpmmjhpmheooeaaGreatDoorQ8
import Derived.Test.YtpmmjhpmheooeaaGreatDoorQ16
import Derived.IntWalk
namespace Go.Proofs.YtpmmjhpmheooeaaGreatDoor
set_option linter.unusedSimpArgs false
set_option linter.unusedVariables false
section
open Go.RowKit
set_option maxRecDepth 20000
theorem min_if (a b : Int) : min a b = if b < a then b else a := by split <;> omega
theorem max_if (a b : Int) : max a b = if a < b then b else a := by split <;> omega
def mayDrink (v : Vg) (o : Int) : Int :=
 if villageOk v then (if rightAt v.rights o < 0 then 0 else max 0 (partOf (shareOf v.rights o).1 (shareOf v.rights o).2 (min 1000000 (v.book.start + v.book.rained)) - drunkBy v.book o)) else -1
theorem may_no {v : Vg} {o : Int} (h : villageOk v = false) : mayDrink v o = -1 := by unfold mayDrink; rw [h]; rfl
theorem may_none {v : Vg} {o : Int} (h : villageOk v = true) (h2 : rightAt v.rights o = -1) : mayDrink v o = 0 := by unfold mayDrink; rw [h, h2]; rfl
theorem may_some {v : Vg} {o y z : Int} {k : Nat} (h : villageOk v = true) (h2 : rightAt v.rights o = (k : Int)) (h3 : shareOf v.rights o = (y, z)) : mayDrink v o = max 0 (partOf y z (min 1000000 (v.book.start + v.book.rained)) - drunkBy v.book o) := by
 unfold mayDrink
 rw [h, h2, h3, if_pos rfl, if_neg (by omega)]
set_option maxHeartbeats 1600000 in
theorem MayDrink_any (A : Option Addr) (c : Nat) (R : Option Addr) (d : Nat) (v : Vg) (o : Int) (w : World) (h : RdT w w.heap.size A c v.book.evs) (h' : RdT w w.heap.size R d v.rights) (hs : v.book.evs.length ≤ 1048576) :
  Calls Tryz.prog 41 #[v.val A c R d, .int .i64 o] w fun e w' => e = .returned (.int .i64 (mayDrink v o)) ∧ Below w.heap.size w w' := by
 have hB := Below.refl w.heap.size w
 have h1 := fun (W : World) (hb : Below w.heap.size w W) => VillageOk_any A c R d v W (h.below hb) (h'.below hb) hs
 have h2 := fun (W : World) (hb : Below w.heap.size w W) => rightOf_any R d v.rights o W (h'.below hb)
 have h3 := fun (W : World) (hb : Below w.heap.size w W) => DrunkBy_any A c v.book o W (h.below hb)
 cases hv : villageOk v
 ·rw [may_no hv]
  rw [hv] at h1
  unfold Vg.val at h1 ⊢
  obtain ⟨⟨room, start, l, lv, ra, dr, lo⟩, rs⟩ := v
  simp only at h h' hs h1 ⊢
  have H1 := Lib.hid h1
  clear h1 h2 h3 hv
  go_enter Tryz.func41, Tryz.ntmps41
  go_wp2_with fail
  first | refine name_world ?_ | refine name_wp ?_
  intro W1 hW
  replace hB : Below w.heap.size w W1 := by rw [hW]; exact tacT
  have hz_W1 : w.heap.size ≤ W1.heap.size := by rw [hW]; exact sT
  replace kb_p : Blk W1 (w.heap.size) 35 #[.int .i64 room, .int .i64 start, .slice A l.length c, .int .i64 lv, .int .i64 ra, .int .i64 dr, .int .i64 lo, .slice R rs.length d] := by rw [hW]; exact blkT
  have hLW1_p := kb_p.lt
  try clear kc_p kf_p
  clear hW
  refine (H1.out _ hB).mono ?_
  rintro e w1 ⟨rfl, hb⟩
  replace hB := hB.trans (Below.mono hb hB.size)
  have hz_w1 : W1.heap.size ≤ w1.heap.size := Below.size hb
  replace kb_p := kb_p.mv hb; obtain ⟨kb_p, kc_p, kf_p, hl_p, hn_p⟩ := kb_p
  clear hb
  go_wp2_with fail
  go_ret
  exact ⟨rfl, hB⟩
 rw [hv] at h1
 obtain ⟨hm1, hm2⟩ := h'.le
 rcases rightAt_cases v.rights o with ⟨k1, _⟩ | ⟨k, x, k1, k2, k3, k4, k5⟩
 ·rw [may_none hv k1]
  rw [k1] at h2
  unfold Vg.val at h1 ⊢
  obtain ⟨⟨room, start, l, lv, ra, dr, lo⟩, rs⟩ := v
  simp only at h h' hs h1 h2 ⊢
  have H1 := Lib.hid h1
  have H2 := Lib.hid h2
  clear h1 h2 h3 hv k1
  go_enter Tryz.func41, Tryz.ntmps41
  go_wp2_with fail
  first | refine name_world ?_ | refine name_wp ?_
  intro W1 hW
  replace hB : Below w.heap.size w W1 := by rw [hW]; exact tacT
  have hz_W1 : w.heap.size ≤ W1.heap.size := by rw [hW]; exact sT
  replace kb_p : Blk W1 (w.heap.size) 35 #[.int .i64 room, .int .i64 start, .slice A l.length c, .int .i64 lv, .int .i64 ra, .int .i64 dr, .int .i64 lo, .slice R rs.length d] := by rw [hW]; exact blkT
  have hLW1_p := kb_p.lt
  try clear kc_p kf_p
  clear hW
  refine (H1.out _ hB).mono ?_
  rintro e w1 ⟨rfl, hb⟩
  replace hB := hB.trans (Below.mono hb hB.size)
  have hz_w1 : W1.heap.size ≤ w1.heap.size := Below.size hb
  replace kb_p := kb_p.mv hb; obtain ⟨kb_p, kc_p, kf_p, hl_p, hn_p⟩ := kb_p
  clear hb
  go_wp2_with fail
  refine (H2.out _ hB).mono ?_
  rintro e w2 ⟨rfl, hb⟩
  replace hB := hB.trans (Below.mono hb hB.size)
  have hz_w2 : w1.heap.size ≤ w2.heap.size := Below.size hb
  replace kb_p := kb_p.mv hb; obtain ⟨kb_p, kc_p, kf_p, hl_p, hn_p⟩ := kb_p
  clear hb
  go_wp2_with fail
  go_ret
  exact ⟨rfl, hB⟩
 ·rw [may_some hv k1 k5]
  rw [k1] at h2
  obtain ⟨b1, b2, b3, b4⟩ := book_bd (b := v.book) (by unfold villageOk at hv; rw [Bool.and_eq_true] at hv; exact hv.1)
  obtain ⟨d1, d2⟩ := drunkBy_bd v.book o
  obtain ⟨p1, p2⟩ := partOf_bd x.y x.z (min 1000000 (v.book.start + v.book.rained))
  obtain ⟨D, hD⟩ : ∃ D, D = drunkBy v.book o := ⟨_, rfl⟩
  rw [← hD] at h3 d1 d2 ⊢
  have h4 := fun (W : World) => PartOf_any x.y x.z (min 1000000 (v.book.start + v.book.rained)) W
  obtain ⟨P, hP⟩ : ∃ P, P = partOf x.y x.z (min 1000000 (v.book.start + v.book.rained)) := ⟨_, rfl⟩
  rw [← hP] at h4 p1 p2 ⊢
  obtain ⟨bb, oo, x', hR, hbb, hx, e0, e1, e2⟩ := h'.at_ k2
  rw [k3] at hx
  obtain rfl : x = x' := Option.some.inj hx
  unfold Vg.val at h1 ⊢
  unfold Bk.val at h3
  obtain ⟨⟨room, start, l, lv, ra, dr, lo⟩, rs⟩ := v
  simp only at h h' hs h1 h2 h3 h4 b1 b2 b3 b4 k2 hm1 ⊢
  subst hR
  have H1 := Lib.hid h1
  have H2 := Lib.hid h2
  have H3 := Lib.hid h3
  rw [min_if] at h4
  clear h1 h2 h3 hv k1 k3 k4 k5 hD hP hx
  have hk0 : (0 : Int) ≤ (k : Int) := by omega
  have hk1 : (k : Int) < (rs.length : Int) := by omega
  have hk9 : ¬ (k : Int) < 0 := by omega
  have hk8 : decide ((k : Int) < 0) = false := by simp only [decide_eq_false_iff_not]; exact hk9
  by_cases g1 : start + ra < 1000000
  all_goals
   first | rw [if_pos g1] at h4 | rw [if_neg g1] at h4
   have H4 := Lib.hid h4
   clear h4
   by_cases g2 : 0 < P - D
   all_goals
    go_enter Tryz.func41, Tryz.ntmps41
    go_wp2_with fail
    first | refine name_world ?_ | refine name_wp ?_
    intro W1 hW
    replace hB : Below w.heap.size w W1 := by rw [hW]; exact tacT
    have hz_W1 : w.heap.size ≤ W1.heap.size := by rw [hW]; exact sT
    replace kb_p : Blk W1 (w.heap.size) 35 #[.int .i64 room, .int .i64 start, .slice A l.length c, .int .i64 lv, .int .i64 ra, .int .i64 dr, .int .i64 lo, .slice (some ⟨bb, oo, none⟩) rs.length d] := by rw [hW]; exact blkT
    have hLW1_p := kb_p.lt
    try clear kc_p kf_p
    clear hW
    refine (H1.out _ hB).mono ?_
    rintro e w1 ⟨rfl, hb⟩
    replace hB := hB.trans (Below.mono hb hB.size)
    have hz_w1 : W1.heap.size ≤ w1.heap.size := Below.size hb
    replace kb_p := kb_p.mv hb; obtain ⟨kb_p, kc_p, kf_p, hl_p, hn_p⟩ := kb_p
    clear hb
    go_wp2_with fail
    refine (H2.out _ hB).mono ?_
    rintro e w2 ⟨rfl, hb⟩
    replace hB := hB.trans (Below.mono hb hB.size)
    have hz_w2 : w1.heap.size ≤ w2.heap.size := Below.size hb
    replace kb_p := kb_p.mv hb; obtain ⟨kb_p, kc_p, kf_p, hl_p, hn_p⟩ := kb_p
    clear hb
    have f1 : ∀ z : NewW w2, z.w.cell? ⟨bb, oo + k * 3 + 1, none⟩ = some (.int .i64 x.y) := fun z => NewW.cell ((hB.cell (p := ⟨bb, _, none⟩) hbb).trans e1) z
    have f2 : ∀ z : NewW w2, z.w.cell? ⟨bb, oo + k * 3 + 2, none⟩ = some (.int .i64 x.z) := fun z => NewW.cell ((hB.cell (p := ⟨bb, _, none⟩) hbb).trans e2) z
    have f3 : ∀ (z : NewW w2) (i : Nat), z.w.cell? ⟨w.heap.size, i, none⟩ = #[.int .i64 room, .int .i64 start, .slice A l.length c, .int .i64 lv, .int .i64 ra, .int .i64 dr, .int .i64 lo, .slice (some ⟨bb, oo, none⟩) rs.length d][i]? := fun z i => (kb_p.newW z).cells i
    have hw1 : IntKind.i64.wrap (start + ra) = start + ra := by exact IntWalk.i64_in _ (by omega)
    have hw2 : IntKind.i64.wrap (P - D) = P - D := by exact IntWalk.i64_in _ (by omega)
    clear e0 e1 e2
    go_wp2_with fail
    refine wp_region_new (by kernel_rfl) (by kernel_rfl) ?_
    repeat (go_big_quiet_step (first | (go_at_call 72; exact NewW.call (H4.out _)) | (go_at_call 73; exact NewW.call (H3.out _ (hB.trans (Below.mono (NewW.h _) hB.size))))))
    refine wpQuiet_nil ?_
    intro w3 hw'
    obtain ⟨hx, hw''⟩ := hw'
    have hb3 := hx.h
    rw [← hw''] at hb3
    clear hw'' hx
    clear f1 f2 f3 hw1 hw2
    replace hB := hB.trans (Below.mono hb3 hB.size)
    have hz_w3 : w2.heap.size ≤ w3.heap.size := Below.size hb3
    clear hb3
    go_wp2_with fail
    go_ret
    exact ⟨ret_int (by first | rfl | (rw [max_if]; done) | (split <;> omega) | omega), hB⟩
end
section
open Go.RowKit
theorem dall_bd : ∀ (l : List T3), (∀ e ∈ l, 0 ≤ e.y ∧ e.y ≤ 1000000) → 0 ≤ dall l ∧ dall l ≤ 1000000 * l.length
 | [], _ => by simp [dall]
 |t :: l, h => by
  have := dall_bd l (fun e he => h e (by simp [he]))
  have h2 := h t (by simp)
  simp only [dall, List.length_cons]
  split <;> omega
theorem book_bounds {b : Bk} (h : bookOk b = true) : (0 ≤ b.level ∧ b.level ≤ 1000000) ∧ (0 ≤ b.rained ∧ b.rained ≤ 40000000) ∧ (0 ≤ b.drunk ∧ b.drunk ≤ 40000000) ∧ (-1000000000 ≤ b.lost ∧ b.lost ≤ 1000000000) ∧ (0 ≤ b.start ∧ b.start ≤ 1000000) ∧ b.evs.length ≤ 40 := by
 have h1 := book_level h
 have h2 := book_bd h
 have h3 := book_balance h
 have h4 := book_drunk h
 have hd := dall_bd b.evs (book_liters h)
 obtain ⟨_, _, hl, _⟩ := bookOk_iff h
 omega
end
end Go.Proofs.YtpmmjhpmheooeaaGreatDoor
