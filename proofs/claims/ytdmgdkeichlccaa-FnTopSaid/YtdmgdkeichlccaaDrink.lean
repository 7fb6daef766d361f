/- Drink. -/
import Derived.Test.YtdmgdkeichlccaaMay
import Derived.Test.YtdmgdkeichlccaaVillRain
namespace Go.Proofs.Ytdmgdkeichlccaa
set_option linter.unusedSimpArgs false
set_option linter.unusedVariables false
open Go.RowKit
set_option maxRecDepth 20000
def vDrink (v : Vg) (o n : Int) : Vg × Bool := if mayDrink v o < n then (v, false) else vEnter v ⟨2, n, o⟩
set_option maxHeartbeats 1600000 in
theorem Drink_any (A : Option Addr) (c : Nat) (R : Option Addr) (d : Nat) (v : Vg) (o n : Int) (w : World) (h : RdT w w.heap.size A c v.book.evs) (h' : RdT w w.heap.size R d v.rights) (hs : v.book.evs.length + v.rights.length ≤ 1048576) :
    Calls Try.prog 23 #[v.val A c R d, .int .i64 o, .int .i64 n] w (VgRet (vDrink v o n) w) := by
  have hB := Below.refl w.heap.size w
  have h1 := fun (W : World) (hb : Below w.heap.size w W) => MayDrink_any A c R d v o W (h.below hb) (h'.below hb) (by omega)
  obtain ⟨M, hM⟩ : ∃ M, M = mayDrink v o := ⟨_, rfl⟩
  rw [← hM] at h1
  by_cases hlt : M < n
  · have h2 := fun (W : World) (hb : Below w.heap.size w W) => copyVillage_any A c R d v W (h.below hb) (h'.below hb) (by omega) (by omega)
    have hst : vDrink v o n = (v, false) := by unfold vDrink; rw [← hM, if_pos hlt]
    rw [hst]
    unfold VgRet
    unfold VgOwn at h2
    unfold Vg.val at h1 h2 ⊢
    obtain ⟨⟨room, start, l, lv, ra, dr, lo⟩, rs⟩ := v
    simp only at h h' hs h1 h2 ⊢
    have H1 := Lib.hid h1
    have H2 := Lib.hid h2
    clear h1 h2 hst hM
    go_enter Try.func23, Try.ntmps23
    go_wp2_with fail
    first | refine name_world ?_ | refine name_wp ?_
    intro W1 hW
    replace hB : Below w.heap.size w W1 := by rw [hW]; exact tacT
    have hz_W1 : w.heap.size ≤ W1.heap.size := by rw [hW]; first | (simp; done) | (simp; omega)
    replace kb_p : Blk W1 (w.heap.size) 29 #[.int .i64 room, .int .i64 start, .slice A l.length c, .int .i64 lv, .int .i64 ra, .int .i64 dr, .int .i64 lo, .slice R rs.length d] := by rw [hW]; exact blkT
    have hLW1_p := kb_p.lt
    replace kb_r : Blk W1 (w.heap.size + 1) 29 #[.int .i64 0, .int .i64 0, .slice none 0 0, .int .i64 0, .int .i64 0, .int .i64 0, .int .i64 0, .slice none 0 0] := by rw [hW]; exact blkT
    have hLW1_r := kb_r.lt
    try clear kc_p kf_p
    try clear kc_r kf_r
    clear hW
    refine (H1.out _ hB).mono ?_
    rintro e w1 ⟨rfl, hb⟩
    replace hB := hB.trans (Below.mono hb hB.size)
    have hz_w1 : W1.heap.size ≤ w1.heap.size := Below.size hb
    replace kb_p := Blk.below kb_p hb (by first | exact kb_p.lt | (have := kb_p.lt; omega))
    have kc_p := kb_p.cells
    have kf_p := kb_p.frozens
    have hl_p := kb_p.lt
    have hn_p := Nat.ne_of_lt kb_p.lt
    replace kb_r := Blk.below kb_r hb (by first | exact kb_r.lt | (have := kb_r.lt; omega))
    have kc_r := kb_r.cells
    have kf_r := kb_r.frozens
    have hl_r := kb_r.lt
    have hn_r := Nat.ne_of_lt kb_r.lt
    clear hb
    go_wp2_with fail
    refine (H2.out _ hB).mono ?_
    rintro e w2 ⟨A1, c1, R1, d1, rfl, ⟨ho1, ho2⟩, hb⟩
    have hr_e := Row2.born ho1
    have hr_s := Row2.born ho2
    clear ho1 ho2
    replace hB := hB.trans (Below.mono hb hB.size)
    have hz_w2 : w1.heap.size ≤ w2.heap.size := Below.size hb
    replace kb_r := Blk.below kb_r hb (by first | exact kb_r.lt | (have := kb_r.lt; omega))
    have kc_r := kb_r.cells
    have kf_r := kb_r.frozens
    have hl_r := kb_r.lt
    have hn_r := Nat.ne_of_lt kb_r.lt
    clear hb
    go_wp2_with fail
    refine bodyPost_ret (v := .tuple #[.agg #[.int .i64 room, .int .i64 start, .slice A1 l.length c1, .int .i64 lv, .int .i64 ra, .int .i64 dr, .int .i64 lo, .slice R1 rs.length d1], .bool false]) ?_ rfl ?_
    · simp [results, Try.results23, go_sem, kc_r, hl_r, hn_r]
    · exact ⟨A1, c1, R1, d1, rfl, (Row2.mono (lo := w1.heap.size) (hi := w2.heap.size) (hi' := w2.heap.size) (by exact rowT) (by omega) (Nat.le_refl _)).1, (Row2.mono (lo := w1.heap.size) (hi := w2.heap.size) (hi' := w2.heap.size) (by exact rowT) (by omega) (Nat.le_refl _)).1, by exact tacT⟩
  · have h2 := fun (W : World) (hb : Below w.heap.size w W) => vEnter_any A c R d v 2 n o W (h.below hb) (h'.below hb) (by omega) (by omega)
    have hst : vDrink v o n = vEnter v ⟨2, n, o⟩ := by unfold vDrink; rw [← hM, if_neg hlt]
    rw [hst]
    obtain ⟨⟨⟨⟨room', start', l', lv', ra', dr', lo'⟩, rs'⟩, ok⟩, hE⟩ : ∃ r, vEnter v ⟨2, n, o⟩ = r := ⟨_, rfl⟩
    rw [hE] at h2 ⊢
    unfold VgRet at h2 ⊢
    unfold Vg.val at h1 h2 ⊢
    obtain ⟨⟨room, start, l, lv, ra, dr, lo⟩, rs⟩ := v
    simp only at h h' hs h1 h2 ⊢
    have H1 := Lib.hid h1
    have H2 := Lib.hid h2
    clear h1 h2 hst hM hE
    go_enter Try.func23, Try.ntmps23
    go_wp2_with fail
    first | refine name_world ?_ | refine name_wp ?_
    intro W1 hW
    replace hB : Below w.heap.size w W1 := by rw [hW]; exact tacT
    have hz_W1 : w.heap.size ≤ W1.heap.size := by rw [hW]; first | (simp; done) | (simp; omega)
    replace kb_p : Blk W1 (w.heap.size) 29 #[.int .i64 room, .int .i64 start, .slice A l.length c, .int .i64 lv, .int .i64 ra, .int .i64 dr, .int .i64 lo, .slice R rs.length d] := by rw [hW]; exact blkT
    have hLW1_p := kb_p.lt
    replace kb_r : Blk W1 (w.heap.size + 1) 29 #[.int .i64 0, .int .i64 0, .slice none 0 0, .int .i64 0, .int .i64 0, .int .i64 0, .int .i64 0, .slice none 0 0] := by rw [hW]; exact blkT
    have hLW1_r := kb_r.lt
    try clear kc_p kf_p
    try clear kc_r kf_r
    clear hW
    refine (H1.out _ hB).mono ?_
    rintro e w1 ⟨rfl, hb⟩
    replace hB := hB.trans (Below.mono hb hB.size)
    have hz_w1 : W1.heap.size ≤ w1.heap.size := Below.size hb
    replace kb_p := Blk.below kb_p hb (by first | exact kb_p.lt | (have := kb_p.lt; omega))
    have kc_p := kb_p.cells
    have kf_p := kb_p.frozens
    have hl_p := kb_p.lt
    have hn_p := Nat.ne_of_lt kb_p.lt
    replace kb_r := Blk.below kb_r hb (by first | exact kb_r.lt | (have := kb_r.lt; omega))
    have kc_r := kb_r.cells
    have kf_r := kb_r.frozens
    have hl_r := kb_r.lt
    have hn_r := Nat.ne_of_lt kb_r.lt
    clear hb
    go_wp2_with fail
    refine (H2.out _ hB).mono ?_
    rintro e w2 ⟨A1, c1, R1, d1, rfl, ho1, ho2, hb⟩
    have hr_e := Row2.born ho1
    have hr_s := Row2.born ho2
    clear ho1 ho2
    replace hB := hB.trans (Below.mono hb hB.size)
    have hz_w2 : w1.heap.size ≤ w2.heap.size := Below.size hb
    replace kb_r := Blk.below kb_r hb (by first | exact kb_r.lt | (have := kb_r.lt; omega))
    have kc_r := kb_r.cells
    have kf_r := kb_r.frozens
    have hl_r := kb_r.lt
    have hn_r := Nat.ne_of_lt kb_r.lt
    clear hb
    go_wp2_with fail
    refine bodyPost_ret (v := .tuple #[.agg #[.int .i64 room', .int .i64 start', .slice A1 l'.length c1, .int .i64 lv', .int .i64 ra', .int .i64 dr', .int .i64 lo', .slice R1 rs'.length d1], .bool ok]) ?_ rfl ?_
    · simp [results, Try.results23, go_sem, kc_r, hl_r, hn_r]
    · exact ⟨A1, c1, R1, d1, rfl, (Row2.mono (lo := w1.heap.size) (hi := w2.heap.size) (hi' := w2.heap.size) (by exact rowT) (by omega) (Nat.le_refl _)).1, (Row2.mono (lo := w1.heap.size) (hi := w2.heap.size) (hi' := w2.heap.size) (by exact rowT) (by omega) (Nat.le_refl _)).1, by exact tacT⟩
set_option maxHeartbeats 1600000 in
theorem DrinkS_any (A : Option Addr) (c : Nat) (R : Option Addr) (d : Nat) (v : Vg) (o n : Int) (w : World) (h : RdT w w.heap.size A c v.book.evs) (h' : RdT w w.heap.size R d v.rights) (hs : v.book.evs.length + v.rights.length ≤ 1048576) :
    Calls Try.prog 31 #[v.val A c R d, .int .i64 o, .int .i64 n] w (VgRet (vDrink v o n) w) := by
  have hB := Below.refl w.heap.size w
  have h1 := fun (W : World) (hb : Below w.heap.size w W) => MayDrinkS_any A c R d v o W (h.below hb) (h'.below hb) (by omega)
  obtain ⟨M, hM⟩ : ∃ M, M = mayDrink v o := ⟨_, rfl⟩
  rw [← hM] at h1
  by_cases hlt : M < n
  · have h2 := fun (W : World) (hb : Below w.heap.size w W) => l38Copy_any A c R d v W (h.below hb) (h'.below hb) (by omega) (by omega)
    have hst : vDrink v o n = (v, false) := by unfold vDrink; rw [← hM, if_pos hlt]
    rw [hst]
    unfold VgRet
    unfold VgOwn at h2
    unfold Vg.val at h1 h2 ⊢
    obtain ⟨⟨room, start, l, lv, ra, dr, lo⟩, rs⟩ := v
    simp only at h h' hs h1 h2 ⊢
    have H1 := Lib.hid h1
    have H2 := Lib.hid h2
    clear h1 h2 hst hM
    go_enter Try.func31, Try.ntmps31
    go_wp2_with fail
    first | refine name_world ?_ | refine name_wp ?_
    intro W1 hW
    replace hB : Below w.heap.size w W1 := by rw [hW]; exact tacT
    have hz_W1 : w.heap.size ≤ W1.heap.size := by rw [hW]; first | (simp; done) | (simp; omega)
    replace kb_p : Blk W1 (w.heap.size) 29 #[.int .i64 room, .int .i64 start, .slice A l.length c, .int .i64 lv, .int .i64 ra, .int .i64 dr, .int .i64 lo, .slice R rs.length d] := by rw [hW]; exact blkT
    have hLW1_p := kb_p.lt
    replace kb_r : Blk W1 (w.heap.size + 1) 29 #[.int .i64 0, .int .i64 0, .slice none 0 0, .int .i64 0, .int .i64 0, .int .i64 0, .int .i64 0, .slice none 0 0] := by rw [hW]; exact blkT
    have hLW1_r := kb_r.lt
    try clear kc_p kf_p
    try clear kc_r kf_r
    clear hW
    refine (H1.out _ hB).mono ?_
    rintro e w1 ⟨rfl, hb⟩
    replace hB := hB.trans (Below.mono hb hB.size)
    have hz_w1 : W1.heap.size ≤ w1.heap.size := Below.size hb
    replace kb_p := Blk.below kb_p hb (by first | exact kb_p.lt | (have := kb_p.lt; omega))
    have kc_p := kb_p.cells
    have kf_p := kb_p.frozens
    have hl_p := kb_p.lt
    have hn_p := Nat.ne_of_lt kb_p.lt
    replace kb_r := Blk.below kb_r hb (by first | exact kb_r.lt | (have := kb_r.lt; omega))
    have kc_r := kb_r.cells
    have kf_r := kb_r.frozens
    have hl_r := kb_r.lt
    have hn_r := Nat.ne_of_lt kb_r.lt
    clear hb
    go_wp2_with fail
    refine (H2.out _ hB).mono ?_
    rintro e w2 ⟨A1, c1, R1, d1, rfl, ⟨ho1, ho2⟩, hb⟩
    have hr_e := Row2.born ho1
    have hr_s := Row2.born ho2
    clear ho1 ho2
    replace hB := hB.trans (Below.mono hb hB.size)
    have hz_w2 : w1.heap.size ≤ w2.heap.size := Below.size hb
    replace kb_r := Blk.below kb_r hb (by first | exact kb_r.lt | (have := kb_r.lt; omega))
    have kc_r := kb_r.cells
    have kf_r := kb_r.frozens
    have hl_r := kb_r.lt
    have hn_r := Nat.ne_of_lt kb_r.lt
    clear hb
    go_wp2_with fail
    refine bodyPost_ret (v := .tuple #[.agg #[.int .i64 room, .int .i64 start, .slice A1 l.length c1, .int .i64 lv, .int .i64 ra, .int .i64 dr, .int .i64 lo, .slice R1 rs.length d1], .bool false]) ?_ rfl ?_
    · simp [results, Try.results31, go_sem, kc_r, hl_r, hn_r]
    · exact ⟨A1, c1, R1, d1, rfl, (Row2.mono (lo := w1.heap.size) (hi := w2.heap.size) (hi' := w2.heap.size) (by exact rowT) (by omega) (Nat.le_refl _)).1, (Row2.mono (lo := w1.heap.size) (hi := w2.heap.size) (hi' := w2.heap.size) (by exact rowT) (by omega) (Nat.le_refl _)).1, by exact tacT⟩
  · have h2 := fun (W : World) (hb : Below w.heap.size w W) => vEnterS_any A c R d v 2 n o W (h.below hb) (h'.below hb) (by omega) (by omega)
    have hst : vDrink v o n = vEnter v ⟨2, n, o⟩ := by unfold vDrink; rw [← hM, if_neg hlt]
    rw [hst]
    obtain ⟨⟨⟨⟨room', start', l', lv', ra', dr', lo'⟩, rs'⟩, ok⟩, hE⟩ : ∃ r, vEnter v ⟨2, n, o⟩ = r := ⟨_, rfl⟩
    rw [hE] at h2 ⊢
    unfold VgRet at h2 ⊢
    unfold Vg.val at h1 h2 ⊢
    obtain ⟨⟨room, start, l, lv, ra, dr, lo⟩, rs⟩ := v
    simp only at h h' hs h1 h2 ⊢
    have H1 := Lib.hid h1
    have H2 := Lib.hid h2
    clear h1 h2 hst hM hE
    go_enter Try.func31, Try.ntmps31
    go_wp2_with fail
    first | refine name_world ?_ | refine name_wp ?_
    intro W1 hW
    replace hB : Below w.heap.size w W1 := by rw [hW]; exact tacT
    have hz_W1 : w.heap.size ≤ W1.heap.size := by rw [hW]; first | (simp; done) | (simp; omega)
    replace kb_p : Blk W1 (w.heap.size) 29 #[.int .i64 room, .int .i64 start, .slice A l.length c, .int .i64 lv, .int .i64 ra, .int .i64 dr, .int .i64 lo, .slice R rs.length d] := by rw [hW]; exact blkT
    have hLW1_p := kb_p.lt
    replace kb_r : Blk W1 (w.heap.size + 1) 29 #[.int .i64 0, .int .i64 0, .slice none 0 0, .int .i64 0, .int .i64 0, .int .i64 0, .int .i64 0, .slice none 0 0] := by rw [hW]; exact blkT
    have hLW1_r := kb_r.lt
    try clear kc_p kf_p
    try clear kc_r kf_r
    clear hW
    refine (H1.out _ hB).mono ?_
    rintro e w1 ⟨rfl, hb⟩
    replace hB := hB.trans (Below.mono hb hB.size)
    have hz_w1 : W1.heap.size ≤ w1.heap.size := Below.size hb
    replace kb_p := Blk.below kb_p hb (by first | exact kb_p.lt | (have := kb_p.lt; omega))
    have kc_p := kb_p.cells
    have kf_p := kb_p.frozens
    have hl_p := kb_p.lt
    have hn_p := Nat.ne_of_lt kb_p.lt
    replace kb_r := Blk.below kb_r hb (by first | exact kb_r.lt | (have := kb_r.lt; omega))
    have kc_r := kb_r.cells
    have kf_r := kb_r.frozens
    have hl_r := kb_r.lt
    have hn_r := Nat.ne_of_lt kb_r.lt
    clear hb
    go_wp2_with fail
    refine (H2.out _ hB).mono ?_
    rintro e w2 ⟨A1, c1, R1, d1, rfl, ho1, ho2, hb⟩
    have hr_e := Row2.born ho1
    have hr_s := Row2.born ho2
    clear ho1 ho2
    replace hB := hB.trans (Below.mono hb hB.size)
    have hz_w2 : w1.heap.size ≤ w2.heap.size := Below.size hb
    replace kb_r := Blk.below kb_r hb (by first | exact kb_r.lt | (have := kb_r.lt; omega))
    have kc_r := kb_r.cells
    have kf_r := kb_r.frozens
    have hl_r := kb_r.lt
    have hn_r := Nat.ne_of_lt kb_r.lt
    clear hb
    go_wp2_with fail
    refine bodyPost_ret (v := .tuple #[.agg #[.int .i64 room', .int .i64 start', .slice A1 l'.length c1, .int .i64 lv', .int .i64 ra', .int .i64 dr', .int .i64 lo', .slice R1 rs'.length d1], .bool ok]) ?_ rfl ?_
    · simp [results, Try.results31, go_sem, kc_r, hl_r, hn_r]
    · exact ⟨A1, c1, R1, d1, rfl, (Row2.mono (lo := w1.heap.size) (hi := w2.heap.size) (hi' := w2.heap.size) (by exact rowT) (by omega) (Nat.le_refl _)).1, (Row2.mono (lo := w1.heap.size) (hi := w2.heap.size) (hi' := w2.heap.size) (by exact rowT) (by omega) (Nat.le_refl _)).1, by exact tacT⟩
theorem vDrink_len (v : Vg) (o n : Int) : (vDrink v o n).1.book.evs.length ≤ v.book.evs.length + 1 ∧ (vDrink v o n).1.rights.length ≤ v.rights.length := by
  unfold vDrink
  split
  · exact ⟨Nat.le_succ _, Nat.le_refl _⟩
  · exact vEnter_len v ⟨2, n, o⟩
end Go.Proofs.Ytdmgdkeichlccaa
