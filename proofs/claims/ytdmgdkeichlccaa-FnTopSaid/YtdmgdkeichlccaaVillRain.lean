/- Villages: rain, leaks. -/
import Derived.Test.YtdmgdkeichlccaaVillEnter
namespace Go.Proofs.Ytdmgdkeichlccaa
set_option linter.unusedSimpArgs false
set_option linter.unusedVariables false
open Go.RowKit
set_option maxRecDepth 20000
set_option maxHeartbeats 1600000 in
theorem RainFalls_any (A : Option Addr) (c : Nat) (R : Option Addr) (d : Nat) (v : Vg) (el : Int) (w : World) (h : RdT w w.heap.size A c v.book.evs) (h' : RdT w w.heap.size R d v.rights) (hs : v.book.evs.length + v.rights.length ≤ 1048576) :
    Calls Try.prog 22 #[v.val A c R d, .int .i64 el] w (VgRet (vEnter v ⟨1, el, 0⟩) w) := by
  have hB := Below.refl w.heap.size w
  have h1 := fun (W : World) (hb : Below w.heap.size w W) => vEnter_any A c R d v 1 el 0 W (h.below hb) (h'.below hb) (by omega) (by omega)
  obtain ⟨⟨⟨⟨room', start', l', lv', ra', dr', lo'⟩, rs'⟩, ok⟩, hE⟩ : ∃ r, vEnter v ⟨1, el, 0⟩ = r := ⟨_, rfl⟩
  rw [hE] at h1 ⊢
  unfold VgRet at h1 ⊢
  unfold Vg.val at h1 ⊢
  obtain ⟨⟨room, start, l, lv, ra, dr, lo⟩, rs⟩ := v
  simp only at h h' hs h1 ⊢
  have H1 := Lib.hid h1
  clear h1 hE
  go_enter Try.func22, Try.ntmps22
  go_wp2_with fail
  first | refine name_world ?_ | refine name_wp ?_
  intro W1 hW
  replace hB : Below w.heap.size w W1 := by rw [hW]; exact tacT
  have hz_W1 : w.heap.size ≤ W1.heap.size := by rw [hW]; first | (simp; done) | (simp; omega)
  replace kb_r : Blk W1 (w.heap.size + 1) 29 #[.int .i64 0, .int .i64 0, .slice none 0 0, .int .i64 0, .int .i64 0, .int .i64 0, .int .i64 0, .slice none 0 0] := by rw [hW]; exact blkT
  have hLW1_r := kb_r.lt
  try clear kc_r kf_r
  clear hW
  refine (H1.out _ hB).mono ?_
  rintro e w1 ⟨A1, c1, R1, d1, rfl, ho1, ho2, hb⟩
  have hr_e := Row2.born ho1
  have hr_s := Row2.born ho2
  clear ho1 ho2
  replace hB := hB.trans (Below.mono hb hB.size)
  have hz_w1 : W1.heap.size ≤ w1.heap.size := Below.size hb
  replace kb_r := Blk.below kb_r hb (by first | exact kb_r.lt | (have := kb_r.lt; omega))
  have kc_r := kb_r.cells
  have kf_r := kb_r.frozens
  have hl_r := kb_r.lt
  have hn_r := Nat.ne_of_lt kb_r.lt
  clear hb
  go_wp2_with fail
  refine bodyPost_ret (v := .tuple #[.agg #[.int .i64 room', .int .i64 start', .slice A1 l'.length c1, .int .i64 lv', .int .i64 ra', .int .i64 dr', .int .i64 lo', .slice R1 rs'.length d1], .bool ok]) ?_ rfl ?_
  · simp [results, Try.results22, go_sem, kc_r, hl_r, hn_r]
  · exact ⟨A1, c1, R1, d1, rfl, (Row2.mono (lo := W1.heap.size) (hi := w1.heap.size) (hi' := w1.heap.size) (by exact rowT) (by omega) (Nat.le_refl _)).1, (Row2.mono (lo := W1.heap.size) (hi := w1.heap.size) (hi' := w1.heap.size) (by exact rowT) (by omega) (Nat.le_refl _)).1, by exact tacT⟩
set_option maxHeartbeats 1600000 in
theorem LeakOut_any (A : Option Addr) (c : Nat) (R : Option Addr) (d : Nat) (v : Vg) (el : Int) (w : World) (h : RdT w w.heap.size A c v.book.evs) (h' : RdT w w.heap.size R d v.rights) (hs : v.book.evs.length + v.rights.length ≤ 1048576) :
    Calls Try.prog 24 #[v.val A c R d, .int .i64 el] w (VgRet (vEnter v ⟨3, el, 0⟩) w) := by
  have hB := Below.refl w.heap.size w
  have h1 := fun (W : World) (hb : Below w.heap.size w W) => vEnter_any A c R d v 3 el 0 W (h.below hb) (h'.below hb) (by omega) (by omega)
  obtain ⟨⟨⟨⟨room', start', l', lv', ra', dr', lo'⟩, rs'⟩, ok⟩, hE⟩ : ∃ r, vEnter v ⟨3, el, 0⟩ = r := ⟨_, rfl⟩
  rw [hE] at h1 ⊢
  unfold VgRet at h1 ⊢
  unfold Vg.val at h1 ⊢
  obtain ⟨⟨room, start, l, lv, ra, dr, lo⟩, rs⟩ := v
  simp only at h h' hs h1 ⊢
  have H1 := Lib.hid h1
  clear h1 hE
  go_enter Try.func24, Try.ntmps24
  go_wp2_with fail
  first | refine name_world ?_ | refine name_wp ?_
  intro W1 hW
  replace hB : Below w.heap.size w W1 := by rw [hW]; exact tacT
  have hz_W1 : w.heap.size ≤ W1.heap.size := by rw [hW]; first | (simp; done) | (simp; omega)
  replace kb_r : Blk W1 (w.heap.size + 1) 29 #[.int .i64 0, .int .i64 0, .slice none 0 0, .int .i64 0, .int .i64 0, .int .i64 0, .int .i64 0, .slice none 0 0] := by rw [hW]; exact blkT
  have hLW1_r := kb_r.lt
  try clear kc_r kf_r
  clear hW
  refine (H1.out _ hB).mono ?_
  rintro e w1 ⟨A1, c1, R1, d1, rfl, ho1, ho2, hb⟩
  have hr_e := Row2.born ho1
  have hr_s := Row2.born ho2
  clear ho1 ho2
  replace hB := hB.trans (Below.mono hb hB.size)
  have hz_w1 : W1.heap.size ≤ w1.heap.size := Below.size hb
  replace kb_r := Blk.below kb_r hb (by first | exact kb_r.lt | (have := kb_r.lt; omega))
  have kc_r := kb_r.cells
  have kf_r := kb_r.frozens
  have hl_r := kb_r.lt
  have hn_r := Nat.ne_of_lt kb_r.lt
  clear hb
  go_wp2_with fail
  refine bodyPost_ret (v := .tuple #[.agg #[.int .i64 room', .int .i64 start', .slice A1 l'.length c1, .int .i64 lv', .int .i64 ra', .int .i64 dr', .int .i64 lo', .slice R1 rs'.length d1], .bool ok]) ?_ rfl ?_
  · simp [results, Try.results24, go_sem, kc_r, hl_r, hn_r]
  · exact ⟨A1, c1, R1, d1, rfl, (Row2.mono (lo := W1.heap.size) (hi := w1.heap.size) (hi' := w1.heap.size) (by exact rowT) (by omega) (Nat.le_refl _)).1, (Row2.mono (lo := W1.heap.size) (hi := w1.heap.size) (hi' := w1.heap.size) (by exact rowT) (by omega) (Nat.le_refl _)).1, by exact tacT⟩
set_option maxHeartbeats 1600000 in
theorem RainFallsS_any (A : Option Addr) (c : Nat) (R : Option Addr) (d : Nat) (v : Vg) (el : Int) (w : World) (h : RdT w w.heap.size A c v.book.evs) (h' : RdT w w.heap.size R d v.rights) (hs : v.book.evs.length + v.rights.length ≤ 1048576) :
    Calls Try.prog 30 #[v.val A c R d, .int .i64 el] w (VgRet (vEnter v ⟨1, el, 0⟩) w) := by
  have hB := Below.refl w.heap.size w
  have h1 := fun (W : World) (hb : Below w.heap.size w W) => vEnterS_any A c R d v 1 el 0 W (h.below hb) (h'.below hb) (by omega) (by omega)
  obtain ⟨⟨⟨⟨room', start', l', lv', ra', dr', lo'⟩, rs'⟩, ok⟩, hE⟩ : ∃ r, vEnter v ⟨1, el, 0⟩ = r := ⟨_, rfl⟩
  rw [hE] at h1 ⊢
  unfold VgRet at h1 ⊢
  unfold Vg.val at h1 ⊢
  obtain ⟨⟨room, start, l, lv, ra, dr, lo⟩, rs⟩ := v
  simp only at h h' hs h1 ⊢
  have H1 := Lib.hid h1
  clear h1 hE
  go_enter Try.func30, Try.ntmps30
  go_wp2_with fail
  first | refine name_world ?_ | refine name_wp ?_
  intro W1 hW
  replace hB : Below w.heap.size w W1 := by rw [hW]; exact tacT
  have hz_W1 : w.heap.size ≤ W1.heap.size := by rw [hW]; first | (simp; done) | (simp; omega)
  replace kb_r : Blk W1 (w.heap.size + 1) 29 #[.int .i64 0, .int .i64 0, .slice none 0 0, .int .i64 0, .int .i64 0, .int .i64 0, .int .i64 0, .slice none 0 0] := by rw [hW]; exact blkT
  have hLW1_r := kb_r.lt
  try clear kc_r kf_r
  clear hW
  refine (H1.out _ hB).mono ?_
  rintro e w1 ⟨A1, c1, R1, d1, rfl, ho1, ho2, hb⟩
  have hr_e := Row2.born ho1
  have hr_s := Row2.born ho2
  clear ho1 ho2
  replace hB := hB.trans (Below.mono hb hB.size)
  have hz_w1 : W1.heap.size ≤ w1.heap.size := Below.size hb
  replace kb_r := Blk.below kb_r hb (by first | exact kb_r.lt | (have := kb_r.lt; omega))
  have kc_r := kb_r.cells
  have kf_r := kb_r.frozens
  have hl_r := kb_r.lt
  have hn_r := Nat.ne_of_lt kb_r.lt
  clear hb
  go_wp2_with fail
  refine bodyPost_ret (v := .tuple #[.agg #[.int .i64 room', .int .i64 start', .slice A1 l'.length c1, .int .i64 lv', .int .i64 ra', .int .i64 dr', .int .i64 lo', .slice R1 rs'.length d1], .bool ok]) ?_ rfl ?_
  · simp [results, Try.results30, go_sem, kc_r, hl_r, hn_r]
  · exact ⟨A1, c1, R1, d1, rfl, (Row2.mono (lo := W1.heap.size) (hi := w1.heap.size) (hi' := w1.heap.size) (by exact rowT) (by omega) (Nat.le_refl _)).1, (Row2.mono (lo := W1.heap.size) (hi := w1.heap.size) (hi' := w1.heap.size) (by exact rowT) (by omega) (Nat.le_refl _)).1, by exact tacT⟩
set_option maxHeartbeats 1600000 in
theorem LeakOutS_any (A : Option Addr) (c : Nat) (R : Option Addr) (d : Nat) (v : Vg) (el : Int) (w : World) (h : RdT w w.heap.size A c v.book.evs) (h' : RdT w w.heap.size R d v.rights) (hs : v.book.evs.length + v.rights.length ≤ 1048576) :
    Calls Try.prog 32 #[v.val A c R d, .int .i64 el] w (VgRet (vEnter v ⟨3, el, 0⟩) w) := by
  have hB := Below.refl w.heap.size w
  have h1 := fun (W : World) (hb : Below w.heap.size w W) => vEnterS_any A c R d v 3 el 0 W (h.below hb) (h'.below hb) (by omega) (by omega)
  obtain ⟨⟨⟨⟨room', start', l', lv', ra', dr', lo'⟩, rs'⟩, ok⟩, hE⟩ : ∃ r, vEnter v ⟨3, el, 0⟩ = r := ⟨_, rfl⟩
  rw [hE] at h1 ⊢
  unfold VgRet at h1 ⊢
  unfold Vg.val at h1 ⊢
  obtain ⟨⟨room, start, l, lv, ra, dr, lo⟩, rs⟩ := v
  simp only at h h' hs h1 ⊢
  have H1 := Lib.hid h1
  clear h1 hE
  go_enter Try.func32, Try.ntmps32
  go_wp2_with fail
  first | refine name_world ?_ | refine name_wp ?_
  intro W1 hW
  replace hB : Below w.heap.size w W1 := by rw [hW]; exact tacT
  have hz_W1 : w.heap.size ≤ W1.heap.size := by rw [hW]; first | (simp; done) | (simp; omega)
  replace kb_r : Blk W1 (w.heap.size + 1) 29 #[.int .i64 0, .int .i64 0, .slice none 0 0, .int .i64 0, .int .i64 0, .int .i64 0, .int .i64 0, .slice none 0 0] := by rw [hW]; exact blkT
  have hLW1_r := kb_r.lt
  try clear kc_r kf_r
  clear hW
  refine (H1.out _ hB).mono ?_
  rintro e w1 ⟨A1, c1, R1, d1, rfl, ho1, ho2, hb⟩
  have hr_e := Row2.born ho1
  have hr_s := Row2.born ho2
  clear ho1 ho2
  replace hB := hB.trans (Below.mono hb hB.size)
  have hz_w1 : W1.heap.size ≤ w1.heap.size := Below.size hb
  replace kb_r := Blk.below kb_r hb (by first | exact kb_r.lt | (have := kb_r.lt; omega))
  have kc_r := kb_r.cells
  have kf_r := kb_r.frozens
  have hl_r := kb_r.lt
  have hn_r := Nat.ne_of_lt kb_r.lt
  clear hb
  go_wp2_with fail
  refine bodyPost_ret (v := .tuple #[.agg #[.int .i64 room', .int .i64 start', .slice A1 l'.length c1, .int .i64 lv', .int .i64 ra', .int .i64 dr', .int .i64 lo', .slice R1 rs'.length d1], .bool ok]) ?_ rfl ?_
  · simp [results, Try.results32, go_sem, kc_r, hl_r, hn_r]
  · exact ⟨A1, c1, R1, d1, rfl, (Row2.mono (lo := W1.heap.size) (hi := w1.heap.size) (hi' := w1.heap.size) (by exact rowT) (by omega) (Nat.le_refl _)).1, (Row2.mono (lo := W1.heap.size) (hi := w1.heap.size) (hi' := w1.heap.size) (by exact rowT) (by omega) (Nat.le_refl _)).1, by exact tacT⟩
theorem vEnter_len (v : Vg) (e : T3) : (vEnter v e).1.book.evs.length ≤ v.book.evs.length + 1 ∧ (vEnter v e).1.rights.length ≤ v.rights.length := by
  unfold vEnter
  split
  · refine ⟨?_, Nat.le_refl _⟩
    simp only
    unfold enter
    split
    · simp [madeBk]
    · simp
  · exact ⟨by simp, Nat.le_refl _⟩
end Go.Proofs.Ytdmgdkeichlccaa
