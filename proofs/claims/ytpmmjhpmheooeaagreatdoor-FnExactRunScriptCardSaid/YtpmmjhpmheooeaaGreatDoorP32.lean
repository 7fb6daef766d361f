/- Texts of the proof, joined: DoActS. -/
import Derived.Test.YtpmmjhpmheooeaaGreatDoorP28
namespace Go.Proofs.YtpmmjhpmheooeaaGreatDoor
set_option linter.unusedSimpArgs false
set_option linter.unusedVariables false
section
open Go.RowKit
set_option maxRecDepth 20000
set_option maxHeartbeats 3200000 in
theorem DoActS_v (A : Option Addr) (c : Nat) (R : Option Addr) (d : Nat) (v : Vg) (x y z : Int) (w : World) (h : RdT w w.heap.size A c v.book.evs) (h' : RdT w w.heap.size R d v.rights) (hs : v.book.evs.length + v.rights.length ≤ 1048576) (hv : villageOk v = false) :
  Calls Tryz.prog 48 #[v.val A c R d, .agg #[.int .i64 x, .int .i64 y, .int .i64 z]] w (VgRetI (doAct v x y z) w) := by
 have hB := Below.refl w.heap.size w
 have h1 := fun (W : World) (hb : Below w.heap.size w W) => VillageOkS_any A c R d v W (h.below hb) (h'.below hb) (by omega)
 have h3 := fun (W : World) (hb : Below w.heap.size w W) => l38Copy_any A c R d v W (h.below hb) (h'.below hb) (by omega) (by omega)
 have hst : doAct v x y z = (v, -1) := by unfold doAct; rw [if_neg (by simp [hv])]
 rw [hst]
 rw [hv] at h1
 unfold VgRetI
 unfold VgOwn at h3
 unfold Vg.val at h1 h3 ⊢
 obtain ⟨⟨room, start, l, lv, ra, dr, lo⟩, rs⟩ := v
 simp only at h h' hs h1 h3 ⊢
 have H1 := Lib.hid h1
 have H3 := Lib.hid h3
 clear h1 h3 hst hv
 go_enter Tryz.func48, Tryz.ntmps48
 go_wp2_with fail
 first | refine name_world ?_ | refine name_wp ?_
 intro W1 hW
 replace hB : Below w.heap.size w W1 := by rw [hW]; exact tacT
 have hz_W1 : w.heap.size ≤ W1.heap.size := by rw [hW]; exact sT
 replace kb_p : Blk W1 (w.heap.size) 35 #[.int .i64 room, .int .i64 start, .slice A l.length c, .int .i64 lv, .int .i64 ra, .int .i64 dr, .int .i64 lo, .slice R rs.length d] := by rw [hW]; exact blkT
 have hLW1_p := kb_p.lt
 replace kb_q : Blk W1 (w.heap.size + 1) 50 #[.int .i64 x, .int .i64 y, .int .i64 z] := by rw [hW]; exact blkT
 have hLW1_q := kb_q.lt
 replace kb_r : Blk W1 (w.heap.size + 2) 35 #[.int .i64 0, .int .i64 0, .slice none 0 0, .int .i64 0, .int .i64 0, .int .i64 0, .int .i64 0, .slice none 0 0] := by rw [hW]; exact blkT
 have hLW1_r := kb_r.lt
 try clear kc_p kf_p
 try clear kc_q kf_q
 try clear kc_r kf_r
 clear hW
 refine (H3.out _ hB).mono ?_
 rintro e' w1 ⟨A0, c0, R0, d0, rfl, ⟨ho1, ho2⟩, hb⟩
 have hr_e := Row2.born ho1
 have hr_s := Row2.born ho2
 clear ho1 ho2
 replace hB := hB.trans (Below.mono hb hB.size)
 have hz_w1 : W1.heap.size ≤ w1.heap.size := Below.size hb
 replace kb_p := kb_p.mv hb; obtain ⟨kb_p, kc_p, kf_p, hl_p, hn_p⟩ := kb_p
 replace kb_q := kb_q.mv hb; obtain ⟨kb_q, kc_q, kf_q, hl_q, hn_q⟩ := kb_q
 replace kb_r := kb_r.mv hb; obtain ⟨kb_r, kc_r, kf_r, hl_r, hn_r⟩ := kb_r
 clear hb
 go_wp2_with fail
 first | refine name_world ?_ | refine name_wp ?_
 intro W2 hW
 replace hB : Below w.heap.size w W2 := by rw [hW]; exact tacT
 have hz_W2 : w1.heap.size ≤ W2.heap.size := by rw [hW]; exact sT
 replace kb_p : Blk W2 (w.heap.size) 35 #[.int .i64 room, .int .i64 start, .slice A l.length c, .int .i64 lv, .int .i64 ra, .int .i64 dr, .int .i64 lo, .slice R rs.length d] := by rw [hW]; exact blkT
 have hLW2_p := kb_p.lt
 replace kb_q : Blk W2 (w.heap.size + 1) 50 #[.int .i64 x, .int .i64 y, .int .i64 z] := by rw [hW]; exact blkT
 have hLW2_q := kb_q.lt
 replace kb_r : Blk W2 (w.heap.size + 2) 35 #[.int .i64 0, .int .i64 0, .slice none 0 0, .int .i64 0, .int .i64 0, .int .i64 0, .int .i64 0, .slice none 0 0] := by rw [hW]; exact blkT
 have hLW2_r := kb_r.lt
 replace kb_s : Blk W2 (w1.heap.size) 35 #[.int .i64 room, .int .i64 start, .slice A0 l.length c0, .int .i64 lv, .int .i64 ra, .int .i64 dr, .int .i64 lo, .slice R0 rs.length d0] := by rw [hW]; exact blkT
 have hLW2_s := kb_s.lt
 replace hr_e : Row2 W2 (W1.heap.size) (w1.heap.size) 120 3 A0 (l.length) c0 (t3s l) := by rw [hW]; exact rowT
 replace hr_s : Row2 W2 (W1.heap.size) (w1.heap.size) 69 3 R0 (rs.length) d0 (t3s rs) := by rw [hW]; exact rowT
 try clear kc_p kf_p
 try clear kc_q kf_q
 try clear kc_r kf_r
 try clear kc_s kf_s
 clear hW
 refine (H1.out _ hB).mono ?_
 rintro e' w2 ⟨rfl, hb⟩
 replace hB := hB.trans (Below.mono hb hB.size)
 have hz_w2 : W2.heap.size ≤ w2.heap.size := Below.size hb
 replace kb_p := kb_p.mv hb; obtain ⟨kb_p, kc_p, kf_p, hl_p, hn_p⟩ := kb_p
 replace kb_q := kb_q.mv hb; obtain ⟨kb_q, kc_q, kf_q, hl_q, hn_q⟩ := kb_q
 replace kb_r := kb_r.mv hb; obtain ⟨kb_r, kc_r, kf_r, hl_r, hn_r⟩ := kb_r
 replace kb_s := kb_s.mv hb; obtain ⟨kb_s, kc_s, kf_s, hl_s, hn_s⟩ := kb_s
 replace hr_e := Row2.below hr_e hb (by omega)
 replace hr_s := Row2.below hr_s hb (by omega)
 clear hb
 go_wp2_with fail
 refine bodyPost_ret (v := .tuple #[.agg #[.int .i64 room, .int .i64 start, .slice A0 l.length c0, .int .i64 lv, .int .i64 ra, .int .i64 dr, .int .i64 lo, .slice R0 rs.length d0], .int .i64 (-1)]) ?_ rfl ?_
 ·simp [results, Tryz.results48, go_sem, kc_r, hl_r, hn_r, kc_s, hl_s, hn_s]
 ·exact ⟨A0, c0, R0, d0, rfl, (Row2.mono (lo := W1.heap.size) (hi := w1.heap.size) (hi' := w1.heap.size) (by exact rowT) (by omega) (Nat.le_refl _)).1, (Row2.mono (lo := W1.heap.size) (hi := w1.heap.size) (hi' := w1.heap.size) (by exact rowT) (by omega) (Nat.le_refl _)).1, by exact tacT⟩
set_option maxHeartbeats 3200000 in
theorem DoActS_a (A : Option Addr) (c : Nat) (R : Option Addr) (d : Nat) (v : Vg) (x y z : Int) (w : World) (h : RdT w w.heap.size A c v.book.evs) (h' : RdT w w.heap.size R d v.rights) (hs : v.book.evs.length + v.rights.length ≤ 1048576) (hv : villageOk v = true) (ha : actOk x y z = false) :
  Calls Tryz.prog 48 #[v.val A c R d, .agg #[.int .i64 x, .int .i64 y, .int .i64 z]] w (VgRetI (doAct v x y z) w) := by
 have hB := Below.refl w.heap.size w
 have h1 := fun (W : World) (hb : Below w.heap.size w W) => VillageOkS_any A c R d v W (h.below hb) (h'.below hb) (by omega)
 have h2 := fun (W : World) => ActOkS_any x y z W
 have h3 := fun (W : World) (hb : Below w.heap.size w W) => l38Copy_any A c R d v W (h.below hb) (h'.below hb) (by omega) (by omega)
 have hst : doAct v x y z = (v, -1) := by unfold doAct; rw [if_neg (by simp [hv, ha])]
 rw [hst]
 rw [hv] at h1
 rw [ha] at h2
 unfold VgRetI
 unfold VgOwn at h3
 unfold Vg.val at h1 h3 ⊢
 obtain ⟨⟨room, start, l, lv, ra, dr, lo⟩, rs⟩ := v
 simp only at h h' hs h1 h3 ⊢
 have H1 := Lib.hid h1
 have H2 := Lib.hid h2
 have H3 := Lib.hid h3
 clear h1 h2 h3 hst hv ha
 go_enter Tryz.func48, Tryz.ntmps48
 go_wp2_with fail
 first | refine name_world ?_ | refine name_wp ?_
 intro W1 hW
 replace hB : Below w.heap.size w W1 := by rw [hW]; exact tacT
 have hz_W1 : w.heap.size ≤ W1.heap.size := by rw [hW]; exact sT
 replace kb_p : Blk W1 (w.heap.size) 35 #[.int .i64 room, .int .i64 start, .slice A l.length c, .int .i64 lv, .int .i64 ra, .int .i64 dr, .int .i64 lo, .slice R rs.length d] := by rw [hW]; exact blkT
 have hLW1_p := kb_p.lt
 replace kb_q : Blk W1 (w.heap.size + 1) 50 #[.int .i64 x, .int .i64 y, .int .i64 z] := by rw [hW]; exact blkT
 have hLW1_q := kb_q.lt
 replace kb_r : Blk W1 (w.heap.size + 2) 35 #[.int .i64 0, .int .i64 0, .slice none 0 0, .int .i64 0, .int .i64 0, .int .i64 0, .int .i64 0, .slice none 0 0] := by rw [hW]; exact blkT
 have hLW1_r := kb_r.lt
 try clear kc_p kf_p
 try clear kc_q kf_q
 try clear kc_r kf_r
 clear hW
 refine (H3.out _ hB).mono ?_
 rintro e' w1 ⟨A0, c0, R0, d0, rfl, ⟨ho1, ho2⟩, hb⟩
 have hr_e := Row2.born ho1
 have hr_s := Row2.born ho2
 clear ho1 ho2
 replace hB := hB.trans (Below.mono hb hB.size)
 have hz_w1 : W1.heap.size ≤ w1.heap.size := Below.size hb
 replace kb_p := kb_p.mv hb; obtain ⟨kb_p, kc_p, kf_p, hl_p, hn_p⟩ := kb_p
 replace kb_q := kb_q.mv hb; obtain ⟨kb_q, kc_q, kf_q, hl_q, hn_q⟩ := kb_q
 replace kb_r := kb_r.mv hb; obtain ⟨kb_r, kc_r, kf_r, hl_r, hn_r⟩ := kb_r
 clear hb
 go_wp2_with fail
 first | refine name_world ?_ | refine name_wp ?_
 intro W2 hW
 replace hB : Below w.heap.size w W2 := by rw [hW]; exact tacT
 have hz_W2 : w1.heap.size ≤ W2.heap.size := by rw [hW]; exact sT
 replace kb_p : Blk W2 (w.heap.size) 35 #[.int .i64 room, .int .i64 start, .slice A l.length c, .int .i64 lv, .int .i64 ra, .int .i64 dr, .int .i64 lo, .slice R rs.length d] := by rw [hW]; exact blkT
 have hLW2_p := kb_p.lt
 replace kb_q : Blk W2 (w.heap.size + 1) 50 #[.int .i64 x, .int .i64 y, .int .i64 z] := by rw [hW]; exact blkT
 have hLW2_q := kb_q.lt
 replace kb_r : Blk W2 (w.heap.size + 2) 35 #[.int .i64 0, .int .i64 0, .slice none 0 0, .int .i64 0, .int .i64 0, .int .i64 0, .int .i64 0, .slice none 0 0] := by rw [hW]; exact blkT
 have hLW2_r := kb_r.lt
 replace kb_s : Blk W2 (w1.heap.size) 35 #[.int .i64 room, .int .i64 start, .slice A0 l.length c0, .int .i64 lv, .int .i64 ra, .int .i64 dr, .int .i64 lo, .slice R0 rs.length d0] := by rw [hW]; exact blkT
 have hLW2_s := kb_s.lt
 replace hr_e : Row2 W2 (W1.heap.size) (w1.heap.size) 120 3 A0 (l.length) c0 (t3s l) := by rw [hW]; exact rowT
 replace hr_s : Row2 W2 (W1.heap.size) (w1.heap.size) 69 3 R0 (rs.length) d0 (t3s rs) := by rw [hW]; exact rowT
 try clear kc_p kf_p
 try clear kc_q kf_q
 try clear kc_r kf_r
 try clear kc_s kf_s
 clear hW
 refine (H1.out _ hB).mono ?_
 rintro e' w2 ⟨rfl, hb⟩
 replace hB := hB.trans (Below.mono hb hB.size)
 have hz_w2 : W2.heap.size ≤ w2.heap.size := Below.size hb
 replace kb_p := kb_p.mv hb; obtain ⟨kb_p, kc_p, kf_p, hl_p, hn_p⟩ := kb_p
 replace kb_q := kb_q.mv hb; obtain ⟨kb_q, kc_q, kf_q, hl_q, hn_q⟩ := kb_q
 replace kb_r := kb_r.mv hb; obtain ⟨kb_r, kc_r, kf_r, hl_r, hn_r⟩ := kb_r
 replace kb_s := kb_s.mv hb; obtain ⟨kb_s, kc_s, kf_s, hl_s, hn_s⟩ := kb_s
 replace hr_e := Row2.below hr_e hb (by omega)
 replace hr_s := Row2.below hr_s hb (by omega)
 clear hb
 go_wp2_with fail
 refine (H2.out _).mono ?_
 rintro e' w3 ⟨rfl, hb⟩
 replace hB := hB.trans (Below.mono hb hB.size)
 have hz_w3 : w2.heap.size ≤ w3.heap.size := Below.size hb
 replace kb_p := kb_p.mv hb; obtain ⟨kb_p, kc_p, kf_p, hl_p, hn_p⟩ := kb_p
 replace kb_q := kb_q.mv hb; obtain ⟨kb_q, kc_q, kf_q, hl_q, hn_q⟩ := kb_q
 replace kb_r := kb_r.mv hb; obtain ⟨kb_r, kc_r, kf_r, hl_r, hn_r⟩ := kb_r
 replace kb_s := kb_s.mv hb; obtain ⟨kb_s, kc_s, kf_s, hl_s, hn_s⟩ := kb_s
 replace hr_e := Row2.below hr_e hb (by omega)
 replace hr_s := Row2.below hr_s hb (by omega)
 clear hb
 go_wp2_with fail
 refine bodyPost_ret (v := .tuple #[.agg #[.int .i64 room, .int .i64 start, .slice A0 l.length c0, .int .i64 lv, .int .i64 ra, .int .i64 dr, .int .i64 lo, .slice R0 rs.length d0], .int .i64 (-1)]) ?_ rfl ?_
 ·simp [results, Tryz.results48, go_sem, kc_r, hl_r, hn_r, kc_s, hl_s, hn_s]
 ·exact ⟨A0, c0, R0, d0, rfl, (Row2.mono (lo := W1.heap.size) (hi := w1.heap.size) (hi' := w1.heap.size) (by exact rowT) (by omega) (Nat.le_refl _)).1, (Row2.mono (lo := W1.heap.size) (hi := w1.heap.size) (hi' := w1.heap.size) (by exact rowT) (by omega) (Nat.le_refl _)).1, by exact tacT⟩
set_option maxHeartbeats 3200000 in
theorem DoActS_1 (A : Option Addr) (c : Nat) (R : Option Addr) (d : Nat) (v : Vg) (y z : Int) (w : World) (h : RdT w w.heap.size A c v.book.evs) (h' : RdT w w.heap.size R d v.rights) (hs : v.book.evs.length + v.rights.length ≤ 1048576) (hv : villageOk v = true) (ha : actOk 1 y z = true) :
  Calls Tryz.prog 48 #[v.val A c R d, .agg #[.int .i64 1, .int .i64 y, .int .i64 z]] w (VgRetI (doAct v 1 y z) w) := by
 have hB := Below.refl w.heap.size w
 have h1 := fun (W : World) (hb : Below w.heap.size w W) => VillageOkS_any A c R d v W (h.below hb) (h'.below hb) (by omega)
 have h2 := fun (W : World) => ActOkS_any 1 y z W
 have h3 := fun (W : World) (hb : Below w.heap.size w W) => l38Copy_any A c R d v W (h.below hb) (h'.below hb) (by omega) (by omega)
 have h4 := fun (W : World) (hb : Below w.heap.size w W) => RainFallsS_any A c R d v y W (h.below hb) (h'.below hb) hs
 have hst : doAct v 1 y z = bi (vEnter v ⟨1, y, 0⟩) := by unfold doAct; rw [if_pos ⟨hv, ha⟩]; rfl
 rw [hst]
 obtain ⟨⟨⟨⟨room', start', l', lv', ra', dr', lo'⟩, rs'⟩, ok⟩, hE⟩ : ∃ r, vEnter v ⟨1, y, 0⟩ = r := ⟨_, rfl⟩
 rw [hE] at h4 ⊢
 unfold bi
 unfold VgRet at h4
 obtain ⟨M, hM⟩ : ∃ M : Int, M = if ok then 1 else 0 := ⟨_, rfl⟩
 have h5 := fun (W : World) => l39Bool_any ok W
 rw [← hM] at h5
 simp only [← hM]
 rw [hv] at h1
 rw [ha] at h2
 unfold VgRetI
 unfold VgOwn at h3
 unfold Vg.val at h1 h3 h4 ⊢
 obtain ⟨⟨room, start, l, lv, ra, dr, lo⟩, rs⟩ := v
 simp only at h h' hs h1 h3 h4 ⊢
 have H1 := Lib.hid h1
 have H2 := Lib.hid h2
 have H3 := Lib.hid h3
 have H4 := Lib.hid h4
 have H5 := Lib.hid h5
 clear h1 h2 h3 h4 h5 hst hv ha hM hE
 go_enter Tryz.func48, Tryz.ntmps48
 go_wp2_with fail
 first | refine name_world ?_ | refine name_wp ?_
 intro W1 hW
 replace hB : Below w.heap.size w W1 := by rw [hW]; exact tacT
 have hz_W1 : w.heap.size ≤ W1.heap.size := by rw [hW]; exact sT
 replace kb_p : Blk W1 (w.heap.size) 35 #[.int .i64 room, .int .i64 start, .slice A l.length c, .int .i64 lv, .int .i64 ra, .int .i64 dr, .int .i64 lo, .slice R rs.length d] := by rw [hW]; exact blkT
 have hLW1_p := kb_p.lt
 replace kb_q : Blk W1 (w.heap.size + 1) 50 #[.int .i64 1, .int .i64 y, .int .i64 z] := by rw [hW]; exact blkT
 have hLW1_q := kb_q.lt
 replace kb_r : Blk W1 (w.heap.size + 2) 35 #[.int .i64 0, .int .i64 0, .slice none 0 0, .int .i64 0, .int .i64 0, .int .i64 0, .int .i64 0, .slice none 0 0] := by rw [hW]; exact blkT
 have hLW1_r := kb_r.lt
 try clear kc_p kf_p
 try clear kc_q kf_q
 try clear kc_r kf_r
 clear hW
 refine (H3.out _ hB).mono ?_
 rintro e' w1 ⟨A0, c0, R0, d0, rfl, ⟨ho1, ho2⟩, hb⟩
 have hr_e := Row2.born ho1
 have hr_s := Row2.born ho2
 clear ho1 ho2
 replace hB := hB.trans (Below.mono hb hB.size)
 have hz_w1 : W1.heap.size ≤ w1.heap.size := Below.size hb
 replace kb_p := kb_p.mv hb; obtain ⟨kb_p, kc_p, kf_p, hl_p, hn_p⟩ := kb_p
 replace kb_q := kb_q.mv hb; obtain ⟨kb_q, kc_q, kf_q, hl_q, hn_q⟩ := kb_q
 replace kb_r := kb_r.mv hb; obtain ⟨kb_r, kc_r, kf_r, hl_r, hn_r⟩ := kb_r
 clear hb
 go_wp2_with fail
 first | refine name_world ?_ | refine name_wp ?_
 intro W2 hW
 replace hB : Below w.heap.size w W2 := by rw [hW]; exact tacT
 have hz_W2 : w1.heap.size ≤ W2.heap.size := by rw [hW]; exact sT
 replace kb_p : Blk W2 (w.heap.size) 35 #[.int .i64 room, .int .i64 start, .slice A l.length c, .int .i64 lv, .int .i64 ra, .int .i64 dr, .int .i64 lo, .slice R rs.length d] := by rw [hW]; exact blkT
 have hLW2_p := kb_p.lt
 replace kb_q : Blk W2 (w.heap.size + 1) 50 #[.int .i64 1, .int .i64 y, .int .i64 z] := by rw [hW]; exact blkT
 have hLW2_q := kb_q.lt
 replace kb_r : Blk W2 (w.heap.size + 2) 35 #[.int .i64 0, .int .i64 0, .slice none 0 0, .int .i64 0, .int .i64 0, .int .i64 0, .int .i64 0, .slice none 0 0] := by rw [hW]; exact blkT
 have hLW2_r := kb_r.lt
 replace kb_s : Blk W2 (w1.heap.size) 35 #[.int .i64 room, .int .i64 start, .slice A0 l.length c0, .int .i64 lv, .int .i64 ra, .int .i64 dr, .int .i64 lo, .slice R0 rs.length d0] := by rw [hW]; exact blkT
 have hLW2_s := kb_s.lt
 replace hr_e : Row2 W2 (W1.heap.size) (w1.heap.size) 120 3 A0 (l.length) c0 (t3s l) := by rw [hW]; exact rowT
 replace hr_s : Row2 W2 (W1.heap.size) (w1.heap.size) 69 3 R0 (rs.length) d0 (t3s rs) := by rw [hW]; exact rowT
 try clear kc_p kf_p
 try clear kc_q kf_q
 try clear kc_r kf_r
 try clear kc_s kf_s
 clear hW
 refine (H1.out _ hB).mono ?_
 rintro e' w2 ⟨rfl, hb⟩
 replace hB := hB.trans (Below.mono hb hB.size)
 have hz_w2 : W2.heap.size ≤ w2.heap.size := Below.size hb
 replace kb_p := kb_p.mv hb; obtain ⟨kb_p, kc_p, kf_p, hl_p, hn_p⟩ := kb_p
 replace kb_q := kb_q.mv hb; obtain ⟨kb_q, kc_q, kf_q, hl_q, hn_q⟩ := kb_q
 replace kb_r := kb_r.mv hb; obtain ⟨kb_r, kc_r, kf_r, hl_r, hn_r⟩ := kb_r
 replace kb_s := kb_s.mv hb; obtain ⟨kb_s, kc_s, kf_s, hl_s, hn_s⟩ := kb_s
 replace hr_e := Row2.below hr_e hb (by omega)
 replace hr_s := Row2.below hr_s hb (by omega)
 clear hb
 go_wp2_with fail
 refine (H2.out _).mono ?_
 rintro e' w3 ⟨rfl, hb⟩
 replace hB := hB.trans (Below.mono hb hB.size)
 have hz_w3 : w2.heap.size ≤ w3.heap.size := Below.size hb
 replace kb_p := kb_p.mv hb; obtain ⟨kb_p, kc_p, kf_p, hl_p, hn_p⟩ := kb_p
 replace kb_q := kb_q.mv hb; obtain ⟨kb_q, kc_q, kf_q, hl_q, hn_q⟩ := kb_q
 replace kb_r := kb_r.mv hb; obtain ⟨kb_r, kc_r, kf_r, hl_r, hn_r⟩ := kb_r
 replace kb_s := kb_s.mv hb; obtain ⟨kb_s, kc_s, kf_s, hl_s, hn_s⟩ := kb_s
 replace hr_e := Row2.below hr_e hb (by omega)
 replace hr_s := Row2.below hr_s hb (by omega)
 clear hb
 go_wp2_with fail
 refine (H4.out _ hB).mono ?_
 rintro e' w4 ⟨A1, c1, R1, d1, rfl, ho1, ho2, hb⟩
 clear hr_e hr_s
 have hr_e := Row2.born ho1
 have hr_s := Row2.born ho2
 clear ho1 ho2
 replace hB := hB.trans (Below.mono hb hB.size)
 have hz_w4 : w3.heap.size ≤ w4.heap.size := Below.size hb
 replace kb_r := kb_r.mv hb; obtain ⟨kb_r, kc_r, kf_r, hl_r, hn_r⟩ := kb_r
 replace kb_s := kb_s.mv hb; obtain ⟨kb_s, kc_s, kf_s, hl_s, hn_s⟩ := kb_s
 clear hb
 go_wp2_with fail
 first | refine name_world ?_ | refine name_wp ?_
 intro W5 hW
 replace hB : Below w.heap.size w W5 := by rw [hW]; exact tacT
 have hz_W5 : w4.heap.size ≤ W5.heap.size := by rw [hW]; exact sT
 replace kb_r : Blk W5 (w.heap.size + 2) 35 #[.int .i64 0, .int .i64 0, .slice none 0 0, .int .i64 0, .int .i64 0, .int .i64 0, .int .i64 0, .slice none 0 0] := by rw [hW]; exact blkT
 have hLW5_r := kb_r.lt
 replace kb_s : Blk W5 (w1.heap.size) 35 #[.int .i64 room', .int .i64 start', .slice A1 l'.length c1, .int .i64 lv', .int .i64 ra', .int .i64 dr', .int .i64 lo', .slice R1 rs'.length d1] := by rw [hW]; exact blkT
 have hLW5_s := kb_s.lt
 replace hr_e : Row2 W5 (w3.heap.size) (w4.heap.size) 120 3 A1 (l'.length) c1 (t3s l') := by rw [hW]; exact rowT
 replace hr_s : Row2 W5 (w3.heap.size) (w4.heap.size) 69 3 R1 (rs'.length) d1 (t3s rs') := by rw [hW]; exact rowT
 try clear kc_r kf_r
 try clear kc_s kf_s
 clear hW
 have kc_s := kb_s.cells
 go_region_held3 (fun w' => w'.cell? ⟨w1.heap.size, 0, none⟩ = some (.int .i64 room') ∧ w'.cell? ⟨w1.heap.size, 1, none⟩ = some (.int .i64 start') ∧ w'.cell? ⟨w1.heap.size, 2, none⟩ = some (.slice A1 l'.length c1) ∧ w'.cell? ⟨w1.heap.size, 3, none⟩ = some (.int .i64 lv') ∧ w'.cell? ⟨w1.heap.size, 4, none⟩ = some (.int .i64 ra') ∧ w'.cell? ⟨w1.heap.size, 5, none⟩ = some (.int .i64 dr') ∧ w'.cell? ⟨w1.heap.size, 6, none⟩ = some (.int .i64 lo') ∧ w'.cell? ⟨w1.heap.size, 7, none⟩ = some (.slice R1 rs'.length d1)) (first | (with_reducible exact ⟨kc_s 0, kc_s 1, kc_s 2, kc_s 3, kc_s 4, kc_s 5, kc_s 6, kc_s 7⟩) | (refine ⟨?_, ?_, ?_, ?_, ?_, ?_, ?_, ?_⟩ <;> simp [go_sem, kc_s 0, kc_s 1, kc_s 2, kc_s 3, kc_s 4, kc_s 5, kc_s 6, kc_s 7, hLW5_s]; done) | (with_reducible exact ⟨y6_0, y6_1, y6_2, y6_3, y6_4, y6_5, y6_6, y6_7⟩) | (refine ⟨?_, ?_, ?_, ?_, ?_, ?_, ?_, ?_⟩ <;> simp [go_sem, y6_0, y6_1, y6_2, y6_3, y6_4, y6_5, y6_6, y6_7, hLW5_s, n6_0, l6_0, n6_1, l6_1, n6_2, l6_2, n6_3, l6_3, n6_4, l6_4, n6_5, l6_5, n6_6, l6_6, n6_7, l6_7]; done) | exact ⟨kc_s 0, kc_s 1, kc_s 2, kc_s 3, kc_s 4, kc_s 5, kc_s 6, kc_s 7⟩)
  (((go_at_call 85; refine (H5.out W5.drew).mono ?_; rintro e w6 ⟨rfl, hb6⟩; have hB6 : Below w.heap.size w w6 := (by exact tacT); have hz6 : W5.heap.size ≤ w6.heap.size := (by have hzz := Below.size hb6; first | omega | (simp at hzz; omega)); have l6_0 : w1.heap.size < w6.heap.size := (by omega); have n6_0 := Nat.ne_of_lt l6_0; have y6_0 : w6.cell? ⟨w1.heap.size, 0, none⟩ = some (.int .i64 room') := (Below.cell hb6 (p := ⟨w1.heap.size, 0, none⟩) (by first | (simp; done) | (simp; omega) | omega)).trans (by first | exact kc_s 0 | (simp [go_sem, kc_s 0, hLW5_s]; done)); have l6_1 : w1.heap.size < w6.heap.size := (by omega); have n6_1 := Nat.ne_of_lt l6_1; have y6_1 : w6.cell? ⟨w1.heap.size, 1, none⟩ = some (.int .i64 start') := (Below.cell hb6 (p := ⟨w1.heap.size, 1, none⟩) (by first | (simp; done) | (simp; omega) | omega)).trans (by first | exact kc_s 1 | (simp [go_sem, kc_s 1, hLW5_s]; done)); have l6_2 : w1.heap.size < w6.heap.size := (by omega); have n6_2 := Nat.ne_of_lt l6_2; have y6_2 : w6.cell? ⟨w1.heap.size, 2, none⟩ = some (.slice A1 l'.length c1) := (Below.cell hb6 (p := ⟨w1.heap.size, 2, none⟩) (by first | (simp; done) | (simp; omega) | omega)).trans (by first | exact kc_s 2 | (simp [go_sem, kc_s 2, hLW5_s]; done)); have l6_3 : w1.heap.size < w6.heap.size := (by omega); have n6_3 := Nat.ne_of_lt l6_3; have y6_3 : w6.cell? ⟨w1.heap.size, 3, none⟩ = some (.int .i64 lv') := (Below.cell hb6 (p := ⟨w1.heap.size, 3, none⟩) (by first | (simp; done) | (simp; omega) | omega)).trans (by first | exact kc_s 3 | (simp [go_sem, kc_s 3, hLW5_s]; done)); have l6_4 : w1.heap.size < w6.heap.size := (by omega); have n6_4 := Nat.ne_of_lt l6_4; have y6_4 : w6.cell? ⟨w1.heap.size, 4, none⟩ = some (.int .i64 ra') := (Below.cell hb6 (p := ⟨w1.heap.size, 4, none⟩) (by first | (simp; done) | (simp; omega) | omega)).trans (by first | exact kc_s 4 | (simp [go_sem, kc_s 4, hLW5_s]; done)); have l6_5 : w1.heap.size < w6.heap.size := (by omega); have n6_5 := Nat.ne_of_lt l6_5; have y6_5 : w6.cell? ⟨w1.heap.size, 5, none⟩ = some (.int .i64 dr') := (Below.cell hb6 (p := ⟨w1.heap.size, 5, none⟩) (by first | (simp; done) | (simp; omega) | omega)).trans (by first | exact kc_s 5 | (simp [go_sem, kc_s 5, hLW5_s]; done)); have l6_6 : w1.heap.size < w6.heap.size := (by omega); have n6_6 := Nat.ne_of_lt l6_6; have y6_6 : w6.cell? ⟨w1.heap.size, 6, none⟩ = some (.int .i64 lo') := (Below.cell hb6 (p := ⟨w1.heap.size, 6, none⟩) (by first | (simp; done) | (simp; omega) | omega)).trans (by first | exact kc_s 6 | (simp [go_sem, kc_s 6, hLW5_s]; done)); have l6_7 : w1.heap.size < w6.heap.size := (by omega); have n6_7 := Nat.ne_of_lt l6_7; have y6_7 : w6.cell? ⟨w1.heap.size, 7, none⟩ = some (.slice R1 rs'.length d1) := (Below.cell hb6 (p := ⟨w1.heap.size, 7, none⟩) (by first | (simp; done) | (simp; omega) | omega)).trans (by first | exact kc_s 7 | (simp [go_sem, kc_s 7, hLW5_s]; done)); have kb6_r : Blk w6 (w.heap.size + 2) 35 #[.int .i64 0, .int .i64 0, .slice none 0 0, .int .i64 0, .int .i64 0, .int .i64 0, .int .i64 0, .slice none 0 0] := Blk.below (by exact blkT) hb6 (by first | (simp; done) | (simp; omega) | omega); have kc6_r := kb6_r.cells; have kf6_r := kb6_r.frozens; have hl6_r := kb6_r.lt; have hn6_r := Nat.ne_of_lt hl6_r)))
 all_goals
  replace hr_e := Row2.below (Row2.drew hr_e) hb6 (by show w4.heap.size ≤ W5.heap.size; omega)
  replace hr_s := Row2.below (Row2.drew hr_s) hb6 (by show w4.heap.size ≤ W5.heap.size; omega)
  go_wp2_with fail
  refine bodyPost_ret (v := .tuple #[.agg #[.int .i64 room', .int .i64 start', .slice A1 l'.length c1, .int .i64 lv', .int .i64 ra', .int .i64 dr', .int .i64 lo', .slice R1 rs'.length d1], .int .i64 (M)]) ?_ rfl ?_
  ·simp [results, Tryz.results48, go_sem, kc6_r, hl6_r, hn6_r]
  ·exact ⟨A1, c1, R1, d1, rfl, (Row2.mono (lo := w3.heap.size) (hi := w4.heap.size) (hi' := w4.heap.size) (by exact rowT) (by omega) (Nat.le_refl _)).1, (Row2.mono (lo := w3.heap.size) (hi := w4.heap.size) (hi' := w4.heap.size) (by exact rowT) (by omega) (Nat.le_refl _)).1, by exact tacT⟩
set_option maxHeartbeats 3200000 in
theorem DoActS_2 (A : Option Addr) (c : Nat) (R : Option Addr) (d : Nat) (v : Vg) (y z : Int) (w : World) (h : RdT w w.heap.size A c v.book.evs) (h' : RdT w w.heap.size R d v.rights) (hs : v.book.evs.length + v.rights.length ≤ 1048576) (hv : villageOk v = true) (ha : actOk 2 y z = true) :
  Calls Tryz.prog 48 #[v.val A c R d, .agg #[.int .i64 2, .int .i64 y, .int .i64 z]] w (VgRetI (doAct v 2 y z) w) := by
 have hB := Below.refl w.heap.size w
 have h1 := fun (W : World) (hb : Below w.heap.size w W) => VillageOkS_any A c R d v W (h.below hb) (h'.below hb) (by omega)
 have h2 := fun (W : World) => ActOkS_any 2 y z W
 have h3 := fun (W : World) (hb : Below w.heap.size w W) => l38Copy_any A c R d v W (h.below hb) (h'.below hb) (by omega) (by omega)
 have h4 := fun (W : World) (hb : Below w.heap.size w W) => DrinkS_any A c R d v y z W (h.below hb) (h'.below hb) hs
 have hst : doAct v 2 y z = bi (vDrink v y z) := by unfold doAct; rw [if_pos ⟨hv, ha⟩]; rfl
 rw [hst]
 obtain ⟨⟨⟨⟨room', start', l', lv', ra', dr', lo'⟩, rs'⟩, ok⟩, hE⟩ : ∃ r, vDrink v y z = r := ⟨_, rfl⟩
 rw [hE] at h4 ⊢
 unfold bi
 unfold VgRet at h4
 obtain ⟨M, hM⟩ : ∃ M : Int, M = if ok then 1 else 0 := ⟨_, rfl⟩
 have h5 := fun (W : World) => l39Bool_any ok W
 rw [← hM] at h5
 simp only [← hM]
 rw [hv] at h1
 rw [ha] at h2
 unfold VgRetI
 unfold VgOwn at h3
 unfold Vg.val at h1 h3 h4 ⊢
 obtain ⟨⟨room, start, l, lv, ra, dr, lo⟩, rs⟩ := v
 simp only at h h' hs h1 h3 h4 ⊢
 have H1 := Lib.hid h1
 have H2 := Lib.hid h2
 have H3 := Lib.hid h3
 have H4 := Lib.hid h4
 have H5 := Lib.hid h5
 clear h1 h2 h3 h4 h5 hst hv ha hM hE
 go_enter Tryz.func48, Tryz.ntmps48
 go_wp2_with fail
 first | refine name_world ?_ | refine name_wp ?_
 intro W1 hW
 replace hB : Below w.heap.size w W1 := by rw [hW]; exact tacT
 have hz_W1 : w.heap.size ≤ W1.heap.size := by rw [hW]; exact sT
 replace kb_p : Blk W1 (w.heap.size) 35 #[.int .i64 room, .int .i64 start, .slice A l.length c, .int .i64 lv, .int .i64 ra, .int .i64 dr, .int .i64 lo, .slice R rs.length d] := by rw [hW]; exact blkT
 have hLW1_p := kb_p.lt
 replace kb_q : Blk W1 (w.heap.size + 1) 50 #[.int .i64 2, .int .i64 y, .int .i64 z] := by rw [hW]; exact blkT
 have hLW1_q := kb_q.lt
 replace kb_r : Blk W1 (w.heap.size + 2) 35 #[.int .i64 0, .int .i64 0, .slice none 0 0, .int .i64 0, .int .i64 0, .int .i64 0, .int .i64 0, .slice none 0 0] := by rw [hW]; exact blkT
 have hLW1_r := kb_r.lt
 try clear kc_p kf_p
 try clear kc_q kf_q
 try clear kc_r kf_r
 clear hW
 refine (H3.out _ hB).mono ?_
 rintro e' w1 ⟨A0, c0, R0, d0, rfl, ⟨ho1, ho2⟩, hb⟩
 have hr_e := Row2.born ho1
 have hr_s := Row2.born ho2
 clear ho1 ho2
 replace hB := hB.trans (Below.mono hb hB.size)
 have hz_w1 : W1.heap.size ≤ w1.heap.size := Below.size hb
 replace kb_p := kb_p.mv hb; obtain ⟨kb_p, kc_p, kf_p, hl_p, hn_p⟩ := kb_p
 replace kb_q := kb_q.mv hb; obtain ⟨kb_q, kc_q, kf_q, hl_q, hn_q⟩ := kb_q
 replace kb_r := kb_r.mv hb; obtain ⟨kb_r, kc_r, kf_r, hl_r, hn_r⟩ := kb_r
 clear hb
 go_wp2_with fail
 first | refine name_world ?_ | refine name_wp ?_
 intro W2 hW
 replace hB : Below w.heap.size w W2 := by rw [hW]; exact tacT
 have hz_W2 : w1.heap.size ≤ W2.heap.size := by rw [hW]; exact sT
 replace kb_p : Blk W2 (w.heap.size) 35 #[.int .i64 room, .int .i64 start, .slice A l.length c, .int .i64 lv, .int .i64 ra, .int .i64 dr, .int .i64 lo, .slice R rs.length d] := by rw [hW]; exact blkT
 have hLW2_p := kb_p.lt
 replace kb_q : Blk W2 (w.heap.size + 1) 50 #[.int .i64 2, .int .i64 y, .int .i64 z] := by rw [hW]; exact blkT
 have hLW2_q := kb_q.lt
 replace kb_r : Blk W2 (w.heap.size + 2) 35 #[.int .i64 0, .int .i64 0, .slice none 0 0, .int .i64 0, .int .i64 0, .int .i64 0, .int .i64 0, .slice none 0 0] := by rw [hW]; exact blkT
 have hLW2_r := kb_r.lt
 replace kb_s : Blk W2 (w1.heap.size) 35 #[.int .i64 room, .int .i64 start, .slice A0 l.length c0, .int .i64 lv, .int .i64 ra, .int .i64 dr, .int .i64 lo, .slice R0 rs.length d0] := by rw [hW]; exact blkT
 have hLW2_s := kb_s.lt
 replace hr_e : Row2 W2 (W1.heap.size) (w1.heap.size) 120 3 A0 (l.length) c0 (t3s l) := by rw [hW]; exact rowT
 replace hr_s : Row2 W2 (W1.heap.size) (w1.heap.size) 69 3 R0 (rs.length) d0 (t3s rs) := by rw [hW]; exact rowT
 try clear kc_p kf_p
 try clear kc_q kf_q
 try clear kc_r kf_r
 try clear kc_s kf_s
 clear hW
 refine (H1.out _ hB).mono ?_
 rintro e' w2 ⟨rfl, hb⟩
 replace hB := hB.trans (Below.mono hb hB.size)
 have hz_w2 : W2.heap.size ≤ w2.heap.size := Below.size hb
 replace kb_p := kb_p.mv hb; obtain ⟨kb_p, kc_p, kf_p, hl_p, hn_p⟩ := kb_p
 replace kb_q := kb_q.mv hb; obtain ⟨kb_q, kc_q, kf_q, hl_q, hn_q⟩ := kb_q
 replace kb_r := kb_r.mv hb; obtain ⟨kb_r, kc_r, kf_r, hl_r, hn_r⟩ := kb_r
 replace kb_s := kb_s.mv hb; obtain ⟨kb_s, kc_s, kf_s, hl_s, hn_s⟩ := kb_s
 replace hr_e := Row2.below hr_e hb (by omega)
 replace hr_s := Row2.below hr_s hb (by omega)
 clear hb
 go_wp2_with fail
 refine (H2.out _).mono ?_
 rintro e' w3 ⟨rfl, hb⟩
 replace hB := hB.trans (Below.mono hb hB.size)
 have hz_w3 : w2.heap.size ≤ w3.heap.size := Below.size hb
 replace kb_p := kb_p.mv hb; obtain ⟨kb_p, kc_p, kf_p, hl_p, hn_p⟩ := kb_p
 replace kb_q := kb_q.mv hb; obtain ⟨kb_q, kc_q, kf_q, hl_q, hn_q⟩ := kb_q
 replace kb_r := kb_r.mv hb; obtain ⟨kb_r, kc_r, kf_r, hl_r, hn_r⟩ := kb_r
 replace kb_s := kb_s.mv hb; obtain ⟨kb_s, kc_s, kf_s, hl_s, hn_s⟩ := kb_s
 replace hr_e := Row2.below hr_e hb (by omega)
 replace hr_s := Row2.below hr_s hb (by omega)
 clear hb
 go_wp2_with fail
 refine (H4.out _ hB).mono ?_
 rintro e' w4 ⟨A1, c1, R1, d1, rfl, ho1, ho2, hb⟩
 clear hr_e hr_s
 have hr_e := Row2.born ho1
 have hr_s := Row2.born ho2
 clear ho1 ho2
 replace hB := hB.trans (Below.mono hb hB.size)
 have hz_w4 : w3.heap.size ≤ w4.heap.size := Below.size hb
 replace kb_r := kb_r.mv hb; obtain ⟨kb_r, kc_r, kf_r, hl_r, hn_r⟩ := kb_r
 replace kb_s := kb_s.mv hb; obtain ⟨kb_s, kc_s, kf_s, hl_s, hn_s⟩ := kb_s
 clear hb
 go_wp2_with fail
 first | refine name_world ?_ | refine name_wp ?_
 intro W5 hW
 replace hB : Below w.heap.size w W5 := by rw [hW]; exact tacT
 have hz_W5 : w4.heap.size ≤ W5.heap.size := by rw [hW]; exact sT
 replace kb_r : Blk W5 (w.heap.size + 2) 35 #[.int .i64 0, .int .i64 0, .slice none 0 0, .int .i64 0, .int .i64 0, .int .i64 0, .int .i64 0, .slice none 0 0] := by rw [hW]; exact blkT
 have hLW5_r := kb_r.lt
 replace kb_s : Blk W5 (w1.heap.size) 35 #[.int .i64 room', .int .i64 start', .slice A1 l'.length c1, .int .i64 lv', .int .i64 ra', .int .i64 dr', .int .i64 lo', .slice R1 rs'.length d1] := by rw [hW]; exact blkT
 have hLW5_s := kb_s.lt
 replace hr_e : Row2 W5 (w3.heap.size) (w4.heap.size) 120 3 A1 (l'.length) c1 (t3s l') := by rw [hW]; exact rowT
 replace hr_s : Row2 W5 (w3.heap.size) (w4.heap.size) 69 3 R1 (rs'.length) d1 (t3s rs') := by rw [hW]; exact rowT
 try clear kc_r kf_r
 try clear kc_s kf_s
 clear hW
 have kc_s := kb_s.cells
 go_region_held3 (fun w' => w'.cell? ⟨w1.heap.size, 0, none⟩ = some (.int .i64 room') ∧ w'.cell? ⟨w1.heap.size, 1, none⟩ = some (.int .i64 start') ∧ w'.cell? ⟨w1.heap.size, 2, none⟩ = some (.slice A1 l'.length c1) ∧ w'.cell? ⟨w1.heap.size, 3, none⟩ = some (.int .i64 lv') ∧ w'.cell? ⟨w1.heap.size, 4, none⟩ = some (.int .i64 ra') ∧ w'.cell? ⟨w1.heap.size, 5, none⟩ = some (.int .i64 dr') ∧ w'.cell? ⟨w1.heap.size, 6, none⟩ = some (.int .i64 lo') ∧ w'.cell? ⟨w1.heap.size, 7, none⟩ = some (.slice R1 rs'.length d1)) (first | (with_reducible exact ⟨kc_s 0, kc_s 1, kc_s 2, kc_s 3, kc_s 4, kc_s 5, kc_s 6, kc_s 7⟩) | (refine ⟨?_, ?_, ?_, ?_, ?_, ?_, ?_, ?_⟩ <;> simp [go_sem, kc_s 0, kc_s 1, kc_s 2, kc_s 3, kc_s 4, kc_s 5, kc_s 6, kc_s 7, hLW5_s]; done) | (with_reducible exact ⟨y6_0, y6_1, y6_2, y6_3, y6_4, y6_5, y6_6, y6_7⟩) | (refine ⟨?_, ?_, ?_, ?_, ?_, ?_, ?_, ?_⟩ <;> simp [go_sem, y6_0, y6_1, y6_2, y6_3, y6_4, y6_5, y6_6, y6_7, hLW5_s, n6_0, l6_0, n6_1, l6_1, n6_2, l6_2, n6_3, l6_3, n6_4, l6_4, n6_5, l6_5, n6_6, l6_6, n6_7, l6_7]; done) | exact ⟨kc_s 0, kc_s 1, kc_s 2, kc_s 3, kc_s 4, kc_s 5, kc_s 6, kc_s 7⟩)
  (((go_at_call 85; refine (H5.out W5.drew).mono ?_; rintro e w6 ⟨rfl, hb6⟩; have hB6 : Below w.heap.size w w6 := (by exact tacT); have hz6 : W5.heap.size ≤ w6.heap.size := (by have hzz := Below.size hb6; first | omega | (simp at hzz; omega)); have l6_0 : w1.heap.size < w6.heap.size := (by omega); have n6_0 := Nat.ne_of_lt l6_0; have y6_0 : w6.cell? ⟨w1.heap.size, 0, none⟩ = some (.int .i64 room') := (Below.cell hb6 (p := ⟨w1.heap.size, 0, none⟩) (by first | (simp; done) | (simp; omega) | omega)).trans (by first | exact kc_s 0 | (simp [go_sem, kc_s 0, hLW5_s]; done)); have l6_1 : w1.heap.size < w6.heap.size := (by omega); have n6_1 := Nat.ne_of_lt l6_1; have y6_1 : w6.cell? ⟨w1.heap.size, 1, none⟩ = some (.int .i64 start') := (Below.cell hb6 (p := ⟨w1.heap.size, 1, none⟩) (by first | (simp; done) | (simp; omega) | omega)).trans (by first | exact kc_s 1 | (simp [go_sem, kc_s 1, hLW5_s]; done)); have l6_2 : w1.heap.size < w6.heap.size := (by omega); have n6_2 := Nat.ne_of_lt l6_2; have y6_2 : w6.cell? ⟨w1.heap.size, 2, none⟩ = some (.slice A1 l'.length c1) := (Below.cell hb6 (p := ⟨w1.heap.size, 2, none⟩) (by first | (simp; done) | (simp; omega) | omega)).trans (by first | exact kc_s 2 | (simp [go_sem, kc_s 2, hLW5_s]; done)); have l6_3 : w1.heap.size < w6.heap.size := (by omega); have n6_3 := Nat.ne_of_lt l6_3; have y6_3 : w6.cell? ⟨w1.heap.size, 3, none⟩ = some (.int .i64 lv') := (Below.cell hb6 (p := ⟨w1.heap.size, 3, none⟩) (by first | (simp; done) | (simp; omega) | omega)).trans (by first | exact kc_s 3 | (simp [go_sem, kc_s 3, hLW5_s]; done)); have l6_4 : w1.heap.size < w6.heap.size := (by omega); have n6_4 := Nat.ne_of_lt l6_4; have y6_4 : w6.cell? ⟨w1.heap.size, 4, none⟩ = some (.int .i64 ra') := (Below.cell hb6 (p := ⟨w1.heap.size, 4, none⟩) (by first | (simp; done) | (simp; omega) | omega)).trans (by first | exact kc_s 4 | (simp [go_sem, kc_s 4, hLW5_s]; done)); have l6_5 : w1.heap.size < w6.heap.size := (by omega); have n6_5 := Nat.ne_of_lt l6_5; have y6_5 : w6.cell? ⟨w1.heap.size, 5, none⟩ = some (.int .i64 dr') := (Below.cell hb6 (p := ⟨w1.heap.size, 5, none⟩) (by first | (simp; done) | (simp; omega) | omega)).trans (by first | exact kc_s 5 | (simp [go_sem, kc_s 5, hLW5_s]; done)); have l6_6 : w1.heap.size < w6.heap.size := (by omega); have n6_6 := Nat.ne_of_lt l6_6; have y6_6 : w6.cell? ⟨w1.heap.size, 6, none⟩ = some (.int .i64 lo') := (Below.cell hb6 (p := ⟨w1.heap.size, 6, none⟩) (by first | (simp; done) | (simp; omega) | omega)).trans (by first | exact kc_s 6 | (simp [go_sem, kc_s 6, hLW5_s]; done)); have l6_7 : w1.heap.size < w6.heap.size := (by omega); have n6_7 := Nat.ne_of_lt l6_7; have y6_7 : w6.cell? ⟨w1.heap.size, 7, none⟩ = some (.slice R1 rs'.length d1) := (Below.cell hb6 (p := ⟨w1.heap.size, 7, none⟩) (by first | (simp; done) | (simp; omega) | omega)).trans (by first | exact kc_s 7 | (simp [go_sem, kc_s 7, hLW5_s]; done)); have kb6_r : Blk w6 (w.heap.size + 2) 35 #[.int .i64 0, .int .i64 0, .slice none 0 0, .int .i64 0, .int .i64 0, .int .i64 0, .int .i64 0, .slice none 0 0] := Blk.below (by exact blkT) hb6 (by first | (simp; done) | (simp; omega) | omega); have kc6_r := kb6_r.cells; have kf6_r := kb6_r.frozens; have hl6_r := kb6_r.lt; have hn6_r := Nat.ne_of_lt hl6_r)))
 all_goals
  replace hr_e := Row2.below (Row2.drew hr_e) hb6 (by show w4.heap.size ≤ W5.heap.size; omega)
  replace hr_s := Row2.below (Row2.drew hr_s) hb6 (by show w4.heap.size ≤ W5.heap.size; omega)
  go_wp2_with fail
  refine bodyPost_ret (v := .tuple #[.agg #[.int .i64 room', .int .i64 start', .slice A1 l'.length c1, .int .i64 lv', .int .i64 ra', .int .i64 dr', .int .i64 lo', .slice R1 rs'.length d1], .int .i64 (M)]) ?_ rfl ?_
  ·simp [results, Tryz.results48, go_sem, kc6_r, hl6_r, hn6_r]
  ·exact ⟨A1, c1, R1, d1, rfl, (Row2.mono (lo := w3.heap.size) (hi := w4.heap.size) (hi' := w4.heap.size) (by exact rowT) (by omega) (Nat.le_refl _)).1, (Row2.mono (lo := w3.heap.size) (hi := w4.heap.size) (hi' := w4.heap.size) (by exact rowT) (by omega) (Nat.le_refl _)).1, by exact tacT⟩
set_option maxHeartbeats 3200000 in
theorem DoActS_3 (A : Option Addr) (c : Nat) (R : Option Addr) (d : Nat) (v : Vg) (y z : Int) (w : World) (h : RdT w w.heap.size A c v.book.evs) (h' : RdT w w.heap.size R d v.rights) (hs : v.book.evs.length + v.rights.length ≤ 1048576) (hv : villageOk v = true) (ha : actOk 3 y z = true) :
  Calls Tryz.prog 48 #[v.val A c R d, .agg #[.int .i64 3, .int .i64 y, .int .i64 z]] w (VgRetI (doAct v 3 y z) w) := by
 have hB := Below.refl w.heap.size w
 have h1 := fun (W : World) (hb : Below w.heap.size w W) => VillageOkS_any A c R d v W (h.below hb) (h'.below hb) (by omega)
 have h2 := fun (W : World) => ActOkS_any 3 y z W
 have h3 := fun (W : World) (hb : Below w.heap.size w W) => l38Copy_any A c R d v W (h.below hb) (h'.below hb) (by omega) (by omega)
 have h4 := fun (W : World) (hb : Below w.heap.size w W) => LeakOutS_any A c R d v y W (h.below hb) (h'.below hb) hs
 have hst : doAct v 3 y z = bi (vEnter v ⟨3, y, 0⟩) := by unfold doAct; rw [if_pos ⟨hv, ha⟩]; rfl
 rw [hst]
 obtain ⟨⟨⟨⟨room', start', l', lv', ra', dr', lo'⟩, rs'⟩, ok⟩, hE⟩ : ∃ r, vEnter v ⟨3, y, 0⟩ = r := ⟨_, rfl⟩
 rw [hE] at h4 ⊢
 unfold bi
 unfold VgRet at h4
 obtain ⟨M, hM⟩ : ∃ M : Int, M = if ok then 1 else 0 := ⟨_, rfl⟩
 have h5 := fun (W : World) => l39Bool_any ok W
 rw [← hM] at h5
 simp only [← hM]
 rw [hv] at h1
 rw [ha] at h2
 unfold VgRetI
 unfold VgOwn at h3
 unfold Vg.val at h1 h3 h4 ⊢
 obtain ⟨⟨room, start, l, lv, ra, dr, lo⟩, rs⟩ := v
 simp only at h h' hs h1 h3 h4 ⊢
 have H1 := Lib.hid h1
 have H2 := Lib.hid h2
 have H3 := Lib.hid h3
 have H4 := Lib.hid h4
 have H5 := Lib.hid h5
 clear h1 h2 h3 h4 h5 hst hv ha hM hE
 go_enter Tryz.func48, Tryz.ntmps48
 go_wp2_with fail
 first | refine name_world ?_ | refine name_wp ?_
 intro W1 hW
 replace hB : Below w.heap.size w W1 := by rw [hW]; exact tacT
 have hz_W1 : w.heap.size ≤ W1.heap.size := by rw [hW]; exact sT
 replace kb_p : Blk W1 (w.heap.size) 35 #[.int .i64 room, .int .i64 start, .slice A l.length c, .int .i64 lv, .int .i64 ra, .int .i64 dr, .int .i64 lo, .slice R rs.length d] := by rw [hW]; exact blkT
 have hLW1_p := kb_p.lt
 replace kb_q : Blk W1 (w.heap.size + 1) 50 #[.int .i64 3, .int .i64 y, .int .i64 z] := by rw [hW]; exact blkT
 have hLW1_q := kb_q.lt
 replace kb_r : Blk W1 (w.heap.size + 2) 35 #[.int .i64 0, .int .i64 0, .slice none 0 0, .int .i64 0, .int .i64 0, .int .i64 0, .int .i64 0, .slice none 0 0] := by rw [hW]; exact blkT
 have hLW1_r := kb_r.lt
 try clear kc_p kf_p
 try clear kc_q kf_q
 try clear kc_r kf_r
 clear hW
 refine (H3.out _ hB).mono ?_
 rintro e' w1 ⟨A0, c0, R0, d0, rfl, ⟨ho1, ho2⟩, hb⟩
 have hr_e := Row2.born ho1
 have hr_s := Row2.born ho2
 clear ho1 ho2
 replace hB := hB.trans (Below.mono hb hB.size)
 have hz_w1 : W1.heap.size ≤ w1.heap.size := Below.size hb
 replace kb_p := kb_p.mv hb; obtain ⟨kb_p, kc_p, kf_p, hl_p, hn_p⟩ := kb_p
 replace kb_q := kb_q.mv hb; obtain ⟨kb_q, kc_q, kf_q, hl_q, hn_q⟩ := kb_q
 replace kb_r := kb_r.mv hb; obtain ⟨kb_r, kc_r, kf_r, hl_r, hn_r⟩ := kb_r
 clear hb
 go_wp2_with fail
 first | refine name_world ?_ | refine name_wp ?_
 intro W2 hW
 replace hB : Below w.heap.size w W2 := by rw [hW]; exact tacT
 have hz_W2 : w1.heap.size ≤ W2.heap.size := by rw [hW]; exact sT
 replace kb_p : Blk W2 (w.heap.size) 35 #[.int .i64 room, .int .i64 start, .slice A l.length c, .int .i64 lv, .int .i64 ra, .int .i64 dr, .int .i64 lo, .slice R rs.length d] := by rw [hW]; exact blkT
 have hLW2_p := kb_p.lt
 replace kb_q : Blk W2 (w.heap.size + 1) 50 #[.int .i64 3, .int .i64 y, .int .i64 z] := by rw [hW]; exact blkT
 have hLW2_q := kb_q.lt
 replace kb_r : Blk W2 (w.heap.size + 2) 35 #[.int .i64 0, .int .i64 0, .slice none 0 0, .int .i64 0, .int .i64 0, .int .i64 0, .int .i64 0, .slice none 0 0] := by rw [hW]; exact blkT
 have hLW2_r := kb_r.lt
 replace kb_s : Blk W2 (w1.heap.size) 35 #[.int .i64 room, .int .i64 start, .slice A0 l.length c0, .int .i64 lv, .int .i64 ra, .int .i64 dr, .int .i64 lo, .slice R0 rs.length d0] := by rw [hW]; exact blkT
 have hLW2_s := kb_s.lt
 replace hr_e : Row2 W2 (W1.heap.size) (w1.heap.size) 120 3 A0 (l.length) c0 (t3s l) := by rw [hW]; exact rowT
 replace hr_s : Row2 W2 (W1.heap.size) (w1.heap.size) 69 3 R0 (rs.length) d0 (t3s rs) := by rw [hW]; exact rowT
 try clear kc_p kf_p
 try clear kc_q kf_q
 try clear kc_r kf_r
 try clear kc_s kf_s
 clear hW
 refine (H1.out _ hB).mono ?_
 rintro e' w2 ⟨rfl, hb⟩
 replace hB := hB.trans (Below.mono hb hB.size)
 have hz_w2 : W2.heap.size ≤ w2.heap.size := Below.size hb
 replace kb_p := kb_p.mv hb; obtain ⟨kb_p, kc_p, kf_p, hl_p, hn_p⟩ := kb_p
 replace kb_q := kb_q.mv hb; obtain ⟨kb_q, kc_q, kf_q, hl_q, hn_q⟩ := kb_q
 replace kb_r := kb_r.mv hb; obtain ⟨kb_r, kc_r, kf_r, hl_r, hn_r⟩ := kb_r
 replace kb_s := kb_s.mv hb; obtain ⟨kb_s, kc_s, kf_s, hl_s, hn_s⟩ := kb_s
 replace hr_e := Row2.below hr_e hb (by omega)
 replace hr_s := Row2.below hr_s hb (by omega)
 clear hb
 go_wp2_with fail
 refine (H2.out _).mono ?_
 rintro e' w3 ⟨rfl, hb⟩
 replace hB := hB.trans (Below.mono hb hB.size)
 have hz_w3 : w2.heap.size ≤ w3.heap.size := Below.size hb
 replace kb_p := kb_p.mv hb; obtain ⟨kb_p, kc_p, kf_p, hl_p, hn_p⟩ := kb_p
 replace kb_q := kb_q.mv hb; obtain ⟨kb_q, kc_q, kf_q, hl_q, hn_q⟩ := kb_q
 replace kb_r := kb_r.mv hb; obtain ⟨kb_r, kc_r, kf_r, hl_r, hn_r⟩ := kb_r
 replace kb_s := kb_s.mv hb; obtain ⟨kb_s, kc_s, kf_s, hl_s, hn_s⟩ := kb_s
 replace hr_e := Row2.below hr_e hb (by omega)
 replace hr_s := Row2.below hr_s hb (by omega)
 clear hb
 go_wp2_with fail
 refine (H4.out _ hB).mono ?_
 rintro e' w4 ⟨A1, c1, R1, d1, rfl, ho1, ho2, hb⟩
 clear hr_e hr_s
 have hr_e := Row2.born ho1
 have hr_s := Row2.born ho2
 clear ho1 ho2
 replace hB := hB.trans (Below.mono hb hB.size)
 have hz_w4 : w3.heap.size ≤ w4.heap.size := Below.size hb
 replace kb_r := kb_r.mv hb; obtain ⟨kb_r, kc_r, kf_r, hl_r, hn_r⟩ := kb_r
 replace kb_s := kb_s.mv hb; obtain ⟨kb_s, kc_s, kf_s, hl_s, hn_s⟩ := kb_s
 clear hb
 go_wp2_with fail
 first | refine name_world ?_ | refine name_wp ?_
 intro W5 hW
 replace hB : Below w.heap.size w W5 := by rw [hW]; exact tacT
 have hz_W5 : w4.heap.size ≤ W5.heap.size := by rw [hW]; exact sT
 replace kb_r : Blk W5 (w.heap.size + 2) 35 #[.int .i64 0, .int .i64 0, .slice none 0 0, .int .i64 0, .int .i64 0, .int .i64 0, .int .i64 0, .slice none 0 0] := by rw [hW]; exact blkT
 have hLW5_r := kb_r.lt
 replace kb_s : Blk W5 (w1.heap.size) 35 #[.int .i64 room', .int .i64 start', .slice A1 l'.length c1, .int .i64 lv', .int .i64 ra', .int .i64 dr', .int .i64 lo', .slice R1 rs'.length d1] := by rw [hW]; exact blkT
 have hLW5_s := kb_s.lt
 replace hr_e : Row2 W5 (w3.heap.size) (w4.heap.size) 120 3 A1 (l'.length) c1 (t3s l') := by rw [hW]; exact rowT
 replace hr_s : Row2 W5 (w3.heap.size) (w4.heap.size) 69 3 R1 (rs'.length) d1 (t3s rs') := by rw [hW]; exact rowT
 try clear kc_r kf_r
 try clear kc_s kf_s
 clear hW
 have kc_s := kb_s.cells
 go_region_held3 (fun w' => w'.cell? ⟨w1.heap.size, 0, none⟩ = some (.int .i64 room') ∧ w'.cell? ⟨w1.heap.size, 1, none⟩ = some (.int .i64 start') ∧ w'.cell? ⟨w1.heap.size, 2, none⟩ = some (.slice A1 l'.length c1) ∧ w'.cell? ⟨w1.heap.size, 3, none⟩ = some (.int .i64 lv') ∧ w'.cell? ⟨w1.heap.size, 4, none⟩ = some (.int .i64 ra') ∧ w'.cell? ⟨w1.heap.size, 5, none⟩ = some (.int .i64 dr') ∧ w'.cell? ⟨w1.heap.size, 6, none⟩ = some (.int .i64 lo') ∧ w'.cell? ⟨w1.heap.size, 7, none⟩ = some (.slice R1 rs'.length d1)) (first | (with_reducible exact ⟨kc_s 0, kc_s 1, kc_s 2, kc_s 3, kc_s 4, kc_s 5, kc_s 6, kc_s 7⟩) | (refine ⟨?_, ?_, ?_, ?_, ?_, ?_, ?_, ?_⟩ <;> simp [go_sem, kc_s 0, kc_s 1, kc_s 2, kc_s 3, kc_s 4, kc_s 5, kc_s 6, kc_s 7, hLW5_s]; done) | (with_reducible exact ⟨y6_0, y6_1, y6_2, y6_3, y6_4, y6_5, y6_6, y6_7⟩) | (refine ⟨?_, ?_, ?_, ?_, ?_, ?_, ?_, ?_⟩ <;> simp [go_sem, y6_0, y6_1, y6_2, y6_3, y6_4, y6_5, y6_6, y6_7, hLW5_s, n6_0, l6_0, n6_1, l6_1, n6_2, l6_2, n6_3, l6_3, n6_4, l6_4, n6_5, l6_5, n6_6, l6_6, n6_7, l6_7]; done) | exact ⟨kc_s 0, kc_s 1, kc_s 2, kc_s 3, kc_s 4, kc_s 5, kc_s 6, kc_s 7⟩)
  (((go_at_call 85; refine (H5.out W5.drew).mono ?_; rintro e w6 ⟨rfl, hb6⟩; have hB6 : Below w.heap.size w w6 := (by exact tacT); have hz6 : W5.heap.size ≤ w6.heap.size := (by have hzz := Below.size hb6; first | omega | (simp at hzz; omega)); have l6_0 : w1.heap.size < w6.heap.size := (by omega); have n6_0 := Nat.ne_of_lt l6_0; have y6_0 : w6.cell? ⟨w1.heap.size, 0, none⟩ = some (.int .i64 room') := (Below.cell hb6 (p := ⟨w1.heap.size, 0, none⟩) (by first | (simp; done) | (simp; omega) | omega)).trans (by first | exact kc_s 0 | (simp [go_sem, kc_s 0, hLW5_s]; done)); have l6_1 : w1.heap.size < w6.heap.size := (by omega); have n6_1 := Nat.ne_of_lt l6_1; have y6_1 : w6.cell? ⟨w1.heap.size, 1, none⟩ = some (.int .i64 start') := (Below.cell hb6 (p := ⟨w1.heap.size, 1, none⟩) (by first | (simp; done) | (simp; omega) | omega)).trans (by first | exact kc_s 1 | (simp [go_sem, kc_s 1, hLW5_s]; done)); have l6_2 : w1.heap.size < w6.heap.size := (by omega); have n6_2 := Nat.ne_of_lt l6_2; have y6_2 : w6.cell? ⟨w1.heap.size, 2, none⟩ = some (.slice A1 l'.length c1) := (Below.cell hb6 (p := ⟨w1.heap.size, 2, none⟩) (by first | (simp; done) | (simp; omega) | omega)).trans (by first | exact kc_s 2 | (simp [go_sem, kc_s 2, hLW5_s]; done)); have l6_3 : w1.heap.size < w6.heap.size := (by omega); have n6_3 := Nat.ne_of_lt l6_3; have y6_3 : w6.cell? ⟨w1.heap.size, 3, none⟩ = some (.int .i64 lv') := (Below.cell hb6 (p := ⟨w1.heap.size, 3, none⟩) (by first | (simp; done) | (simp; omega) | omega)).trans (by first | exact kc_s 3 | (simp [go_sem, kc_s 3, hLW5_s]; done)); have l6_4 : w1.heap.size < w6.heap.size := (by omega); have n6_4 := Nat.ne_of_lt l6_4; have y6_4 : w6.cell? ⟨w1.heap.size, 4, none⟩ = some (.int .i64 ra') := (Below.cell hb6 (p := ⟨w1.heap.size, 4, none⟩) (by first | (simp; done) | (simp; omega) | omega)).trans (by first | exact kc_s 4 | (simp [go_sem, kc_s 4, hLW5_s]; done)); have l6_5 : w1.heap.size < w6.heap.size := (by omega); have n6_5 := Nat.ne_of_lt l6_5; have y6_5 : w6.cell? ⟨w1.heap.size, 5, none⟩ = some (.int .i64 dr') := (Below.cell hb6 (p := ⟨w1.heap.size, 5, none⟩) (by first | (simp; done) | (simp; omega) | omega)).trans (by first | exact kc_s 5 | (simp [go_sem, kc_s 5, hLW5_s]; done)); have l6_6 : w1.heap.size < w6.heap.size := (by omega); have n6_6 := Nat.ne_of_lt l6_6; have y6_6 : w6.cell? ⟨w1.heap.size, 6, none⟩ = some (.int .i64 lo') := (Below.cell hb6 (p := ⟨w1.heap.size, 6, none⟩) (by first | (simp; done) | (simp; omega) | omega)).trans (by first | exact kc_s 6 | (simp [go_sem, kc_s 6, hLW5_s]; done)); have l6_7 : w1.heap.size < w6.heap.size := (by omega); have n6_7 := Nat.ne_of_lt l6_7; have y6_7 : w6.cell? ⟨w1.heap.size, 7, none⟩ = some (.slice R1 rs'.length d1) := (Below.cell hb6 (p := ⟨w1.heap.size, 7, none⟩) (by first | (simp; done) | (simp; omega) | omega)).trans (by first | exact kc_s 7 | (simp [go_sem, kc_s 7, hLW5_s]; done)); have kb6_r : Blk w6 (w.heap.size + 2) 35 #[.int .i64 0, .int .i64 0, .slice none 0 0, .int .i64 0, .int .i64 0, .int .i64 0, .int .i64 0, .slice none 0 0] := Blk.below (by exact blkT) hb6 (by first | (simp; done) | (simp; omega) | omega); have kc6_r := kb6_r.cells; have kf6_r := kb6_r.frozens; have hl6_r := kb6_r.lt; have hn6_r := Nat.ne_of_lt hl6_r)))
 all_goals
  replace hr_e := Row2.below (Row2.drew hr_e) hb6 (by show w4.heap.size ≤ W5.heap.size; omega)
  replace hr_s := Row2.below (Row2.drew hr_s) hb6 (by show w4.heap.size ≤ W5.heap.size; omega)
  go_wp2_with fail
  refine bodyPost_ret (v := .tuple #[.agg #[.int .i64 room', .int .i64 start', .slice A1 l'.length c1, .int .i64 lv', .int .i64 ra', .int .i64 dr', .int .i64 lo', .slice R1 rs'.length d1], .int .i64 (M)]) ?_ rfl ?_
  ·simp [results, Tryz.results48, go_sem, kc6_r, hl6_r, hn6_r]
  ·exact ⟨A1, c1, R1, d1, rfl, (Row2.mono (lo := w3.heap.size) (hi := w4.heap.size) (hi' := w4.heap.size) (by exact rowT) (by omega) (Nat.le_refl _)).1, (Row2.mono (lo := w3.heap.size) (hi := w4.heap.size) (hi' := w4.heap.size) (by exact rowT) (by omega) (Nat.le_refl _)).1, by exact tacT⟩
set_option maxHeartbeats 3200000 in
theorem DoActS_4 (A : Option Addr) (c : Nat) (R : Option Addr) (d : Nat) (v : Vg) (y z : Int) (w : World) (h : RdT w w.heap.size A c v.book.evs) (h' : RdT w w.heap.size R d v.rights) (hs : v.book.evs.length + v.rights.length ≤ 1048576) (hv : villageOk v = true) (ha : actOk 4 y z = true) :
  Calls Tryz.prog 48 #[v.val A c R d, .agg #[.int .i64 4, .int .i64 y, .int .i64 z]] w (VgRetI (doAct v 4 y z) w) := by
 have hB := Below.refl w.heap.size w
 have h1 := fun (W : World) (hb : Below w.heap.size w W) => VillageOkS_any A c R d v W (h.below hb) (h'.below hb) (by omega)
 have h2 := fun (W : World) => ActOkS_any 4 y z W
 have h3 := fun (W : World) (hb : Below w.heap.size w W) => l38Copy_any A c R d v W (h.below hb) (h'.below hb) (by omega) (by omega)
 have h4 := fun (W : World) (hb : Below w.heap.size w W) => SellS_any A c R d v y z 1 2 W (h.below hb) (h'.below hb) hs
 have hst : doAct v 4 y z = bi (vSell v y z 1 2) := by unfold doAct; rw [if_pos ⟨hv, ha⟩]; rfl
 rw [hst]
 obtain ⟨⟨⟨⟨room', start', l', lv', ra', dr', lo'⟩, rs'⟩, ok⟩, hE⟩ : ∃ r, vSell v y z 1 2 = r := ⟨_, rfl⟩
 rw [hE] at h4 ⊢
 unfold bi
 unfold VgRet at h4
 obtain ⟨M, hM⟩ : ∃ M : Int, M = if ok then 1 else 0 := ⟨_, rfl⟩
 have h5 := fun (W : World) => l39Bool_any ok W
 rw [← hM] at h5
 simp only [← hM]
 rw [hv] at h1
 rw [ha] at h2
 unfold VgRetI
 unfold VgOwn at h3
 unfold Vg.val at h1 h3 h4 ⊢
 obtain ⟨⟨room, start, l, lv, ra, dr, lo⟩, rs⟩ := v
 simp only at h h' hs h1 h3 h4 ⊢
 have H1 := Lib.hid h1
 have H2 := Lib.hid h2
 have H3 := Lib.hid h3
 have H4 := Lib.hid h4
 have H5 := Lib.hid h5
 clear h1 h2 h3 h4 h5 hst hv ha hM hE
 go_enter Tryz.func48, Tryz.ntmps48
 go_wp2_with fail
 first | refine name_world ?_ | refine name_wp ?_
 intro W1 hW
 replace hB : Below w.heap.size w W1 := by rw [hW]; exact tacT
 have hz_W1 : w.heap.size ≤ W1.heap.size := by rw [hW]; exact sT
 replace kb_p : Blk W1 (w.heap.size) 35 #[.int .i64 room, .int .i64 start, .slice A l.length c, .int .i64 lv, .int .i64 ra, .int .i64 dr, .int .i64 lo, .slice R rs.length d] := by rw [hW]; exact blkT
 have hLW1_p := kb_p.lt
 replace kb_q : Blk W1 (w.heap.size + 1) 50 #[.int .i64 4, .int .i64 y, .int .i64 z] := by rw [hW]; exact blkT
 have hLW1_q := kb_q.lt
 replace kb_r : Blk W1 (w.heap.size + 2) 35 #[.int .i64 0, .int .i64 0, .slice none 0 0, .int .i64 0, .int .i64 0, .int .i64 0, .int .i64 0, .slice none 0 0] := by rw [hW]; exact blkT
 have hLW1_r := kb_r.lt
 try clear kc_p kf_p
 try clear kc_q kf_q
 try clear kc_r kf_r
 clear hW
 refine (H3.out _ hB).mono ?_
 rintro e' w1 ⟨A0, c0, R0, d0, rfl, ⟨ho1, ho2⟩, hb⟩
 have hr_e := Row2.born ho1
 have hr_s := Row2.born ho2
 clear ho1 ho2
 replace hB := hB.trans (Below.mono hb hB.size)
 have hz_w1 : W1.heap.size ≤ w1.heap.size := Below.size hb
 replace kb_p := kb_p.mv hb; obtain ⟨kb_p, kc_p, kf_p, hl_p, hn_p⟩ := kb_p
 replace kb_q := kb_q.mv hb; obtain ⟨kb_q, kc_q, kf_q, hl_q, hn_q⟩ := kb_q
 replace kb_r := kb_r.mv hb; obtain ⟨kb_r, kc_r, kf_r, hl_r, hn_r⟩ := kb_r
 clear hb
 go_wp2_with fail
 first | refine name_world ?_ | refine name_wp ?_
 intro W2 hW
 replace hB : Below w.heap.size w W2 := by rw [hW]; exact tacT
 have hz_W2 : w1.heap.size ≤ W2.heap.size := by rw [hW]; exact sT
 replace kb_p : Blk W2 (w.heap.size) 35 #[.int .i64 room, .int .i64 start, .slice A l.length c, .int .i64 lv, .int .i64 ra, .int .i64 dr, .int .i64 lo, .slice R rs.length d] := by rw [hW]; exact blkT
 have hLW2_p := kb_p.lt
 replace kb_q : Blk W2 (w.heap.size + 1) 50 #[.int .i64 4, .int .i64 y, .int .i64 z] := by rw [hW]; exact blkT
 have hLW2_q := kb_q.lt
 replace kb_r : Blk W2 (w.heap.size + 2) 35 #[.int .i64 0, .int .i64 0, .slice none 0 0, .int .i64 0, .int .i64 0, .int .i64 0, .int .i64 0, .slice none 0 0] := by rw [hW]; exact blkT
 have hLW2_r := kb_r.lt
 replace kb_s : Blk W2 (w1.heap.size) 35 #[.int .i64 room, .int .i64 start, .slice A0 l.length c0, .int .i64 lv, .int .i64 ra, .int .i64 dr, .int .i64 lo, .slice R0 rs.length d0] := by rw [hW]; exact blkT
 have hLW2_s := kb_s.lt
 replace hr_e : Row2 W2 (W1.heap.size) (w1.heap.size) 120 3 A0 (l.length) c0 (t3s l) := by rw [hW]; exact rowT
 replace hr_s : Row2 W2 (W1.heap.size) (w1.heap.size) 69 3 R0 (rs.length) d0 (t3s rs) := by rw [hW]; exact rowT
 try clear kc_p kf_p
 try clear kc_q kf_q
 try clear kc_r kf_r
 try clear kc_s kf_s
 clear hW
 refine (H1.out _ hB).mono ?_
 rintro e' w2 ⟨rfl, hb⟩
 replace hB := hB.trans (Below.mono hb hB.size)
 have hz_w2 : W2.heap.size ≤ w2.heap.size := Below.size hb
 replace kb_p := kb_p.mv hb; obtain ⟨kb_p, kc_p, kf_p, hl_p, hn_p⟩ := kb_p
 replace kb_q := kb_q.mv hb; obtain ⟨kb_q, kc_q, kf_q, hl_q, hn_q⟩ := kb_q
 replace kb_r := kb_r.mv hb; obtain ⟨kb_r, kc_r, kf_r, hl_r, hn_r⟩ := kb_r
 replace kb_s := kb_s.mv hb; obtain ⟨kb_s, kc_s, kf_s, hl_s, hn_s⟩ := kb_s
 replace hr_e := Row2.below hr_e hb (by omega)
 replace hr_s := Row2.below hr_s hb (by omega)
 clear hb
 go_wp2_with fail
 refine (H2.out _).mono ?_
 rintro e' w3 ⟨rfl, hb⟩
 replace hB := hB.trans (Below.mono hb hB.size)
 have hz_w3 : w2.heap.size ≤ w3.heap.size := Below.size hb
 replace kb_p := kb_p.mv hb; obtain ⟨kb_p, kc_p, kf_p, hl_p, hn_p⟩ := kb_p
 replace kb_q := kb_q.mv hb; obtain ⟨kb_q, kc_q, kf_q, hl_q, hn_q⟩ := kb_q
 replace kb_r := kb_r.mv hb; obtain ⟨kb_r, kc_r, kf_r, hl_r, hn_r⟩ := kb_r
 replace kb_s := kb_s.mv hb; obtain ⟨kb_s, kc_s, kf_s, hl_s, hn_s⟩ := kb_s
 replace hr_e := Row2.below hr_e hb (by omega)
 replace hr_s := Row2.below hr_s hb (by omega)
 clear hb
 go_wp2_with fail
 refine (H4.out _ hB).mono ?_
 rintro e' w4 ⟨A1, c1, R1, d1, rfl, ho1, ho2, hb⟩
 clear hr_e hr_s
 have hr_e := Row2.born ho1
 have hr_s := Row2.born ho2
 clear ho1 ho2
 replace hB := hB.trans (Below.mono hb hB.size)
 have hz_w4 : w3.heap.size ≤ w4.heap.size := Below.size hb
 replace kb_r := kb_r.mv hb; obtain ⟨kb_r, kc_r, kf_r, hl_r, hn_r⟩ := kb_r
 replace kb_s := kb_s.mv hb; obtain ⟨kb_s, kc_s, kf_s, hl_s, hn_s⟩ := kb_s
 clear hb
 go_wp2_with fail
 first | refine name_world ?_ | refine name_wp ?_
 intro W5 hW
 replace hB : Below w.heap.size w W5 := by rw [hW]; exact tacT
 have hz_W5 : w4.heap.size ≤ W5.heap.size := by rw [hW]; exact sT
 replace kb_r : Blk W5 (w.heap.size + 2) 35 #[.int .i64 0, .int .i64 0, .slice none 0 0, .int .i64 0, .int .i64 0, .int .i64 0, .int .i64 0, .slice none 0 0] := by rw [hW]; exact blkT
 have hLW5_r := kb_r.lt
 replace kb_s : Blk W5 (w1.heap.size) 35 #[.int .i64 room', .int .i64 start', .slice A1 l'.length c1, .int .i64 lv', .int .i64 ra', .int .i64 dr', .int .i64 lo', .slice R1 rs'.length d1] := by rw [hW]; exact blkT
 have hLW5_s := kb_s.lt
 replace hr_e : Row2 W5 (w3.heap.size) (w4.heap.size) 120 3 A1 (l'.length) c1 (t3s l') := by rw [hW]; exact rowT
 replace hr_s : Row2 W5 (w3.heap.size) (w4.heap.size) 69 3 R1 (rs'.length) d1 (t3s rs') := by rw [hW]; exact rowT
 try clear kc_r kf_r
 try clear kc_s kf_s
 clear hW
 have kc_s := kb_s.cells
 go_region_held3 (fun w' => w'.cell? ⟨w1.heap.size, 0, none⟩ = some (.int .i64 room') ∧ w'.cell? ⟨w1.heap.size, 1, none⟩ = some (.int .i64 start') ∧ w'.cell? ⟨w1.heap.size, 2, none⟩ = some (.slice A1 l'.length c1) ∧ w'.cell? ⟨w1.heap.size, 3, none⟩ = some (.int .i64 lv') ∧ w'.cell? ⟨w1.heap.size, 4, none⟩ = some (.int .i64 ra') ∧ w'.cell? ⟨w1.heap.size, 5, none⟩ = some (.int .i64 dr') ∧ w'.cell? ⟨w1.heap.size, 6, none⟩ = some (.int .i64 lo') ∧ w'.cell? ⟨w1.heap.size, 7, none⟩ = some (.slice R1 rs'.length d1)) (first | (with_reducible exact ⟨kc_s 0, kc_s 1, kc_s 2, kc_s 3, kc_s 4, kc_s 5, kc_s 6, kc_s 7⟩) | (refine ⟨?_, ?_, ?_, ?_, ?_, ?_, ?_, ?_⟩ <;> simp [go_sem, kc_s 0, kc_s 1, kc_s 2, kc_s 3, kc_s 4, kc_s 5, kc_s 6, kc_s 7, hLW5_s]; done) | (with_reducible exact ⟨y6_0, y6_1, y6_2, y6_3, y6_4, y6_5, y6_6, y6_7⟩) | (refine ⟨?_, ?_, ?_, ?_, ?_, ?_, ?_, ?_⟩ <;> simp [go_sem, y6_0, y6_1, y6_2, y6_3, y6_4, y6_5, y6_6, y6_7, hLW5_s, n6_0, l6_0, n6_1, l6_1, n6_2, l6_2, n6_3, l6_3, n6_4, l6_4, n6_5, l6_5, n6_6, l6_6, n6_7, l6_7]; done) | exact ⟨kc_s 0, kc_s 1, kc_s 2, kc_s 3, kc_s 4, kc_s 5, kc_s 6, kc_s 7⟩)
  (((go_at_call 85; refine (H5.out W5.drew).mono ?_; rintro e w6 ⟨rfl, hb6⟩; have hB6 : Below w.heap.size w w6 := (by exact tacT); have hz6 : W5.heap.size ≤ w6.heap.size := (by have hzz := Below.size hb6; first | omega | (simp at hzz; omega)); have l6_0 : w1.heap.size < w6.heap.size := (by omega); have n6_0 := Nat.ne_of_lt l6_0; have y6_0 : w6.cell? ⟨w1.heap.size, 0, none⟩ = some (.int .i64 room') := (Below.cell hb6 (p := ⟨w1.heap.size, 0, none⟩) (by first | (simp; done) | (simp; omega) | omega)).trans (by first | exact kc_s 0 | (simp [go_sem, kc_s 0, hLW5_s]; done)); have l6_1 : w1.heap.size < w6.heap.size := (by omega); have n6_1 := Nat.ne_of_lt l6_1; have y6_1 : w6.cell? ⟨w1.heap.size, 1, none⟩ = some (.int .i64 start') := (Below.cell hb6 (p := ⟨w1.heap.size, 1, none⟩) (by first | (simp; done) | (simp; omega) | omega)).trans (by first | exact kc_s 1 | (simp [go_sem, kc_s 1, hLW5_s]; done)); have l6_2 : w1.heap.size < w6.heap.size := (by omega); have n6_2 := Nat.ne_of_lt l6_2; have y6_2 : w6.cell? ⟨w1.heap.size, 2, none⟩ = some (.slice A1 l'.length c1) := (Below.cell hb6 (p := ⟨w1.heap.size, 2, none⟩) (by first | (simp; done) | (simp; omega) | omega)).trans (by first | exact kc_s 2 | (simp [go_sem, kc_s 2, hLW5_s]; done)); have l6_3 : w1.heap.size < w6.heap.size := (by omega); have n6_3 := Nat.ne_of_lt l6_3; have y6_3 : w6.cell? ⟨w1.heap.size, 3, none⟩ = some (.int .i64 lv') := (Below.cell hb6 (p := ⟨w1.heap.size, 3, none⟩) (by first | (simp; done) | (simp; omega) | omega)).trans (by first | exact kc_s 3 | (simp [go_sem, kc_s 3, hLW5_s]; done)); have l6_4 : w1.heap.size < w6.heap.size := (by omega); have n6_4 := Nat.ne_of_lt l6_4; have y6_4 : w6.cell? ⟨w1.heap.size, 4, none⟩ = some (.int .i64 ra') := (Below.cell hb6 (p := ⟨w1.heap.size, 4, none⟩) (by first | (simp; done) | (simp; omega) | omega)).trans (by first | exact kc_s 4 | (simp [go_sem, kc_s 4, hLW5_s]; done)); have l6_5 : w1.heap.size < w6.heap.size := (by omega); have n6_5 := Nat.ne_of_lt l6_5; have y6_5 : w6.cell? ⟨w1.heap.size, 5, none⟩ = some (.int .i64 dr') := (Below.cell hb6 (p := ⟨w1.heap.size, 5, none⟩) (by first | (simp; done) | (simp; omega) | omega)).trans (by first | exact kc_s 5 | (simp [go_sem, kc_s 5, hLW5_s]; done)); have l6_6 : w1.heap.size < w6.heap.size := (by omega); have n6_6 := Nat.ne_of_lt l6_6; have y6_6 : w6.cell? ⟨w1.heap.size, 6, none⟩ = some (.int .i64 lo') := (Below.cell hb6 (p := ⟨w1.heap.size, 6, none⟩) (by first | (simp; done) | (simp; omega) | omega)).trans (by first | exact kc_s 6 | (simp [go_sem, kc_s 6, hLW5_s]; done)); have l6_7 : w1.heap.size < w6.heap.size := (by omega); have n6_7 := Nat.ne_of_lt l6_7; have y6_7 : w6.cell? ⟨w1.heap.size, 7, none⟩ = some (.slice R1 rs'.length d1) := (Below.cell hb6 (p := ⟨w1.heap.size, 7, none⟩) (by first | (simp; done) | (simp; omega) | omega)).trans (by first | exact kc_s 7 | (simp [go_sem, kc_s 7, hLW5_s]; done)); have kb6_r : Blk w6 (w.heap.size + 2) 35 #[.int .i64 0, .int .i64 0, .slice none 0 0, .int .i64 0, .int .i64 0, .int .i64 0, .int .i64 0, .slice none 0 0] := Blk.below (by exact blkT) hb6 (by first | (simp; done) | (simp; omega) | omega); have kc6_r := kb6_r.cells; have kf6_r := kb6_r.frozens; have hl6_r := kb6_r.lt; have hn6_r := Nat.ne_of_lt hl6_r)))
 all_goals
  replace hr_e := Row2.below (Row2.drew hr_e) hb6 (by show w4.heap.size ≤ W5.heap.size; omega)
  replace hr_s := Row2.below (Row2.drew hr_s) hb6 (by show w4.heap.size ≤ W5.heap.size; omega)
  go_wp2_with fail
  refine bodyPost_ret (v := .tuple #[.agg #[.int .i64 room', .int .i64 start', .slice A1 l'.length c1, .int .i64 lv', .int .i64 ra', .int .i64 dr', .int .i64 lo', .slice R1 rs'.length d1], .int .i64 (M)]) ?_ rfl ?_
  ·simp [results, Tryz.results48, go_sem, kc6_r, hl6_r, hn6_r]
  ·exact ⟨A1, c1, R1, d1, rfl, (Row2.mono (lo := w3.heap.size) (hi := w4.heap.size) (hi' := w4.heap.size) (by exact rowT) (by omega) (Nat.le_refl _)).1, (Row2.mono (lo := w3.heap.size) (hi := w4.heap.size) (hi' := w4.heap.size) (by exact rowT) (by omega) (Nat.le_refl _)).1, by exact tacT⟩
set_option maxHeartbeats 3200000 in
theorem DoActS_5 (A : Option Addr) (c : Nat) (R : Option Addr) (d : Nat) (v : Vg) (y z : Int) (w : World) (h : RdT w w.heap.size A c v.book.evs) (h' : RdT w w.heap.size R d v.rights) (hs : v.book.evs.length + v.rights.length ≤ 1048576) (hv : villageOk v = true) (ha : actOk 5 y z = true) :
  Calls Tryz.prog 48 #[v.val A c R d, .agg #[.int .i64 5, .int .i64 y, .int .i64 z]] w (VgRetI (doAct v 5 y z) w) := by
 have hB := Below.refl w.heap.size w
 have h1 := fun (W : World) (hb : Below w.heap.size w W) => VillageOkS_any A c R d v W (h.below hb) (h'.below hb) (by omega)
 have h2 := fun (W : World) => ActOkS_any 5 y z W
 have h3 := fun (W : World) (hb : Below w.heap.size w W) => l38Copy_any A c R d v W (h.below hb) (h'.below hb) (by omega) (by omega)
 have h4 := fun (W : World) (B : Option Addr) (e : Nat) (hb : Below w.heap.size w W) (hi : RdI W W.heap.size B e [z, z + 1]) => PassOnS_any A c R d v y B e [z, z + 1] W (h.below hb) (h'.below hb) hi hs
 have hz5 := actOk_5 ha
 have hwr : IntKind.i64.wrap (z + 1) = z + 1 := IntWalk.i64_in _ (by omega)
 have hst : doAct v 5 y z = bi (vPass v y [z, z + 1]) := by unfold doAct; rw [if_pos ⟨hv, ha⟩]; rfl
 rw [hst]
 obtain ⟨⟨⟨⟨room', start', l', lv', ra', dr', lo'⟩, rs'⟩, ok⟩, hE⟩ : ∃ r, vPass v y [z, z + 1] = r := ⟨_, rfl⟩
 rw [hE] at h4 ⊢
 unfold bi
 unfold VgRet at h4
 obtain ⟨M, hM⟩ : ∃ M : Int, M = if ok then 1 else 0 := ⟨_, rfl⟩
 have h5 := fun (W : World) => l39Bool_any ok W
 rw [← hM] at h5
 simp only [← hM]
 rw [hv] at h1
 rw [ha] at h2
 unfold VgRetI
 unfold VgOwn at h3
 unfold Vg.val at h1 h3 h4 ⊢
 obtain ⟨⟨room, start, l, lv, ra, dr, lo⟩, rs⟩ := v
 simp only at h h' hs h1 h3 h4 ⊢
 have H1 := Lib.hid h1
 have H2 := Lib.hid h2
 have H3 := Lib.hid h3
 have H4 := Lib.hid h4
 have H5 := Lib.hid h5
 clear h1 h2 h3 h4 h5 hst hv ha hM hE
 go_enter Tryz.func48, Tryz.ntmps48
 go_wp2_with fail
 first | refine name_world ?_ | refine name_wp ?_
 intro W1 hW
 replace hB : Below w.heap.size w W1 := by rw [hW]; exact tacT
 have hz_W1 : w.heap.size ≤ W1.heap.size := by rw [hW]; exact sT
 replace kb_p : Blk W1 (w.heap.size) 35 #[.int .i64 room, .int .i64 start, .slice A l.length c, .int .i64 lv, .int .i64 ra, .int .i64 dr, .int .i64 lo, .slice R rs.length d] := by rw [hW]; exact blkT
 have hLW1_p := kb_p.lt
 replace kb_q : Blk W1 (w.heap.size + 1) 50 #[.int .i64 5, .int .i64 y, .int .i64 z] := by rw [hW]; exact blkT
 have hLW1_q := kb_q.lt
 replace kb_r : Blk W1 (w.heap.size + 2) 35 #[.int .i64 0, .int .i64 0, .slice none 0 0, .int .i64 0, .int .i64 0, .int .i64 0, .int .i64 0, .slice none 0 0] := by rw [hW]; exact blkT
 have hLW1_r := kb_r.lt
 try clear kc_p kf_p
 try clear kc_q kf_q
 try clear kc_r kf_r
 clear hW
 refine (H3.out _ hB).mono ?_
 rintro e' w1 ⟨A0, c0, R0, d0, rfl, ⟨ho1, ho2⟩, hb⟩
 have hr_e := Row2.born ho1
 have hr_s := Row2.born ho2
 clear ho1 ho2
 replace hB := hB.trans (Below.mono hb hB.size)
 have hz_w1 : W1.heap.size ≤ w1.heap.size := Below.size hb
 replace kb_p := kb_p.mv hb; obtain ⟨kb_p, kc_p, kf_p, hl_p, hn_p⟩ := kb_p
 replace kb_q := kb_q.mv hb; obtain ⟨kb_q, kc_q, kf_q, hl_q, hn_q⟩ := kb_q
 replace kb_r := kb_r.mv hb; obtain ⟨kb_r, kc_r, kf_r, hl_r, hn_r⟩ := kb_r
 clear hb
 go_wp2_with fail
 first | refine name_world ?_ | refine name_wp ?_
 intro W2 hW
 replace hB : Below w.heap.size w W2 := by rw [hW]; exact tacT
 have hz_W2 : w1.heap.size ≤ W2.heap.size := by rw [hW]; exact sT
 replace kb_p : Blk W2 (w.heap.size) 35 #[.int .i64 room, .int .i64 start, .slice A l.length c, .int .i64 lv, .int .i64 ra, .int .i64 dr, .int .i64 lo, .slice R rs.length d] := by rw [hW]; exact blkT
 have hLW2_p := kb_p.lt
 replace kb_q : Blk W2 (w.heap.size + 1) 50 #[.int .i64 5, .int .i64 y, .int .i64 z] := by rw [hW]; exact blkT
 have hLW2_q := kb_q.lt
 replace kb_r : Blk W2 (w.heap.size + 2) 35 #[.int .i64 0, .int .i64 0, .slice none 0 0, .int .i64 0, .int .i64 0, .int .i64 0, .int .i64 0, .slice none 0 0] := by rw [hW]; exact blkT
 have hLW2_r := kb_r.lt
 replace kb_s : Blk W2 (w1.heap.size) 35 #[.int .i64 room, .int .i64 start, .slice A0 l.length c0, .int .i64 lv, .int .i64 ra, .int .i64 dr, .int .i64 lo, .slice R0 rs.length d0] := by rw [hW]; exact blkT
 have hLW2_s := kb_s.lt
 replace hr_e : Row2 W2 (W1.heap.size) (w1.heap.size) 120 3 A0 (l.length) c0 (t3s l) := by rw [hW]; exact rowT
 replace hr_s : Row2 W2 (W1.heap.size) (w1.heap.size) 69 3 R0 (rs.length) d0 (t3s rs) := by rw [hW]; exact rowT
 try clear kc_p kf_p
 try clear kc_q kf_q
 try clear kc_r kf_r
 try clear kc_s kf_s
 clear hW
 refine (H1.out _ hB).mono ?_
 rintro e' w2 ⟨rfl, hb⟩
 replace hB := hB.trans (Below.mono hb hB.size)
 have hz_w2 : W2.heap.size ≤ w2.heap.size := Below.size hb
 replace kb_p := kb_p.mv hb; obtain ⟨kb_p, kc_p, kf_p, hl_p, hn_p⟩ := kb_p
 replace kb_q := kb_q.mv hb; obtain ⟨kb_q, kc_q, kf_q, hl_q, hn_q⟩ := kb_q
 replace kb_r := kb_r.mv hb; obtain ⟨kb_r, kc_r, kf_r, hl_r, hn_r⟩ := kb_r
 replace kb_s := kb_s.mv hb; obtain ⟨kb_s, kc_s, kf_s, hl_s, hn_s⟩ := kb_s
 replace hr_e := Row2.below hr_e hb (by omega)
 replace hr_s := Row2.below hr_s hb (by omega)
 clear hb
 go_wp2_with fail
 refine (H2.out _).mono ?_
 rintro e' w3 ⟨rfl, hb⟩
 replace hB := hB.trans (Below.mono hb hB.size)
 have hz_w3 : w2.heap.size ≤ w3.heap.size := Below.size hb
 replace kb_p := kb_p.mv hb; obtain ⟨kb_p, kc_p, kf_p, hl_p, hn_p⟩ := kb_p
 replace kb_q := kb_q.mv hb; obtain ⟨kb_q, kc_q, kf_q, hl_q, hn_q⟩ := kb_q
 replace kb_r := kb_r.mv hb; obtain ⟨kb_r, kc_r, kf_r, hl_r, hn_r⟩ := kb_r
 replace kb_s := kb_s.mv hb; obtain ⟨kb_s, kc_s, kf_s, hl_s, hn_s⟩ := kb_s
 replace hr_e := Row2.below hr_e hb (by omega)
 replace hr_s := Row2.below hr_s hb (by omega)
 clear hb
 go_wp2_with fail
 (try rw [hwr])
 first | refine name_world ?_ | refine name_wp ?_
 intro W3 hW
 replace hB : Below w.heap.size w W3 := by rw [hW]; exact tacT
 have hz_W3 : w3.heap.size ≤ W3.heap.size := by rw [hW]; exact sT
 replace kb_p : Blk W3 (w.heap.size) 35 #[.int .i64 room, .int .i64 start, .slice A l.length c, .int .i64 lv, .int .i64 ra, .int .i64 dr, .int .i64 lo, .slice R rs.length d] := by rw [hW]; exact blkT
 have hLW3_p := kb_p.lt
 replace kb_q : Blk W3 (w.heap.size + 1) 50 #[.int .i64 5, .int .i64 y, .int .i64 z] := by rw [hW]; exact blkT
 have hLW3_q := kb_q.lt
 replace kb_r : Blk W3 (w.heap.size + 2) 35 #[.int .i64 0, .int .i64 0, .slice none 0 0, .int .i64 0, .int .i64 0, .int .i64 0, .int .i64 0, .slice none 0 0] := by rw [hW]; exact blkT
 have hLW3_r := kb_r.lt
 replace kb_s : Blk W3 (w1.heap.size) 35 #[.int .i64 room, .int .i64 start, .slice A0 l.length c0, .int .i64 lv, .int .i64 ra, .int .i64 dr, .int .i64 lo, .slice R0 rs.length d0] := by rw [hW]; exact blkT
 have hLW3_s := kb_s.lt
 replace kb_u : Blk W3 (w3.heap.size) 3 #[.int .i64 z, .int .i64 (z + 1)] := by rw [hW]; exact blkT
 have hLW3_u := kb_u.lt
 try clear kc_p kf_p
 try clear kc_q kf_q
 try clear kc_r kf_r
 try clear kc_s kf_s
 try clear kc_u kf_u
 clear hW
 refine (H4.out _ (some ⟨w3.heap.size, 0, none⟩) 2 hB (rd_two kb_u)).mono ?_
 rintro e' w4 ⟨A1, c1, R1, d1, rfl, ho1, ho2, hb⟩
 clear hr_e hr_s
 have hr_e := Row2.born ho1
 have hr_s := Row2.born ho2
 clear ho1 ho2
 replace hB := hB.trans (Below.mono hb hB.size)
 have hz_w4 : W3.heap.size ≤ w4.heap.size := Below.size hb
 replace kb_r := kb_r.mv hb; obtain ⟨kb_r, kc_r, kf_r, hl_r, hn_r⟩ := kb_r
 replace kb_s := kb_s.mv hb; obtain ⟨kb_s, kc_s, kf_s, hl_s, hn_s⟩ := kb_s
 clear hb
 go_wp2_with fail
 first | refine name_world ?_ | refine name_wp ?_
 intro W5 hW
 replace hB : Below w.heap.size w W5 := by rw [hW]; exact tacT
 have hz_W5 : w4.heap.size ≤ W5.heap.size := by rw [hW]; exact sT
 replace kb_r : Blk W5 (w.heap.size + 2) 35 #[.int .i64 0, .int .i64 0, .slice none 0 0, .int .i64 0, .int .i64 0, .int .i64 0, .int .i64 0, .slice none 0 0] := by rw [hW]; exact blkT
 have hLW5_r := kb_r.lt
 replace kb_s : Blk W5 (w1.heap.size) 35 #[.int .i64 room', .int .i64 start', .slice A1 l'.length c1, .int .i64 lv', .int .i64 ra', .int .i64 dr', .int .i64 lo', .slice R1 rs'.length d1] := by rw [hW]; exact blkT
 have hLW5_s := kb_s.lt
 replace hr_e : Row2 W5 (W3.heap.size) (w4.heap.size) 120 3 A1 (l'.length) c1 (t3s l') := by rw [hW]; exact rowT
 replace hr_s : Row2 W5 (W3.heap.size) (w4.heap.size) 69 3 R1 (rs'.length) d1 (t3s rs') := by rw [hW]; exact rowT
 try clear kc_r kf_r
 try clear kc_s kf_s
 clear hW
 have kc_s := kb_s.cells
 go_region_held3 (fun w' => w'.cell? ⟨w1.heap.size, 0, none⟩ = some (.int .i64 room') ∧ w'.cell? ⟨w1.heap.size, 1, none⟩ = some (.int .i64 start') ∧ w'.cell? ⟨w1.heap.size, 2, none⟩ = some (.slice A1 l'.length c1) ∧ w'.cell? ⟨w1.heap.size, 3, none⟩ = some (.int .i64 lv') ∧ w'.cell? ⟨w1.heap.size, 4, none⟩ = some (.int .i64 ra') ∧ w'.cell? ⟨w1.heap.size, 5, none⟩ = some (.int .i64 dr') ∧ w'.cell? ⟨w1.heap.size, 6, none⟩ = some (.int .i64 lo') ∧ w'.cell? ⟨w1.heap.size, 7, none⟩ = some (.slice R1 rs'.length d1)) (first | (with_reducible exact ⟨kc_s 0, kc_s 1, kc_s 2, kc_s 3, kc_s 4, kc_s 5, kc_s 6, kc_s 7⟩) | (refine ⟨?_, ?_, ?_, ?_, ?_, ?_, ?_, ?_⟩ <;> simp [go_sem, kc_s 0, kc_s 1, kc_s 2, kc_s 3, kc_s 4, kc_s 5, kc_s 6, kc_s 7, hLW5_s]; done) | (with_reducible exact ⟨y6_0, y6_1, y6_2, y6_3, y6_4, y6_5, y6_6, y6_7⟩) | (refine ⟨?_, ?_, ?_, ?_, ?_, ?_, ?_, ?_⟩ <;> simp [go_sem, y6_0, y6_1, y6_2, y6_3, y6_4, y6_5, y6_6, y6_7, hLW5_s, n6_0, l6_0, n6_1, l6_1, n6_2, l6_2, n6_3, l6_3, n6_4, l6_4, n6_5, l6_5, n6_6, l6_6, n6_7, l6_7]; done) | exact ⟨kc_s 0, kc_s 1, kc_s 2, kc_s 3, kc_s 4, kc_s 5, kc_s 6, kc_s 7⟩)
  (((go_at_call 85; refine (H5.out W5.drew).mono ?_; rintro e w6 ⟨rfl, hb6⟩; have hB6 : Below w.heap.size w w6 := (by exact tacT); have hz6 : W5.heap.size ≤ w6.heap.size := (by have hzz := Below.size hb6; first | omega | (simp at hzz; omega)); have l6_0 : w1.heap.size < w6.heap.size := (by omega); have n6_0 := Nat.ne_of_lt l6_0; have y6_0 : w6.cell? ⟨w1.heap.size, 0, none⟩ = some (.int .i64 room') := (Below.cell hb6 (p := ⟨w1.heap.size, 0, none⟩) (by first | (simp; done) | (simp; omega) | omega)).trans (by first | exact kc_s 0 | (simp [go_sem, kc_s 0, hLW5_s]; done)); have l6_1 : w1.heap.size < w6.heap.size := (by omega); have n6_1 := Nat.ne_of_lt l6_1; have y6_1 : w6.cell? ⟨w1.heap.size, 1, none⟩ = some (.int .i64 start') := (Below.cell hb6 (p := ⟨w1.heap.size, 1, none⟩) (by first | (simp; done) | (simp; omega) | omega)).trans (by first | exact kc_s 1 | (simp [go_sem, kc_s 1, hLW5_s]; done)); have l6_2 : w1.heap.size < w6.heap.size := (by omega); have n6_2 := Nat.ne_of_lt l6_2; have y6_2 : w6.cell? ⟨w1.heap.size, 2, none⟩ = some (.slice A1 l'.length c1) := (Below.cell hb6 (p := ⟨w1.heap.size, 2, none⟩) (by first | (simp; done) | (simp; omega) | omega)).trans (by first | exact kc_s 2 | (simp [go_sem, kc_s 2, hLW5_s]; done)); have l6_3 : w1.heap.size < w6.heap.size := (by omega); have n6_3 := Nat.ne_of_lt l6_3; have y6_3 : w6.cell? ⟨w1.heap.size, 3, none⟩ = some (.int .i64 lv') := (Below.cell hb6 (p := ⟨w1.heap.size, 3, none⟩) (by first | (simp; done) | (simp; omega) | omega)).trans (by first | exact kc_s 3 | (simp [go_sem, kc_s 3, hLW5_s]; done)); have l6_4 : w1.heap.size < w6.heap.size := (by omega); have n6_4 := Nat.ne_of_lt l6_4; have y6_4 : w6.cell? ⟨w1.heap.size, 4, none⟩ = some (.int .i64 ra') := (Below.cell hb6 (p := ⟨w1.heap.size, 4, none⟩) (by first | (simp; done) | (simp; omega) | omega)).trans (by first | exact kc_s 4 | (simp [go_sem, kc_s 4, hLW5_s]; done)); have l6_5 : w1.heap.size < w6.heap.size := (by omega); have n6_5 := Nat.ne_of_lt l6_5; have y6_5 : w6.cell? ⟨w1.heap.size, 5, none⟩ = some (.int .i64 dr') := (Below.cell hb6 (p := ⟨w1.heap.size, 5, none⟩) (by first | (simp; done) | (simp; omega) | omega)).trans (by first | exact kc_s 5 | (simp [go_sem, kc_s 5, hLW5_s]; done)); have l6_6 : w1.heap.size < w6.heap.size := (by omega); have n6_6 := Nat.ne_of_lt l6_6; have y6_6 : w6.cell? ⟨w1.heap.size, 6, none⟩ = some (.int .i64 lo') := (Below.cell hb6 (p := ⟨w1.heap.size, 6, none⟩) (by first | (simp; done) | (simp; omega) | omega)).trans (by first | exact kc_s 6 | (simp [go_sem, kc_s 6, hLW5_s]; done)); have l6_7 : w1.heap.size < w6.heap.size := (by omega); have n6_7 := Nat.ne_of_lt l6_7; have y6_7 : w6.cell? ⟨w1.heap.size, 7, none⟩ = some (.slice R1 rs'.length d1) := (Below.cell hb6 (p := ⟨w1.heap.size, 7, none⟩) (by first | (simp; done) | (simp; omega) | omega)).trans (by first | exact kc_s 7 | (simp [go_sem, kc_s 7, hLW5_s]; done)); have kb6_r : Blk w6 (w.heap.size + 2) 35 #[.int .i64 0, .int .i64 0, .slice none 0 0, .int .i64 0, .int .i64 0, .int .i64 0, .int .i64 0, .slice none 0 0] := Blk.below (by exact blkT) hb6 (by first | (simp; done) | (simp; omega) | omega); have kc6_r := kb6_r.cells; have kf6_r := kb6_r.frozens; have hl6_r := kb6_r.lt; have hn6_r := Nat.ne_of_lt hl6_r)))
 all_goals
  replace hr_e := Row2.below (Row2.drew hr_e) hb6 (by show w4.heap.size ≤ W5.heap.size; omega)
  replace hr_s := Row2.below (Row2.drew hr_s) hb6 (by show w4.heap.size ≤ W5.heap.size; omega)
  go_wp2_with fail
  refine bodyPost_ret (v := .tuple #[.agg #[.int .i64 room', .int .i64 start', .slice A1 l'.length c1, .int .i64 lv', .int .i64 ra', .int .i64 dr', .int .i64 lo', .slice R1 rs'.length d1], .int .i64 (M)]) ?_ rfl ?_
  ·simp [results, Tryz.results48, go_sem, kc6_r, hl6_r, hn6_r]
  ·exact ⟨A1, c1, R1, d1, rfl, (Row2.mono (lo := W3.heap.size) (hi := w4.heap.size) (hi' := w4.heap.size) (by exact rowT) (by omega) (Nat.le_refl _)).1, (Row2.mono (lo := W3.heap.size) (hi := w4.heap.size) (hi' := w4.heap.size) (by exact rowT) (by omega) (Nat.le_refl _)).1, by exact tacT⟩
set_option maxHeartbeats 3200000 in
theorem DoActS_6 (A : Option Addr) (c : Nat) (R : Option Addr) (d : Nat) (v : Vg) (y z : Int) (w : World) (h : RdT w w.heap.size A c v.book.evs) (h' : RdT w w.heap.size R d v.rights) (hs : v.book.evs.length + v.rights.length ≤ 1048576) (hv : villageOk v = true) (ha : actOk 6 y z = true) :
  Calls Tryz.prog 48 #[v.val A c R d, .agg #[.int .i64 6, .int .i64 y, .int .i64 z]] w (VgRetI (doAct v 6 y z) w) := by
 have hB := Below.refl w.heap.size w
 have h1 := fun (W : World) (hb : Below w.heap.size w W) => VillageOkS_any A c R d v W (h.below hb) (h'.below hb) (by omega)
 have h2 := fun (W : World) => ActOkS_any 6 y z W
 have h3 := fun (W : World) (hb : Below w.heap.size w W) => l38Copy_any A c R d v W (h.below hb) (h'.below hb) (by omega) (by omega)
 have h4 := fun (W : World) (hb : Below w.heap.size w W) => MayDrinkS_any A c R d v y W (h.below hb) (h'.below hb) (by omega)
 obtain ⟨M, hM⟩ : ∃ M, M = mayDrink v y := ⟨_, rfl⟩
 have hst : doAct v 6 y z = (v, M) := by unfold doAct; rw [if_pos ⟨hv, ha⟩, hM]; rfl
 rw [hst]
 rw [← hM] at h4
 rw [hv] at h1
 rw [ha] at h2
 unfold VgRetI
 unfold VgOwn at h3
 unfold Vg.val at h1 h3 h4 ⊢
 obtain ⟨⟨room, start, l, lv, ra, dr, lo⟩, rs⟩ := v
 simp only at h h' hs h1 h3 h4 ⊢
 have H1 := Lib.hid h1
 have H2 := Lib.hid h2
 have H3 := Lib.hid h3
 have H4 := Lib.hid h4
 clear h1 h2 h3 h4 hst hv ha hM
 go_enter Tryz.func48, Tryz.ntmps48
 go_wp2_with fail
 first | refine name_world ?_ | refine name_wp ?_
 intro W1 hW
 replace hB : Below w.heap.size w W1 := by rw [hW]; exact tacT
 have hz_W1 : w.heap.size ≤ W1.heap.size := by rw [hW]; exact sT
 replace kb_p : Blk W1 (w.heap.size) 35 #[.int .i64 room, .int .i64 start, .slice A l.length c, .int .i64 lv, .int .i64 ra, .int .i64 dr, .int .i64 lo, .slice R rs.length d] := by rw [hW]; exact blkT
 have hLW1_p := kb_p.lt
 replace kb_q : Blk W1 (w.heap.size + 1) 50 #[.int .i64 6, .int .i64 y, .int .i64 z] := by rw [hW]; exact blkT
 have hLW1_q := kb_q.lt
 replace kb_r : Blk W1 (w.heap.size + 2) 35 #[.int .i64 0, .int .i64 0, .slice none 0 0, .int .i64 0, .int .i64 0, .int .i64 0, .int .i64 0, .slice none 0 0] := by rw [hW]; exact blkT
 have hLW1_r := kb_r.lt
 try clear kc_p kf_p
 try clear kc_q kf_q
 try clear kc_r kf_r
 clear hW
 refine (H3.out _ hB).mono ?_
 rintro e' w1 ⟨A0, c0, R0, d0, rfl, ⟨ho1, ho2⟩, hb⟩
 have hr_e := Row2.born ho1
 have hr_s := Row2.born ho2
 clear ho1 ho2
 replace hB := hB.trans (Below.mono hb hB.size)
 have hz_w1 : W1.heap.size ≤ w1.heap.size := Below.size hb
 replace kb_p := kb_p.mv hb; obtain ⟨kb_p, kc_p, kf_p, hl_p, hn_p⟩ := kb_p
 replace kb_q := kb_q.mv hb; obtain ⟨kb_q, kc_q, kf_q, hl_q, hn_q⟩ := kb_q
 replace kb_r := kb_r.mv hb; obtain ⟨kb_r, kc_r, kf_r, hl_r, hn_r⟩ := kb_r
 clear hb
 go_wp2_with fail
 first | refine name_world ?_ | refine name_wp ?_
 intro W2 hW
 replace hB : Below w.heap.size w W2 := by rw [hW]; exact tacT
 have hz_W2 : w1.heap.size ≤ W2.heap.size := by rw [hW]; exact sT
 replace kb_p : Blk W2 (w.heap.size) 35 #[.int .i64 room, .int .i64 start, .slice A l.length c, .int .i64 lv, .int .i64 ra, .int .i64 dr, .int .i64 lo, .slice R rs.length d] := by rw [hW]; exact blkT
 have hLW2_p := kb_p.lt
 replace kb_q : Blk W2 (w.heap.size + 1) 50 #[.int .i64 6, .int .i64 y, .int .i64 z] := by rw [hW]; exact blkT
 have hLW2_q := kb_q.lt
 replace kb_r : Blk W2 (w.heap.size + 2) 35 #[.int .i64 0, .int .i64 0, .slice none 0 0, .int .i64 0, .int .i64 0, .int .i64 0, .int .i64 0, .slice none 0 0] := by rw [hW]; exact blkT
 have hLW2_r := kb_r.lt
 replace kb_s : Blk W2 (w1.heap.size) 35 #[.int .i64 room, .int .i64 start, .slice A0 l.length c0, .int .i64 lv, .int .i64 ra, .int .i64 dr, .int .i64 lo, .slice R0 rs.length d0] := by rw [hW]; exact blkT
 have hLW2_s := kb_s.lt
 replace hr_e : Row2 W2 (W1.heap.size) (w1.heap.size) 120 3 A0 (l.length) c0 (t3s l) := by rw [hW]; exact rowT
 replace hr_s : Row2 W2 (W1.heap.size) (w1.heap.size) 69 3 R0 (rs.length) d0 (t3s rs) := by rw [hW]; exact rowT
 try clear kc_p kf_p
 try clear kc_q kf_q
 try clear kc_r kf_r
 try clear kc_s kf_s
 clear hW
 refine (H1.out _ hB).mono ?_
 rintro e' w2 ⟨rfl, hb⟩
 replace hB := hB.trans (Below.mono hb hB.size)
 have hz_w2 : W2.heap.size ≤ w2.heap.size := Below.size hb
 replace kb_p := kb_p.mv hb; obtain ⟨kb_p, kc_p, kf_p, hl_p, hn_p⟩ := kb_p
 replace kb_q := kb_q.mv hb; obtain ⟨kb_q, kc_q, kf_q, hl_q, hn_q⟩ := kb_q
 replace kb_r := kb_r.mv hb; obtain ⟨kb_r, kc_r, kf_r, hl_r, hn_r⟩ := kb_r
 replace kb_s := kb_s.mv hb; obtain ⟨kb_s, kc_s, kf_s, hl_s, hn_s⟩ := kb_s
 replace hr_e := Row2.below hr_e hb (by omega)
 replace hr_s := Row2.below hr_s hb (by omega)
 clear hb
 go_wp2_with fail
 refine (H2.out _).mono ?_
 rintro e' w3 ⟨rfl, hb⟩
 replace hB := hB.trans (Below.mono hb hB.size)
 have hz_w3 : w2.heap.size ≤ w3.heap.size := Below.size hb
 replace kb_p := kb_p.mv hb; obtain ⟨kb_p, kc_p, kf_p, hl_p, hn_p⟩ := kb_p
 replace kb_q := kb_q.mv hb; obtain ⟨kb_q, kc_q, kf_q, hl_q, hn_q⟩ := kb_q
 replace kb_r := kb_r.mv hb; obtain ⟨kb_r, kc_r, kf_r, hl_r, hn_r⟩ := kb_r
 replace kb_s := kb_s.mv hb; obtain ⟨kb_s, kc_s, kf_s, hl_s, hn_s⟩ := kb_s
 replace hr_e := Row2.below hr_e hb (by omega)
 replace hr_s := Row2.below hr_s hb (by omega)
 clear hb
 go_wp2_with fail
 have hBd : Below w.heap.size w w3.drew := hB.drew
 go_region_held3 (fun w' => w'.cell? ⟨w.heap.size, 0, none⟩ = some (.int .i64 room) ∧ w'.cell? ⟨w.heap.size, 1, none⟩ = some (.int .i64 start) ∧ w'.cell? ⟨w.heap.size, 2, none⟩ = some (.slice A l.length c) ∧ w'.cell? ⟨w.heap.size, 3, none⟩ = some (.int .i64 lv) ∧ w'.cell? ⟨w.heap.size, 4, none⟩ = some (.int .i64 ra) ∧ w'.cell? ⟨w.heap.size, 5, none⟩ = some (.int .i64 dr) ∧ w'.cell? ⟨w.heap.size, 6, none⟩ = some (.int .i64 lo) ∧ w'.cell? ⟨w.heap.size, 7, none⟩ = some (.slice R rs.length d) ∧ w'.cell? ⟨w.heap.size + 1, 1, none⟩ = some (.int .i64 y) ∧ w'.cell? ⟨w1.heap.size, 0, none⟩ = some (.int .i64 room) ∧ w'.cell? ⟨w1.heap.size, 1, none⟩ = some (.int .i64 start) ∧ w'.cell? ⟨w1.heap.size, 2, none⟩ = some (.slice A0 l.length c0) ∧ w'.cell? ⟨w1.heap.size, 3, none⟩ = some (.int .i64 lv) ∧ w'.cell? ⟨w1.heap.size, 4, none⟩ = some (.int .i64 ra) ∧ w'.cell? ⟨w1.heap.size, 5, none⟩ = some (.int .i64 dr) ∧ w'.cell? ⟨w1.heap.size, 6, none⟩ = some (.int .i64 lo) ∧ w'.cell? ⟨w1.heap.size, 7, none⟩ = some (.slice R0 rs.length d0)) (first | (with_reducible exact ⟨kc_p 0, kc_p 1, kc_p 2, kc_p 3, kc_p 4, kc_p 5, kc_p 6, kc_p 7, kc_q 1, kc_s 0, kc_s 1, kc_s 2, kc_s 3, kc_s 4, kc_s 5, kc_s 6, kc_s 7⟩) | (refine ⟨?_, ?_, ?_, ?_, ?_, ?_, ?_, ?_, ?_, ?_, ?_, ?_, ?_, ?_, ?_, ?_, ?_⟩ <;> simp [go_sem, kc_p 0, kc_p 1, kc_p 2, kc_p 3, kc_p 4, kc_p 5, kc_p 6, kc_p 7, kc_q 1, kc_s 0, kc_s 1, kc_s 2, kc_s 3, kc_s 4, kc_s 5, kc_s 6, kc_s 7, hl_p, hl_q, hl_s]; done) | (with_reducible exact ⟨y5_0, y5_1, y5_2, y5_3, y5_4, y5_5, y5_6, y5_7, y5_8, y5_9, y5_10, y5_11, y5_12, y5_13, y5_14, y5_15, y5_16⟩) | (refine ⟨?_, ?_, ?_, ?_, ?_, ?_, ?_, ?_, ?_, ?_, ?_, ?_, ?_, ?_, ?_, ?_, ?_⟩ <;> simp [go_sem, y5_0, y5_1, y5_2, y5_3, y5_4, y5_5, y5_6, y5_7, y5_8, y5_9, y5_10, y5_11, y5_12, y5_13, y5_14, y5_15, y5_16, hl_p, hl_q, hl_s, n5_0, l5_0, n5_1, l5_1, n5_2, l5_2, n5_3, l5_3, n5_4, l5_4, n5_5, l5_5, n5_6, l5_6, n5_7, l5_7, n5_8, l5_8, n5_9, l5_9, n5_10, l5_10, n5_11, l5_11, n5_12, l5_12, n5_13, l5_13, n5_14, l5_14, n5_15, l5_15, n5_16, l5_16]; done) | exact ⟨kc_p 0, kc_p 1, kc_p 2, kc_p 3, kc_p 4, kc_p 5, kc_p 6, kc_p 7, kc_q 1, kc_s 0, kc_s 1, kc_s 2, kc_s 3, kc_s 4, kc_s 5, kc_s 6, kc_s 7⟩)
  (((go_at_call 52; refine (H4.out w3.drew hBd).mono ?_; rintro e w5 ⟨rfl, hb5⟩; have hB5 : Below w.heap.size w w5 := (by exact tacT); have hz5 : w3.heap.size ≤ w5.heap.size := (by have hzz := Below.size hb5; first | omega | (simp at hzz; omega)); have l5_0 : w.heap.size < w5.heap.size := (by omega); have n5_0 := Nat.ne_of_lt l5_0; have y5_0 : w5.cell? ⟨w.heap.size, 0, none⟩ = some (.int .i64 room) := (Below.cell hb5 (p := ⟨w.heap.size, 0, none⟩) (by first | (simp; done) | (simp; omega) | omega)).trans (by first | exact kc_p 0 | (simp [go_sem, kc_p 0, hl_p, hl_q, hl_s]; done)); have l5_1 : w.heap.size < w5.heap.size := (by omega); have n5_1 := Nat.ne_of_lt l5_1; have y5_1 : w5.cell? ⟨w.heap.size, 1, none⟩ = some (.int .i64 start) := (Below.cell hb5 (p := ⟨w.heap.size, 1, none⟩) (by first | (simp; done) | (simp; omega) | omega)).trans (by first | exact kc_p 1 | (simp [go_sem, kc_p 1, hl_p, hl_q, hl_s]; done)); have l5_2 : w.heap.size < w5.heap.size := (by omega); have n5_2 := Nat.ne_of_lt l5_2; have y5_2 : w5.cell? ⟨w.heap.size, 2, none⟩ = some (.slice A l.length c) := (Below.cell hb5 (p := ⟨w.heap.size, 2, none⟩) (by first | (simp; done) | (simp; omega) | omega)).trans (by first | exact kc_p 2 | (simp [go_sem, kc_p 2, hl_p, hl_q, hl_s]; done)); have l5_3 : w.heap.size < w5.heap.size := (by omega); have n5_3 := Nat.ne_of_lt l5_3; have y5_3 : w5.cell? ⟨w.heap.size, 3, none⟩ = some (.int .i64 lv) := (Below.cell hb5 (p := ⟨w.heap.size, 3, none⟩) (by first | (simp; done) | (simp; omega) | omega)).trans (by first | exact kc_p 3 | (simp [go_sem, kc_p 3, hl_p, hl_q, hl_s]; done)); have l5_4 : w.heap.size < w5.heap.size := (by omega); have n5_4 := Nat.ne_of_lt l5_4; have y5_4 : w5.cell? ⟨w.heap.size, 4, none⟩ = some (.int .i64 ra) := (Below.cell hb5 (p := ⟨w.heap.size, 4, none⟩) (by first | (simp; done) | (simp; omega) | omega)).trans (by first | exact kc_p 4 | (simp [go_sem, kc_p 4, hl_p, hl_q, hl_s]; done)); have l5_5 : w.heap.size < w5.heap.size := (by omega); have n5_5 := Nat.ne_of_lt l5_5; have y5_5 : w5.cell? ⟨w.heap.size, 5, none⟩ = some (.int .i64 dr) := (Below.cell hb5 (p := ⟨w.heap.size, 5, none⟩) (by first | (simp; done) | (simp; omega) | omega)).trans (by first | exact kc_p 5 | (simp [go_sem, kc_p 5, hl_p, hl_q, hl_s]; done)); have l5_6 : w.heap.size < w5.heap.size := (by omega); have n5_6 := Nat.ne_of_lt l5_6; have y5_6 : w5.cell? ⟨w.heap.size, 6, none⟩ = some (.int .i64 lo) := (Below.cell hb5 (p := ⟨w.heap.size, 6, none⟩) (by first | (simp; done) | (simp; omega) | omega)).trans (by first | exact kc_p 6 | (simp [go_sem, kc_p 6, hl_p, hl_q, hl_s]; done)); have l5_7 : w.heap.size < w5.heap.size := (by omega); have n5_7 := Nat.ne_of_lt l5_7; have y5_7 : w5.cell? ⟨w.heap.size, 7, none⟩ = some (.slice R rs.length d) := (Below.cell hb5 (p := ⟨w.heap.size, 7, none⟩) (by first | (simp; done) | (simp; omega) | omega)).trans (by first | exact kc_p 7 | (simp [go_sem, kc_p 7, hl_p, hl_q, hl_s]; done)); have l5_8 : w.heap.size + 1 < w5.heap.size := (by omega); have n5_8 := Nat.ne_of_lt l5_8; have y5_8 : w5.cell? ⟨w.heap.size + 1, 1, none⟩ = some (.int .i64 y) := (Below.cell hb5 (p := ⟨w.heap.size + 1, 1, none⟩) (by first | (simp; done) | (simp; omega) | omega)).trans (by first | exact kc_q 1 | (simp [go_sem, kc_q 1, hl_p, hl_q, hl_s]; done)); have l5_9 : w1.heap.size < w5.heap.size := (by omega); have n5_9 := Nat.ne_of_lt l5_9; have y5_9 : w5.cell? ⟨w1.heap.size, 0, none⟩ = some (.int .i64 room) := (Below.cell hb5 (p := ⟨w1.heap.size, 0, none⟩) (by first | (simp; done) | (simp; omega) | omega)).trans (by first | exact kc_s 0 | (simp [go_sem, kc_s 0, hl_p, hl_q, hl_s]; done)); have l5_10 : w1.heap.size < w5.heap.size := (by omega); have n5_10 := Nat.ne_of_lt l5_10; have y5_10 : w5.cell? ⟨w1.heap.size, 1, none⟩ = some (.int .i64 start) := (Below.cell hb5 (p := ⟨w1.heap.size, 1, none⟩) (by first | (simp; done) | (simp; omega) | omega)).trans (by first | exact kc_s 1 | (simp [go_sem, kc_s 1, hl_p, hl_q, hl_s]; done)); have l5_11 : w1.heap.size < w5.heap.size := (by omega); have n5_11 := Nat.ne_of_lt l5_11; have y5_11 : w5.cell? ⟨w1.heap.size, 2, none⟩ = some (.slice A0 l.length c0) := (Below.cell hb5 (p := ⟨w1.heap.size, 2, none⟩) (by first | (simp; done) | (simp; omega) | omega)).trans (by first | exact kc_s 2 | (simp [go_sem, kc_s 2, hl_p, hl_q, hl_s]; done)); have l5_12 : w1.heap.size < w5.heap.size := (by omega); have n5_12 := Nat.ne_of_lt l5_12; have y5_12 : w5.cell? ⟨w1.heap.size, 3, none⟩ = some (.int .i64 lv) := (Below.cell hb5 (p := ⟨w1.heap.size, 3, none⟩) (by first | (simp; done) | (simp; omega) | omega)).trans (by first | exact kc_s 3 | (simp [go_sem, kc_s 3, hl_p, hl_q, hl_s]; done)); have l5_13 : w1.heap.size < w5.heap.size := (by omega); have n5_13 := Nat.ne_of_lt l5_13; have y5_13 : w5.cell? ⟨w1.heap.size, 4, none⟩ = some (.int .i64 ra) := (Below.cell hb5 (p := ⟨w1.heap.size, 4, none⟩) (by first | (simp; done) | (simp; omega) | omega)).trans (by first | exact kc_s 4 | (simp [go_sem, kc_s 4, hl_p, hl_q, hl_s]; done)); have l5_14 : w1.heap.size < w5.heap.size := (by omega); have n5_14 := Nat.ne_of_lt l5_14; have y5_14 : w5.cell? ⟨w1.heap.size, 5, none⟩ = some (.int .i64 dr) := (Below.cell hb5 (p := ⟨w1.heap.size, 5, none⟩) (by first | (simp; done) | (simp; omega) | omega)).trans (by first | exact kc_s 5 | (simp [go_sem, kc_s 5, hl_p, hl_q, hl_s]; done)); have l5_15 : w1.heap.size < w5.heap.size := (by omega); have n5_15 := Nat.ne_of_lt l5_15; have y5_15 : w5.cell? ⟨w1.heap.size, 6, none⟩ = some (.int .i64 lo) := (Below.cell hb5 (p := ⟨w1.heap.size, 6, none⟩) (by first | (simp; done) | (simp; omega) | omega)).trans (by first | exact kc_s 6 | (simp [go_sem, kc_s 6, hl_p, hl_q, hl_s]; done)); have l5_16 : w1.heap.size < w5.heap.size := (by omega); have n5_16 := Nat.ne_of_lt l5_16; have y5_16 : w5.cell? ⟨w1.heap.size, 7, none⟩ = some (.slice R0 rs.length d0) := (Below.cell hb5 (p := ⟨w1.heap.size, 7, none⟩) (by first | (simp; done) | (simp; omega) | omega)).trans (by first | exact kc_s 7 | (simp [go_sem, kc_s 7, hl_p, hl_q, hl_s]; done)); have kb5_r : Blk w5 (w.heap.size + 2) 35 #[.int .i64 0, .int .i64 0, .slice none 0 0, .int .i64 0, .int .i64 0, .int .i64 0, .int .i64 0, .slice none 0 0] := Blk.below (by exact blkT) hb5 (by first | (simp; done) | (simp; omega) | omega); have kc5_r := kb5_r.cells; have kf5_r := kb5_r.frozens; have hl5_r := kb5_r.lt; have hn5_r := Nat.ne_of_lt hl5_r)))
 all_goals
  replace hr_e := Row2.below (Row2.drew hr_e) hb5 (by show w1.heap.size ≤ w3.heap.size; omega)
  replace hr_s := Row2.below (Row2.drew hr_s) hb5 (by show w1.heap.size ≤ w3.heap.size; omega)
  go_wp2_with fail
  refine bodyPost_ret (v := .tuple #[.agg #[.int .i64 room, .int .i64 start, .slice A0 l.length c0, .int .i64 lv, .int .i64 ra, .int .i64 dr, .int .i64 lo, .slice R0 rs.length d0], .int .i64 (M)]) ?_ rfl ?_
  ·simp [results, Tryz.results48, go_sem, kc5_r, hl5_r, hn5_r]
  ·exact ⟨A0, c0, R0, d0, rfl, (Row2.mono (lo := W1.heap.size) (hi := w1.heap.size) (hi' := w1.heap.size) (by exact rowT) (by omega) (Nat.le_refl _)).1, (Row2.mono (lo := W1.heap.size) (hi := w1.heap.size) (hi' := w1.heap.size) (by exact rowT) (by omega) (Nat.le_refl _)).1, by exact tacT⟩
theorem DoActS_any (A : Option Addr) (c : Nat) (R : Option Addr) (d : Nat) (v : Vg) (x y z : Int) (w : World) (h : RdT w w.heap.size A c v.book.evs) (h' : RdT w w.heap.size R d v.rights) (hs : v.book.evs.length + v.rights.length ≤ 1048576) :
  Calls Tryz.prog 48 #[v.val A c R d, .agg #[.int .i64 x, .int .i64 y, .int .i64 z]] w (VgRetI (doAct v x y z) w) := by
 cases hv : villageOk v
 ·exact DoActS_v A c R d v x y z w h h' hs hv
 cases ha : actOk x y z
 ·exact DoActS_a A c R d v x y z w h h' hs hv ha
 rcases actOk_kind ha with rfl | rfl | rfl | rfl | rfl | rfl
 ·exact DoActS_1 A c R d v y z w h h' hs hv ha
 ·exact DoActS_2 A c R d v y z w h h' hs hv ha
 ·exact DoActS_3 A c R d v y z w h h' hs hv ha
 ·exact DoActS_4 A c R d v y z w h h' hs hv ha
 ·exact DoActS_5 A c R d v y z w h h' hs hv ha
 ·exact DoActS_6 A c R d v y z w h h' hs hv ha
end
end Go.Proofs.YtpmmjhpmheooeaaGreatDoor
