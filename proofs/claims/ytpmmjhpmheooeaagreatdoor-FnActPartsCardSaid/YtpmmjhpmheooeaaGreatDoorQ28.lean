/- Texts of the proof, joined: DoActI. -/
import Derived.Test.YtpmmjhpmheooeaaGreatDoorQ27
namespace Go.Proofs.YtpmmjhpmheooeaaGreatDoor
set_option linter.unusedSimpArgs false
set_option linter.unusedVariables false
section
open Go.RowKit
set_option maxRecDepth 20000
set_option maxHeartbeats 3200000 in
theorem DoAct_v (A : Option Addr) (c : Nat) (R : Option Addr) (d : Nat) (v : Vg) (x y z : Int) (w : World) (h : RdT w w.heap.size A c v.book.evs) (h' : RdT w w.heap.size R d v.rights) (hs : v.book.evs.length + v.rights.length ≤ 1048576) (hv : villageOk v = false) :
  Calls Tryz.prog 37 #[v.val A c R d, .agg #[.int .i64 x, .int .i64 y, .int .i64 z]] w (VgRetI (doAct v x y z) w) := by
 have hB := Below.refl w.heap.size w
 have h1 := fun (W : World) (hb : Below w.heap.size w W) => VillageOk_any A c R d v W (h.below hb) (h'.below hb) (by omega)
 have h3 := fun (W : World) (hb : Below w.heap.size w W) => copyVillage_any A c R d v W (h.below hb) (h'.below hb) (by omega) (by omega)
 have hst : doAct v x y z = (v, -1) := by unfold doAct; rw [if_neg (by simp [hv])]
 rw [hst]
 rw [hv] at h1
 unfold VgRetI
 unfold VgOwn at h3
 unfold Vg.val at h1 h3 ⊢
 obtain ⟨⟨room, start, l, lv, ra, dr, lo⟩, rs⟩ := v
 simp only at h h' hs h1 h3 ⊢
 have H1 := Lib.hid h1
 have H3 := Lib.hid h3
 clear h1 h3 hst hv
 go_enter Tryz.func37, Tryz.ntmps37
 go_wp2_with fail
 first | refine name_world ?_ | refine name_wp ?_
 intro W1 hW
 replace hB : Below w.heap.size w W1 := by rw [hW]; exact tacT
 have hz_W1 : w.heap.size ≤ W1.heap.size := by rw [hW]; exact sT
 replace kb_p : Blk W1 (w.heap.size) 35 #[.int .i64 room, .int .i64 start, .slice A l.length c, .int .i64 lv, .int .i64 ra, .int .i64 dr, .int .i64 lo, .slice R rs.length d] := by rw [hW]; exact blkT
 have hLW1_p := kb_p.lt
 replace kb_q : Blk W1 (w.heap.size + 1) 50 #[.int .i64 x, .int .i64 y, .int .i64 z] := by rw [hW]; exact blkT
 have hLW1_q := kb_q.lt
 replace kb_r : Blk W1 (w.heap.size + 2) 35 #[.int .i64 0, .int .i64 0, .slice none 0 0, .int .i64 0, .int .i64 0, .int .i64 0, .int .i64 0, .slice none 0 0] := by rw [hW]; exact blkT
 have hLW1_r := kb_r.lt
 try clear kc_p kf_p
 try clear kc_q kf_q
 try clear kc_r kf_r
 clear hW
 refine (H1.out _ hB).mono ?_
 rintro e' w1 ⟨rfl, hb⟩
 replace hB := hB.trans (Below.mono hb hB.size)
 have hz_w1 : W1.heap.size ≤ w1.heap.size := Below.size hb
 replace kb_p := kb_p.mv hb; obtain ⟨kb_p, kc_p, kf_p, hl_p, hn_p⟩ := kb_p
 replace kb_q := kb_q.mv hb; obtain ⟨kb_q, kc_q, kf_q, hl_q, hn_q⟩ := kb_q
 replace kb_r := kb_r.mv hb; obtain ⟨kb_r, kc_r, kf_r, hl_r, hn_r⟩ := kb_r
 clear hb
 go_wp2_with fail
 refine (H3.out _ hB).mono ?_
 rintro e' w2 ⟨A1, c1, R1, d1, rfl, ⟨ho1, ho2⟩, hb⟩
 have hr_e := Row2.born ho1
 have hr_s := Row2.born ho2
 clear ho1 ho2
 replace hB := hB.trans (Below.mono hb hB.size)
 have hz_w2 : w1.heap.size ≤ w2.heap.size := Below.size hb
 replace kb_r := kb_r.mv hb; obtain ⟨kb_r, kc_r, kf_r, hl_r, hn_r⟩ := kb_r
 clear hb
 go_wp2_with fail
 refine bodyPost_ret (v := .tuple #[.agg #[.int .i64 room, .int .i64 start, .slice A1 l.length c1, .int .i64 lv, .int .i64 ra, .int .i64 dr, .int .i64 lo, .slice R1 rs.length d1], .int .i64 (-1)]) ?_ rfl ?_
 ·simp [results, Tryz.results37, go_sem, kc_r, hl_r, hn_r]
 ·exact ⟨A1, c1, R1, d1, rfl, (Row2.mono (lo := w1.heap.size) (hi := w2.heap.size) (hi' := w2.heap.size) (by exact rowT) (by omega) (Nat.le_refl _)).1, (Row2.mono (lo := w1.heap.size) (hi := w2.heap.size) (hi' := w2.heap.size) (by exact rowT) (by omega) (Nat.le_refl _)).1, by exact tacT⟩
set_option maxHeartbeats 3200000 in
theorem DoAct_a (A : Option Addr) (c : Nat) (R : Option Addr) (d : Nat) (v : Vg) (x y z : Int) (w : World) (h : RdT w w.heap.size A c v.book.evs) (h' : RdT w w.heap.size R d v.rights) (hs : v.book.evs.length + v.rights.length ≤ 1048576) (hv : villageOk v = true) (ha : actOk x y z = false) :
  Calls Tryz.prog 37 #[v.val A c R d, .agg #[.int .i64 x, .int .i64 y, .int .i64 z]] w (VgRetI (doAct v x y z) w) := by
 have hB := Below.refl w.heap.size w
 have h1 := fun (W : World) (hb : Below w.heap.size w W) => VillageOk_any A c R d v W (h.below hb) (h'.below hb) (by omega)
 have h2 := fun (W : World) => ActOk_any x y z W
 have h3 := fun (W : World) (hb : Below w.heap.size w W) => copyVillage_any A c R d v W (h.below hb) (h'.below hb) (by omega) (by omega)
 have hst : doAct v x y z = (v, -1) := by unfold doAct; rw [if_neg (by simp [hv, ha])]
 rw [hst]
 rw [hv] at h1
 rw [ha] at h2
 unfold VgRetI
 unfold VgOwn at h3
 unfold Vg.val at h1 h3 ⊢
 obtain ⟨⟨room, start, l, lv, ra, dr, lo⟩, rs⟩ := v
 simp only at h h' hs h1 h3 ⊢
 have H1 := Lib.hid h1
 have H2 := Lib.hid h2
 have H3 := Lib.hid h3
 clear h1 h2 h3 hst hv ha
 go_enter Tryz.func37, Tryz.ntmps37
 go_wp2_with fail
 first | refine name_world ?_ | refine name_wp ?_
 intro W1 hW
 replace hB : Below w.heap.size w W1 := by rw [hW]; exact tacT
 have hz_W1 : w.heap.size ≤ W1.heap.size := by rw [hW]; exact sT
 replace kb_p : Blk W1 (w.heap.size) 35 #[.int .i64 room, .int .i64 start, .slice A l.length c, .int .i64 lv, .int .i64 ra, .int .i64 dr, .int .i64 lo, .slice R rs.length d] := by rw [hW]; exact blkT
 have hLW1_p := kb_p.lt
 replace kb_q : Blk W1 (w.heap.size + 1) 50 #[.int .i64 x, .int .i64 y, .int .i64 z] := by rw [hW]; exact blkT
 have hLW1_q := kb_q.lt
 replace kb_r : Blk W1 (w.heap.size + 2) 35 #[.int .i64 0, .int .i64 0, .slice none 0 0, .int .i64 0, .int .i64 0, .int .i64 0, .int .i64 0, .slice none 0 0] := by rw [hW]; exact blkT
 have hLW1_r := kb_r.lt
 try clear kc_p kf_p
 try clear kc_q kf_q
 try clear kc_r kf_r
 clear hW
 refine (H1.out _ hB).mono ?_
 rintro e' w1 ⟨rfl, hb⟩
 replace hB := hB.trans (Below.mono hb hB.size)
 have hz_w1 : W1.heap.size ≤ w1.heap.size := Below.size hb
 replace kb_p := kb_p.mv hb; obtain ⟨kb_p, kc_p, kf_p, hl_p, hn_p⟩ := kb_p
 replace kb_q := kb_q.mv hb; obtain ⟨kb_q, kc_q, kf_q, hl_q, hn_q⟩ := kb_q
 replace kb_r := kb_r.mv hb; obtain ⟨kb_r, kc_r, kf_r, hl_r, hn_r⟩ := kb_r
 clear hb
 go_wp2_with fail
 refine (H2.out _).mono ?_
 rintro e' w2 ⟨rfl, hb⟩
 replace hB := hB.trans (Below.mono hb hB.size)
 have hz_w2 : w1.heap.size ≤ w2.heap.size := Below.size hb
 replace kb_p := kb_p.mv hb; obtain ⟨kb_p, kc_p, kf_p, hl_p, hn_p⟩ := kb_p
 replace kb_q := kb_q.mv hb; obtain ⟨kb_q, kc_q, kf_q, hl_q, hn_q⟩ := kb_q
 replace kb_r := kb_r.mv hb; obtain ⟨kb_r, kc_r, kf_r, hl_r, hn_r⟩ := kb_r
 clear hb
 go_wp2_with fail
 refine (H3.out _ hB).mono ?_
 rintro e' w3 ⟨A1, c1, R1, d1, rfl, ⟨ho1, ho2⟩, hb⟩
 have hr_e := Row2.born ho1
 have hr_s := Row2.born ho2
 clear ho1 ho2
 replace hB := hB.trans (Below.mono hb hB.size)
 have hz_w3 : w2.heap.size ≤ w3.heap.size := Below.size hb
 replace kb_r := kb_r.mv hb; obtain ⟨kb_r, kc_r, kf_r, hl_r, hn_r⟩ := kb_r
 clear hb
 go_wp2_with fail
 refine bodyPost_ret (v := .tuple #[.agg #[.int .i64 room, .int .i64 start, .slice A1 l.length c1, .int .i64 lv, .int .i64 ra, .int .i64 dr, .int .i64 lo, .slice R1 rs.length d1], .int .i64 (-1)]) ?_ rfl ?_
 ·simp [results, Tryz.results37, go_sem, kc_r, hl_r, hn_r]
 ·exact ⟨A1, c1, R1, d1, rfl, (Row2.mono (lo := w2.heap.size) (hi := w3.heap.size) (hi' := w3.heap.size) (by exact rowT) (by omega) (Nat.le_refl _)).1, (Row2.mono (lo := w2.heap.size) (hi := w3.heap.size) (hi' := w3.heap.size) (by exact rowT) (by omega) (Nat.le_refl _)).1, by exact tacT⟩
set_option maxHeartbeats 3200000 in
theorem DoAct_1 (A : Option Addr) (c : Nat) (R : Option Addr) (d : Nat) (v : Vg) (y z : Int) (w : World) (h : RdT w w.heap.size A c v.book.evs) (h' : RdT w w.heap.size R d v.rights) (hs : v.book.evs.length + v.rights.length ≤ 1048576) (hv : villageOk v = true) (ha : actOk 1 y z = true) :
  Calls Tryz.prog 37 #[v.val A c R d, .agg #[.int .i64 1, .int .i64 y, .int .i64 z]] w (VgRetI (doAct v 1 y z) w) := by
 have hB := Below.refl w.heap.size w
 have h1 := fun (W : World) (hb : Below w.heap.size w W) => VillageOk_any A c R d v W (h.below hb) (h'.below hb) (by omega)
 have h2 := fun (W : World) => ActOk_any 1 y z W
 have h4 := fun (W : World) (hb : Below w.heap.size w W) => RainFalls_any A c R d v y W (h.below hb) (h'.below hb) hs
 have hst : doAct v 1 y z = bi (vEnter v ⟨1, y, 0⟩) := by unfold doAct; rw [if_pos ⟨hv, ha⟩]; rfl
 rw [hst]
 obtain ⟨⟨⟨⟨room', start', l', lv', ra', dr', lo'⟩, rs'⟩, ok⟩, hE⟩ : ∃ r, vEnter v ⟨1, y, 0⟩ = r := ⟨_, rfl⟩
 rw [hE] at h4 ⊢
 unfold bi
 unfold VgRet at h4
 rw [hv] at h1
 rw [ha] at h2
 unfold VgRetI
 unfold Vg.val at h1 h4 ⊢
 obtain ⟨⟨room, start, l, lv, ra, dr, lo⟩, rs⟩ := v
 simp only at h h' hs h1 h4 ⊢
 have H1 := Lib.hid h1
 have H2 := Lib.hid h2
 have H4 := Lib.hid h4
 clear h1 h2 h4 hst hv ha hE
 go_enter Tryz.func37, Tryz.ntmps37
 go_wp2_with fail
 first | refine name_world ?_ | refine name_wp ?_
 intro W1 hW
 replace hB : Below w.heap.size w W1 := by rw [hW]; exact tacT
 have hz_W1 : w.heap.size ≤ W1.heap.size := by rw [hW]; exact sT
 replace kb_p : Blk W1 (w.heap.size) 35 #[.int .i64 room, .int .i64 start, .slice A l.length c, .int .i64 lv, .int .i64 ra, .int .i64 dr, .int .i64 lo, .slice R rs.length d] := by rw [hW]; exact blkT
 have hLW1_p := kb_p.lt
 replace kb_q : Blk W1 (w.heap.size + 1) 50 #[.int .i64 1, .int .i64 y, .int .i64 z] := by rw [hW]; exact blkT
 have hLW1_q := kb_q.lt
 replace kb_r : Blk W1 (w.heap.size + 2) 35 #[.int .i64 0, .int .i64 0, .slice none 0 0, .int .i64 0, .int .i64 0, .int .i64 0, .int .i64 0, .slice none 0 0] := by rw [hW]; exact blkT
 have hLW1_r := kb_r.lt
 try clear kc_p kf_p
 try clear kc_q kf_q
 try clear kc_r kf_r
 clear hW
 refine (H1.out _ hB).mono ?_
 rintro e' w1 ⟨rfl, hb⟩
 replace hB := hB.trans (Below.mono hb hB.size)
 have hz_w1 : W1.heap.size ≤ w1.heap.size := Below.size hb
 replace kb_p := kb_p.mv hb; obtain ⟨kb_p, kc_p, kf_p, hl_p, hn_p⟩ := kb_p
 replace kb_q := kb_q.mv hb; obtain ⟨kb_q, kc_q, kf_q, hl_q, hn_q⟩ := kb_q
 replace kb_r := kb_r.mv hb; obtain ⟨kb_r, kc_r, kf_r, hl_r, hn_r⟩ := kb_r
 clear hb
 go_wp2_with fail
 refine (H2.out _).mono ?_
 rintro e' w2 ⟨rfl, hb⟩
 replace hB := hB.trans (Below.mono hb hB.size)
 have hz_w2 : w1.heap.size ≤ w2.heap.size := Below.size hb
 replace kb_p := kb_p.mv hb; obtain ⟨kb_p, kc_p, kf_p, hl_p, hn_p⟩ := kb_p
 replace kb_q := kb_q.mv hb; obtain ⟨kb_q, kc_q, kf_q, hl_q, hn_q⟩ := kb_q
 replace kb_r := kb_r.mv hb; obtain ⟨kb_r, kc_r, kf_r, hl_r, hn_r⟩ := kb_r
 clear hb
 go_wp2_with fail
 first | refine name_world ?_ | refine name_wp ?_
 intro W3 hW
 replace hB : Below w.heap.size w W3 := by rw [hW]; exact tacT
 have hz_W3 : w2.heap.size ≤ W3.heap.size := by rw [hW]; exact sT
 replace kb_p : Blk W3 (w.heap.size) 35 #[.int .i64 room, .int .i64 start, .slice A l.length c, .int .i64 lv, .int .i64 ra, .int .i64 dr, .int .i64 lo, .slice R rs.length d] := by rw [hW]; exact blkT
 have hLW3_p := kb_p.lt
 replace kb_q : Blk W3 (w.heap.size + 1) 50 #[.int .i64 1, .int .i64 y, .int .i64 z] := by rw [hW]; exact blkT
 have hLW3_q := kb_q.lt
 replace kb_r : Blk W3 (w.heap.size + 2) 35 #[.int .i64 0, .int .i64 0, .slice none 0 0, .int .i64 0, .int .i64 0, .int .i64 0, .int .i64 0, .slice none 0 0] := by rw [hW]; exact blkT
 have hLW3_r := kb_r.lt
 replace kb_s : Blk W3 (w2.heap.size) 35 #[.int .i64 0, .int .i64 0, .slice none 0 0, .int .i64 0, .int .i64 0, .int .i64 0, .int .i64 0, .slice none 0 0] := by rw [hW]; exact blkT
 have hLW3_s := kb_s.lt
 try clear kc_p kf_p
 try clear kc_q kf_q
 try clear kc_r kf_r
 try clear kc_s kf_s
 clear hW
 refine (H4.out _ hB).mono ?_
 rintro e' w3 ⟨A1, c1, R1, d1, rfl, ho1, ho2, hb⟩
 have hr_e := Row2.born ho1
 have hr_s := Row2.born ho2
 clear ho1 ho2
 replace hB := hB.trans (Below.mono hb hB.size)
 have hz_w3 : W3.heap.size ≤ w3.heap.size := Below.size hb
 replace kb_r := kb_r.mv hb; obtain ⟨kb_r, kc_r, kf_r, hl_r, hn_r⟩ := kb_r
 replace kb_s := kb_s.mv hb; obtain ⟨kb_s, kc_s, kf_s, hl_s, hn_s⟩ := kb_s
 clear hb
 cases ok
 ·go_wp2_with fail
  refine bodyPost_ret (v := .tuple #[.agg #[.int .i64 room', .int .i64 start', .slice A1 l'.length c1, .int .i64 lv', .int .i64 ra', .int .i64 dr', .int .i64 lo', .slice R1 rs'.length d1], .int .i64 (0)]) ?_ rfl ?_
  ·simp [results, Tryz.results37, go_sem, kc_r, kc_s, hl_r, hn_r, hl_s, hn_s]
  ·exact ⟨A1, c1, R1, d1, rfl, (Row2.mono (lo := W3.heap.size) (hi := w3.heap.size) (hi' := w3.heap.size) (by exact rowT) (by omega) (Nat.le_refl _)).1, (Row2.mono (lo := W3.heap.size) (hi := w3.heap.size) (hi' := w3.heap.size) (by exact rowT) (by omega) (Nat.le_refl _)).1, by exact tacT⟩
 ·go_wp2_with fail
  refine bodyPost_ret (v := .tuple #[.agg #[.int .i64 room', .int .i64 start', .slice A1 l'.length c1, .int .i64 lv', .int .i64 ra', .int .i64 dr', .int .i64 lo', .slice R1 rs'.length d1], .int .i64 (1)]) ?_ rfl ?_
  ·simp [results, Tryz.results37, go_sem, kc_r, kc_s, hl_r, hn_r, hl_s, hn_s]
  ·exact ⟨A1, c1, R1, d1, rfl, (Row2.mono (lo := W3.heap.size) (hi := w3.heap.size) (hi' := w3.heap.size) (by exact rowT) (by omega) (Nat.le_refl _)).1, (Row2.mono (lo := W3.heap.size) (hi := w3.heap.size) (hi' := w3.heap.size) (by exact rowT) (by omega) (Nat.le_refl _)).1, by exact tacT⟩
set_option maxHeartbeats 3200000 in
theorem DoAct_2 (A : Option Addr) (c : Nat) (R : Option Addr) (d : Nat) (v : Vg) (y z : Int) (w : World) (h : RdT w w.heap.size A c v.book.evs) (h' : RdT w w.heap.size R d v.rights) (hs : v.book.evs.length + v.rights.length ≤ 1048576) (hv : villageOk v = true) (ha : actOk 2 y z = true) :
  Calls Tryz.prog 37 #[v.val A c R d, .agg #[.int .i64 2, .int .i64 y, .int .i64 z]] w (VgRetI (doAct v 2 y z) w) := by
 have hB := Below.refl w.heap.size w
 have h1 := fun (W : World) (hb : Below w.heap.size w W) => VillageOk_any A c R d v W (h.below hb) (h'.below hb) (by omega)
 have h2 := fun (W : World) => ActOk_any 2 y z W
 have h4 := fun (W : World) (hb : Below w.heap.size w W) => Drink_any A c R d v y z W (h.below hb) (h'.below hb) hs
 have hst : doAct v 2 y z = bi (vDrink v y z) := by unfold doAct; rw [if_pos ⟨hv, ha⟩]; rfl
 rw [hst]
 obtain ⟨⟨⟨⟨room', start', l', lv', ra', dr', lo'⟩, rs'⟩, ok⟩, hE⟩ : ∃ r, vDrink v y z = r := ⟨_, rfl⟩
 rw [hE] at h4 ⊢
 unfold bi
 unfold VgRet at h4
 rw [hv] at h1
 rw [ha] at h2
 unfold VgRetI
 unfold Vg.val at h1 h4 ⊢
 obtain ⟨⟨room, start, l, lv, ra, dr, lo⟩, rs⟩ := v
 simp only at h h' hs h1 h4 ⊢
 have H1 := Lib.hid h1
 have H2 := Lib.hid h2
 have H4 := Lib.hid h4
 clear h1 h2 h4 hst hv ha hE
 go_enter Tryz.func37, Tryz.ntmps37
 go_wp2_with fail
 first | refine name_world ?_ | refine name_wp ?_
 intro W1 hW
 replace hB : Below w.heap.size w W1 := by rw [hW]; exact tacT
 have hz_W1 : w.heap.size ≤ W1.heap.size := by rw [hW]; exact sT
 replace kb_p : Blk W1 (w.heap.size) 35 #[.int .i64 room, .int .i64 start, .slice A l.length c, .int .i64 lv, .int .i64 ra, .int .i64 dr, .int .i64 lo, .slice R rs.length d] := by rw [hW]; exact blkT
 have hLW1_p := kb_p.lt
 replace kb_q : Blk W1 (w.heap.size + 1) 50 #[.int .i64 2, .int .i64 y, .int .i64 z] := by rw [hW]; exact blkT
 have hLW1_q := kb_q.lt
 replace kb_r : Blk W1 (w.heap.size + 2) 35 #[.int .i64 0, .int .i64 0, .slice none 0 0, .int .i64 0, .int .i64 0, .int .i64 0, .int .i64 0, .slice none 0 0] := by rw [hW]; exact blkT
 have hLW1_r := kb_r.lt
 try clear kc_p kf_p
 try clear kc_q kf_q
 try clear kc_r kf_r
 clear hW
 refine (H1.out _ hB).mono ?_
 rintro e' w1 ⟨rfl, hb⟩
 replace hB := hB.trans (Below.mono hb hB.size)
 have hz_w1 : W1.heap.size ≤ w1.heap.size := Below.size hb
 replace kb_p := kb_p.mv hb; obtain ⟨kb_p, kc_p, kf_p, hl_p, hn_p⟩ := kb_p
 replace kb_q := kb_q.mv hb; obtain ⟨kb_q, kc_q, kf_q, hl_q, hn_q⟩ := kb_q
 replace kb_r := kb_r.mv hb; obtain ⟨kb_r, kc_r, kf_r, hl_r, hn_r⟩ := kb_r
 clear hb
 go_wp2_with fail
 refine (H2.out _).mono ?_
 rintro e' w2 ⟨rfl, hb⟩
 replace hB := hB.trans (Below.mono hb hB.size)
 have hz_w2 : w1.heap.size ≤ w2.heap.size := Below.size hb
 replace kb_p := kb_p.mv hb; obtain ⟨kb_p, kc_p, kf_p, hl_p, hn_p⟩ := kb_p
 replace kb_q := kb_q.mv hb; obtain ⟨kb_q, kc_q, kf_q, hl_q, hn_q⟩ := kb_q
 replace kb_r := kb_r.mv hb; obtain ⟨kb_r, kc_r, kf_r, hl_r, hn_r⟩ := kb_r
 clear hb
 go_wp2_with fail
 first | refine name_world ?_ | refine name_wp ?_
 intro W3 hW
 replace hB : Below w.heap.size w W3 := by rw [hW]; exact tacT
 have hz_W3 : w2.heap.size ≤ W3.heap.size := by rw [hW]; exact sT
 replace kb_p : Blk W3 (w.heap.size) 35 #[.int .i64 room, .int .i64 start, .slice A l.length c, .int .i64 lv, .int .i64 ra, .int .i64 dr, .int .i64 lo, .slice R rs.length d] := by rw [hW]; exact blkT
 have hLW3_p := kb_p.lt
 replace kb_q : Blk W3 (w.heap.size + 1) 50 #[.int .i64 2, .int .i64 y, .int .i64 z] := by rw [hW]; exact blkT
 have hLW3_q := kb_q.lt
 replace kb_r : Blk W3 (w.heap.size + 2) 35 #[.int .i64 0, .int .i64 0, .slice none 0 0, .int .i64 0, .int .i64 0, .int .i64 0, .int .i64 0, .slice none 0 0] := by rw [hW]; exact blkT
 have hLW3_r := kb_r.lt
 replace kb_s : Blk W3 (w2.heap.size) 35 #[.int .i64 0, .int .i64 0, .slice none 0 0, .int .i64 0, .int .i64 0, .int .i64 0, .int .i64 0, .slice none 0 0] := by rw [hW]; exact blkT
 have hLW3_s := kb_s.lt
 try clear kc_p kf_p
 try clear kc_q kf_q
 try clear kc_r kf_r
 try clear kc_s kf_s
 clear hW
 refine (H4.out _ hB).mono ?_
 rintro e' w3 ⟨A1, c1, R1, d1, rfl, ho1, ho2, hb⟩
 have hr_e := Row2.born ho1
 have hr_s := Row2.born ho2
 clear ho1 ho2
 replace hB := hB.trans (Below.mono hb hB.size)
 have hz_w3 : W3.heap.size ≤ w3.heap.size := Below.size hb
 replace kb_r := kb_r.mv hb; obtain ⟨kb_r, kc_r, kf_r, hl_r, hn_r⟩ := kb_r
 replace kb_s := kb_s.mv hb; obtain ⟨kb_s, kc_s, kf_s, hl_s, hn_s⟩ := kb_s
 clear hb
 cases ok
 ·go_wp2_with fail
  refine bodyPost_ret (v := .tuple #[.agg #[.int .i64 room', .int .i64 start', .slice A1 l'.length c1, .int .i64 lv', .int .i64 ra', .int .i64 dr', .int .i64 lo', .slice R1 rs'.length d1], .int .i64 (0)]) ?_ rfl ?_
  ·simp [results, Tryz.results37, go_sem, kc_r, kc_s, hl_r, hn_r, hl_s, hn_s]
  ·exact ⟨A1, c1, R1, d1, rfl, (Row2.mono (lo := W3.heap.size) (hi := w3.heap.size) (hi' := w3.heap.size) (by exact rowT) (by omega) (Nat.le_refl _)).1, (Row2.mono (lo := W3.heap.size) (hi := w3.heap.size) (hi' := w3.heap.size) (by exact rowT) (by omega) (Nat.le_refl _)).1, by exact tacT⟩
 ·go_wp2_with fail
  refine bodyPost_ret (v := .tuple #[.agg #[.int .i64 room', .int .i64 start', .slice A1 l'.length c1, .int .i64 lv', .int .i64 ra', .int .i64 dr', .int .i64 lo', .slice R1 rs'.length d1], .int .i64 (1)]) ?_ rfl ?_
  ·simp [results, Tryz.results37, go_sem, kc_r, kc_s, hl_r, hn_r, hl_s, hn_s]
  ·exact ⟨A1, c1, R1, d1, rfl, (Row2.mono (lo := W3.heap.size) (hi := w3.heap.size) (hi' := w3.heap.size) (by exact rowT) (by omega) (Nat.le_refl _)).1, (Row2.mono (lo := W3.heap.size) (hi := w3.heap.size) (hi' := w3.heap.size) (by exact rowT) (by omega) (Nat.le_refl _)).1, by exact tacT⟩
set_option maxHeartbeats 3200000 in
theorem DoAct_3 (A : Option Addr) (c : Nat) (R : Option Addr) (d : Nat) (v : Vg) (y z : Int) (w : World) (h : RdT w w.heap.size A c v.book.evs) (h' : RdT w w.heap.size R d v.rights) (hs : v.book.evs.length + v.rights.length ≤ 1048576) (hv : villageOk v = true) (ha : actOk 3 y z = true) :
  Calls Tryz.prog 37 #[v.val A c R d, .agg #[.int .i64 3, .int .i64 y, .int .i64 z]] w (VgRetI (doAct v 3 y z) w) := by
 have hB := Below.refl w.heap.size w
 have h1 := fun (W : World) (hb : Below w.heap.size w W) => VillageOk_any A c R d v W (h.below hb) (h'.below hb) (by omega)
 have h2 := fun (W : World) => ActOk_any 3 y z W
 have h4 := fun (W : World) (hb : Below w.heap.size w W) => LeakOut_any A c R d v y W (h.below hb) (h'.below hb) hs
 have hst : doAct v 3 y z = bi (vEnter v ⟨3, y, 0⟩) := by unfold doAct; rw [if_pos ⟨hv, ha⟩]; rfl
 rw [hst]
 obtain ⟨⟨⟨⟨room', start', l', lv', ra', dr', lo'⟩, rs'⟩, ok⟩, hE⟩ : ∃ r, vEnter v ⟨3, y, 0⟩ = r := ⟨_, rfl⟩
 rw [hE] at h4 ⊢
 unfold bi
 unfold VgRet at h4
 rw [hv] at h1
 rw [ha] at h2
 unfold VgRetI
 unfold Vg.val at h1 h4 ⊢
 obtain ⟨⟨room, start, l, lv, ra, dr, lo⟩, rs⟩ := v
 simp only at h h' hs h1 h4 ⊢
 have H1 := Lib.hid h1
 have H2 := Lib.hid h2
 have H4 := Lib.hid h4
 clear h1 h2 h4 hst hv ha hE
 go_enter Tryz.func37, Tryz.ntmps37
 go_wp2_with fail
 first | refine name_world ?_ | refine name_wp ?_
 intro W1 hW
 replace hB : Below w.heap.size w W1 := by rw [hW]; exact tacT
 have hz_W1 : w.heap.size ≤ W1.heap.size := by rw [hW]; exact sT
 replace kb_p : Blk W1 (w.heap.size) 35 #[.int .i64 room, .int .i64 start, .slice A l.length c, .int .i64 lv, .int .i64 ra, .int .i64 dr, .int .i64 lo, .slice R rs.length d] := by rw [hW]; exact blkT
 have hLW1_p := kb_p.lt
 replace kb_q : Blk W1 (w.heap.size + 1) 50 #[.int .i64 3, .int .i64 y, .int .i64 z] := by rw [hW]; exact blkT
 have hLW1_q := kb_q.lt
 replace kb_r : Blk W1 (w.heap.size + 2) 35 #[.int .i64 0, .int .i64 0, .slice none 0 0, .int .i64 0, .int .i64 0, .int .i64 0, .int .i64 0, .slice none 0 0] := by rw [hW]; exact blkT
 have hLW1_r := kb_r.lt
 try clear kc_p kf_p
 try clear kc_q kf_q
 try clear kc_r kf_r
 clear hW
 refine (H1.out _ hB).mono ?_
 rintro e' w1 ⟨rfl, hb⟩
 replace hB := hB.trans (Below.mono hb hB.size)
 have hz_w1 : W1.heap.size ≤ w1.heap.size := Below.size hb
 replace kb_p := kb_p.mv hb; obtain ⟨kb_p, kc_p, kf_p, hl_p, hn_p⟩ := kb_p
 replace kb_q := kb_q.mv hb; obtain ⟨kb_q, kc_q, kf_q, hl_q, hn_q⟩ := kb_q
 replace kb_r := kb_r.mv hb; obtain ⟨kb_r, kc_r, kf_r, hl_r, hn_r⟩ := kb_r
 clear hb
 go_wp2_with fail
 refine (H2.out _).mono ?_
 rintro e' w2 ⟨rfl, hb⟩
 replace hB := hB.trans (Below.mono hb hB.size)
 have hz_w2 : w1.heap.size ≤ w2.heap.size := Below.size hb
 replace kb_p := kb_p.mv hb; obtain ⟨kb_p, kc_p, kf_p, hl_p, hn_p⟩ := kb_p
 replace kb_q := kb_q.mv hb; obtain ⟨kb_q, kc_q, kf_q, hl_q, hn_q⟩ := kb_q
 replace kb_r := kb_r.mv hb; obtain ⟨kb_r, kc_r, kf_r, hl_r, hn_r⟩ := kb_r
 clear hb
 go_wp2_with fail
 first | refine name_world ?_ | refine name_wp ?_
 intro W3 hW
 replace hB : Below w.heap.size w W3 := by rw [hW]; exact tacT
 have hz_W3 : w2.heap.size ≤ W3.heap.size := by rw [hW]; exact sT
 replace kb_p : Blk W3 (w.heap.size) 35 #[.int .i64 room, .int .i64 start, .slice A l.length c, .int .i64 lv, .int .i64 ra, .int .i64 dr, .int .i64 lo, .slice R rs.length d] := by rw [hW]; exact blkT
 have hLW3_p := kb_p.lt
 replace kb_q : Blk W3 (w.heap.size + 1) 50 #[.int .i64 3, .int .i64 y, .int .i64 z] := by rw [hW]; exact blkT
 have hLW3_q := kb_q.lt
 replace kb_r : Blk W3 (w.heap.size + 2) 35 #[.int .i64 0, .int .i64 0, .slice none 0 0, .int .i64 0, .int .i64 0, .int .i64 0, .int .i64 0, .slice none 0 0] := by rw [hW]; exact blkT
 have hLW3_r := kb_r.lt
 replace kb_s : Blk W3 (w2.heap.size) 35 #[.int .i64 0, .int .i64 0, .slice none 0 0, .int .i64 0, .int .i64 0, .int .i64 0, .int .i64 0, .slice none 0 0] := by rw [hW]; exact blkT
 have hLW3_s := kb_s.lt
 try clear kc_p kf_p
 try clear kc_q kf_q
 try clear kc_r kf_r
 try clear kc_s kf_s
 clear hW
 refine (H4.out _ hB).mono ?_
 rintro e' w3 ⟨A1, c1, R1, d1, rfl, ho1, ho2, hb⟩
 have hr_e := Row2.born ho1
 have hr_s := Row2.born ho2
 clear ho1 ho2
 replace hB := hB.trans (Below.mono hb hB.size)
 have hz_w3 : W3.heap.size ≤ w3.heap.size := Below.size hb
 replace kb_r := kb_r.mv hb; obtain ⟨kb_r, kc_r, kf_r, hl_r, hn_r⟩ := kb_r
 replace kb_s := kb_s.mv hb; obtain ⟨kb_s, kc_s, kf_s, hl_s, hn_s⟩ := kb_s
 clear hb
 cases ok
 ·go_wp2_with fail
  refine bodyPost_ret (v := .tuple #[.agg #[.int .i64 room', .int .i64 start', .slice A1 l'.length c1, .int .i64 lv', .int .i64 ra', .int .i64 dr', .int .i64 lo', .slice R1 rs'.length d1], .int .i64 (0)]) ?_ rfl ?_
  ·simp [results, Tryz.results37, go_sem, kc_r, kc_s, hl_r, hn_r, hl_s, hn_s]
  ·exact ⟨A1, c1, R1, d1, rfl, (Row2.mono (lo := W3.heap.size) (hi := w3.heap.size) (hi' := w3.heap.size) (by exact rowT) (by omega) (Nat.le_refl _)).1, (Row2.mono (lo := W3.heap.size) (hi := w3.heap.size) (hi' := w3.heap.size) (by exact rowT) (by omega) (Nat.le_refl _)).1, by exact tacT⟩
 ·go_wp2_with fail
  refine bodyPost_ret (v := .tuple #[.agg #[.int .i64 room', .int .i64 start', .slice A1 l'.length c1, .int .i64 lv', .int .i64 ra', .int .i64 dr', .int .i64 lo', .slice R1 rs'.length d1], .int .i64 (1)]) ?_ rfl ?_
  ·simp [results, Tryz.results37, go_sem, kc_r, kc_s, hl_r, hn_r, hl_s, hn_s]
  ·exact ⟨A1, c1, R1, d1, rfl, (Row2.mono (lo := W3.heap.size) (hi := w3.heap.size) (hi' := w3.heap.size) (by exact rowT) (by omega) (Nat.le_refl _)).1, (Row2.mono (lo := W3.heap.size) (hi := w3.heap.size) (hi' := w3.heap.size) (by exact rowT) (by omega) (Nat.le_refl _)).1, by exact tacT⟩
set_option maxHeartbeats 3200000 in
theorem DoAct_4 (A : Option Addr) (c : Nat) (R : Option Addr) (d : Nat) (v : Vg) (y z : Int) (w : World) (h : RdT w w.heap.size A c v.book.evs) (h' : RdT w w.heap.size R d v.rights) (hs : v.book.evs.length + v.rights.length ≤ 1048576) (hv : villageOk v = true) (ha : actOk 4 y z = true) :
  Calls Tryz.prog 37 #[v.val A c R d, .agg #[.int .i64 4, .int .i64 y, .int .i64 z]] w (VgRetI (doAct v 4 y z) w) := by
 have hB := Below.refl w.heap.size w
 have h1 := fun (W : World) (hb : Below w.heap.size w W) => VillageOk_any A c R d v W (h.below hb) (h'.below hb) (by omega)
 have h2 := fun (W : World) => ActOk_any 4 y z W
 have h4 := fun (W : World) (hb : Below w.heap.size w W) => Sell_any A c R d v y z 1 2 W (h.below hb) (h'.below hb) hs
 have hst : doAct v 4 y z = bi (vSell v y z 1 2) := by unfold doAct; rw [if_pos ⟨hv, ha⟩]; rfl
 rw [hst]
 obtain ⟨⟨⟨⟨room', start', l', lv', ra', dr', lo'⟩, rs'⟩, ok⟩, hE⟩ : ∃ r, vSell v y z 1 2 = r := ⟨_, rfl⟩
 rw [hE] at h4 ⊢
 unfold bi
 unfold VgRet at h4
 rw [hv] at h1
 rw [ha] at h2
 unfold VgRetI
 unfold Vg.val at h1 h4 ⊢
 obtain ⟨⟨room, start, l, lv, ra, dr, lo⟩, rs⟩ := v
 simp only at h h' hs h1 h4 ⊢
 have H1 := Lib.hid h1
 have H2 := Lib.hid h2
 have H4 := Lib.hid h4
 clear h1 h2 h4 hst hv ha hE
 go_enter Tryz.func37, Tryz.ntmps37
 go_wp2_with fail
 first | refine name_world ?_ | refine name_wp ?_
 intro W1 hW
 replace hB : Below w.heap.size w W1 := by rw [hW]; exact tacT
 have hz_W1 : w.heap.size ≤ W1.heap.size := by rw [hW]; exact sT
 replace kb_p : Blk W1 (w.heap.size) 35 #[.int .i64 room, .int .i64 start, .slice A l.length c, .int .i64 lv, .int .i64 ra, .int .i64 dr, .int .i64 lo, .slice R rs.length d] := by rw [hW]; exact blkT
 have hLW1_p := kb_p.lt
 replace kb_q : Blk W1 (w.heap.size + 1) 50 #[.int .i64 4, .int .i64 y, .int .i64 z] := by rw [hW]; exact blkT
 have hLW1_q := kb_q.lt
 replace kb_r : Blk W1 (w.heap.size + 2) 35 #[.int .i64 0, .int .i64 0, .slice none 0 0, .int .i64 0, .int .i64 0, .int .i64 0, .int .i64 0, .slice none 0 0] := by rw [hW]; exact blkT
 have hLW1_r := kb_r.lt
 try clear kc_p kf_p
 try clear kc_q kf_q
 try clear kc_r kf_r
 clear hW
 refine (H1.out _ hB).mono ?_
 rintro e' w1 ⟨rfl, hb⟩
 replace hB := hB.trans (Below.mono hb hB.size)
 have hz_w1 : W1.heap.size ≤ w1.heap.size := Below.size hb
 replace kb_p := kb_p.mv hb; obtain ⟨kb_p, kc_p, kf_p, hl_p, hn_p⟩ := kb_p
 replace kb_q := kb_q.mv hb; obtain ⟨kb_q, kc_q, kf_q, hl_q, hn_q⟩ := kb_q
 replace kb_r := kb_r.mv hb; obtain ⟨kb_r, kc_r, kf_r, hl_r, hn_r⟩ := kb_r
 clear hb
 go_wp2_with fail
 refine (H2.out _).mono ?_
 rintro e' w2 ⟨rfl, hb⟩
 replace hB := hB.trans (Below.mono hb hB.size)
 have hz_w2 : w1.heap.size ≤ w2.heap.size := Below.size hb
 replace kb_p := kb_p.mv hb; obtain ⟨kb_p, kc_p, kf_p, hl_p, hn_p⟩ := kb_p
 replace kb_q := kb_q.mv hb; obtain ⟨kb_q, kc_q, kf_q, hl_q, hn_q⟩ := kb_q
 replace kb_r := kb_r.mv hb; obtain ⟨kb_r, kc_r, kf_r, hl_r, hn_r⟩ := kb_r
 clear hb
 go_wp2_with fail
 first | refine name_world ?_ | refine name_wp ?_
 intro W3 hW
 replace hB : Below w.heap.size w W3 := by rw [hW]; exact tacT
 have hz_W3 : w2.heap.size ≤ W3.heap.size := by rw [hW]; exact sT
 replace kb_p : Blk W3 (w.heap.size) 35 #[.int .i64 room, .int .i64 start, .slice A l.length c, .int .i64 lv, .int .i64 ra, .int .i64 dr, .int .i64 lo, .slice R rs.length d] := by rw [hW]; exact blkT
 have hLW3_p := kb_p.lt
 replace kb_q : Blk W3 (w.heap.size + 1) 50 #[.int .i64 4, .int .i64 y, .int .i64 z] := by rw [hW]; exact blkT
 have hLW3_q := kb_q.lt
 replace kb_r : Blk W3 (w.heap.size + 2) 35 #[.int .i64 0, .int .i64 0, .slice none 0 0, .int .i64 0, .int .i64 0, .int .i64 0, .int .i64 0, .slice none 0 0] := by rw [hW]; exact blkT
 have hLW3_r := kb_r.lt
 replace kb_s : Blk W3 (w2.heap.size) 35 #[.int .i64 0, .int .i64 0, .slice none 0 0, .int .i64 0, .int .i64 0, .int .i64 0, .int .i64 0, .slice none 0 0] := by rw [hW]; exact blkT
 have hLW3_s := kb_s.lt
 try clear kc_p kf_p
 try clear kc_q kf_q
 try clear kc_r kf_r
 try clear kc_s kf_s
 clear hW
 refine (H4.out _ hB).mono ?_
 rintro e' w3 ⟨A1, c1, R1, d1, rfl, ho1, ho2, hb⟩
 have hr_e := Row2.born ho1
 have hr_s := Row2.born ho2
 clear ho1 ho2
 replace hB := hB.trans (Below.mono hb hB.size)
 have hz_w3 : W3.heap.size ≤ w3.heap.size := Below.size hb
 replace kb_r := kb_r.mv hb; obtain ⟨kb_r, kc_r, kf_r, hl_r, hn_r⟩ := kb_r
 replace kb_s := kb_s.mv hb; obtain ⟨kb_s, kc_s, kf_s, hl_s, hn_s⟩ := kb_s
 clear hb
 cases ok
 ·go_wp2_with fail
  refine bodyPost_ret (v := .tuple #[.agg #[.int .i64 room', .int .i64 start', .slice A1 l'.length c1, .int .i64 lv', .int .i64 ra', .int .i64 dr', .int .i64 lo', .slice R1 rs'.length d1], .int .i64 (0)]) ?_ rfl ?_
  ·simp [results, Tryz.results37, go_sem, kc_r, kc_s, hl_r, hn_r, hl_s, hn_s]
  ·exact ⟨A1, c1, R1, d1, rfl, (Row2.mono (lo := W3.heap.size) (hi := w3.heap.size) (hi' := w3.heap.size) (by exact rowT) (by omega) (Nat.le_refl _)).1, (Row2.mono (lo := W3.heap.size) (hi := w3.heap.size) (hi' := w3.heap.size) (by exact rowT) (by omega) (Nat.le_refl _)).1, by exact tacT⟩
 ·go_wp2_with fail
  refine bodyPost_ret (v := .tuple #[.agg #[.int .i64 room', .int .i64 start', .slice A1 l'.length c1, .int .i64 lv', .int .i64 ra', .int .i64 dr', .int .i64 lo', .slice R1 rs'.length d1], .int .i64 (1)]) ?_ rfl ?_
  ·simp [results, Tryz.results37, go_sem, kc_r, kc_s, hl_r, hn_r, hl_s, hn_s]
  ·exact ⟨A1, c1, R1, d1, rfl, (Row2.mono (lo := W3.heap.size) (hi := w3.heap.size) (hi' := w3.heap.size) (by exact rowT) (by omega) (Nat.le_refl _)).1, (Row2.mono (lo := W3.heap.size) (hi := w3.heap.size) (hi' := w3.heap.size) (by exact rowT) (by omega) (Nat.le_refl _)).1, by exact tacT⟩
set_option maxHeartbeats 3200000 in
theorem DoAct_5 (A : Option Addr) (c : Nat) (R : Option Addr) (d : Nat) (v : Vg) (y z : Int) (w : World) (h : RdT w w.heap.size A c v.book.evs) (h' : RdT w w.heap.size R d v.rights) (hs : v.book.evs.length + v.rights.length ≤ 1048576) (hv : villageOk v = true) (ha : actOk 5 y z = true) :
  Calls Tryz.prog 37 #[v.val A c R d, .agg #[.int .i64 5, .int .i64 y, .int .i64 z]] w (VgRetI (doAct v 5 y z) w) := by
 have hB := Below.refl w.heap.size w
 have h1 := fun (W : World) (hb : Below w.heap.size w W) => VillageOk_any A c R d v W (h.below hb) (h'.below hb) (by omega)
 have h2 := fun (W : World) => ActOk_any 5 y z W
 have h4 := fun (W : World) (B : Option Addr) (e : Nat) (hb : Below w.heap.size w W) (hi : RdI W W.heap.size B e [z, z + 1]) => PassOn_any A c R d v y B e [z, z + 1] W (h.below hb) (h'.below hb) hi hs
 have hz5 := actOk_5 ha
 have hwr : IntKind.i64.wrap (z + 1) = z + 1 := IntWalk.i64_in _ (by omega)
 have hst : doAct v 5 y z = bi (vPass v y [z, z + 1]) := by unfold doAct; rw [if_pos ⟨hv, ha⟩]; rfl
 rw [hst]
 obtain ⟨⟨⟨⟨room', start', l', lv', ra', dr', lo'⟩, rs'⟩, ok⟩, hE⟩ : ∃ r, vPass v y [z, z + 1] = r := ⟨_, rfl⟩
 rw [hE] at h4 ⊢
 unfold bi
 unfold VgRet at h4
 rw [hv] at h1
 rw [ha] at h2
 unfold VgRetI
 unfold Vg.val at h1 h4 ⊢
 obtain ⟨⟨room, start, l, lv, ra, dr, lo⟩, rs⟩ := v
 simp only at h h' hs h1 h4 ⊢
 have H1 := Lib.hid h1
 have H2 := Lib.hid h2
 have H4 := Lib.hid h4
 clear h1 h2 h4 hst hv ha hE
 go_enter Tryz.func37, Tryz.ntmps37
 go_wp2_with fail
 first | refine name_world ?_ | refine name_wp ?_
 intro W1 hW
 replace hB : Below w.heap.size w W1 := by rw [hW]; exact tacT
 have hz_W1 : w.heap.size ≤ W1.heap.size := by rw [hW]; exact sT
 replace kb_p : Blk W1 (w.heap.size) 35 #[.int .i64 room, .int .i64 start, .slice A l.length c, .int .i64 lv, .int .i64 ra, .int .i64 dr, .int .i64 lo, .slice R rs.length d] := by rw [hW]; exact blkT
 have hLW1_p := kb_p.lt
 replace kb_q : Blk W1 (w.heap.size + 1) 50 #[.int .i64 5, .int .i64 y, .int .i64 z] := by rw [hW]; exact blkT
 have hLW1_q := kb_q.lt
 replace kb_r : Blk W1 (w.heap.size + 2) 35 #[.int .i64 0, .int .i64 0, .slice none 0 0, .int .i64 0, .int .i64 0, .int .i64 0, .int .i64 0, .slice none 0 0] := by rw [hW]; exact blkT
 have hLW1_r := kb_r.lt
 try clear kc_p kf_p
 try clear kc_q kf_q
 try clear kc_r kf_r
 clear hW
 refine (H1.out _ hB).mono ?_
 rintro e' w1 ⟨rfl, hb⟩
 replace hB := hB.trans (Below.mono hb hB.size)
 have hz_w1 : W1.heap.size ≤ w1.heap.size := Below.size hb
 replace kb_p := kb_p.mv hb; obtain ⟨kb_p, kc_p, kf_p, hl_p, hn_p⟩ := kb_p
 replace kb_q := kb_q.mv hb; obtain ⟨kb_q, kc_q, kf_q, hl_q, hn_q⟩ := kb_q
 replace kb_r := kb_r.mv hb; obtain ⟨kb_r, kc_r, kf_r, hl_r, hn_r⟩ := kb_r
 clear hb
 go_wp2_with fail
 refine (H2.out _).mono ?_
 rintro e' w2 ⟨rfl, hb⟩
 replace hB := hB.trans (Below.mono hb hB.size)
 have hz_w2 : w1.heap.size ≤ w2.heap.size := Below.size hb
 replace kb_p := kb_p.mv hb; obtain ⟨kb_p, kc_p, kf_p, hl_p, hn_p⟩ := kb_p
 replace kb_q := kb_q.mv hb; obtain ⟨kb_q, kc_q, kf_q, hl_q, hn_q⟩ := kb_q
 replace kb_r := kb_r.mv hb; obtain ⟨kb_r, kc_r, kf_r, hl_r, hn_r⟩ := kb_r
 clear hb
 go_wp2_with fail
 (try rw [hwr])
 first | refine name_world ?_ | refine name_wp ?_
 intro W3 hW
 replace hB : Below w.heap.size w W3 := by rw [hW]; exact tacT
 have hz_W3 : w2.heap.size ≤ W3.heap.size := by rw [hW]; exact sT
 replace kb_p : Blk W3 (w.heap.size) 35 #[.int .i64 room, .int .i64 start, .slice A l.length c, .int .i64 lv, .int .i64 ra, .int .i64 dr, .int .i64 lo, .slice R rs.length d] := by rw [hW]; exact blkT
 have hLW3_p := kb_p.lt
 replace kb_q : Blk W3 (w.heap.size + 1) 50 #[.int .i64 5, .int .i64 y, .int .i64 z] := by rw [hW]; exact blkT
 have hLW3_q := kb_q.lt
 replace kb_r : Blk W3 (w.heap.size + 2) 35 #[.int .i64 0, .int .i64 0, .slice none 0 0, .int .i64 0, .int .i64 0, .int .i64 0, .int .i64 0, .slice none 0 0] := by rw [hW]; exact blkT
 have hLW3_r := kb_r.lt
 replace kb_s : Blk W3 (w2.heap.size) 35 #[.int .i64 0, .int .i64 0, .slice none 0 0, .int .i64 0, .int .i64 0, .int .i64 0, .int .i64 0, .slice none 0 0] := by rw [hW]; exact blkT
 have hLW3_s := kb_s.lt
 replace kb_u : Blk W3 (w2.heap.size + 1) 3 #[.int .i64 z, .int .i64 (z + 1)] := by rw [hW]; exact blkT
 have hLW3_u := kb_u.lt
 try clear kc_p kf_p
 try clear kc_q kf_q
 try clear kc_r kf_r
 try clear kc_s kf_s
 try clear kc_u kf_u
 clear hW
 refine (H4.out _ (some ⟨w2.heap.size + 1, 0, none⟩) 2 hB (rd_two kb_u)).mono ?_
 rintro e' w3 ⟨A1, c1, R1, d1, rfl, ho1, ho2, hb⟩
 have hr_e := Row2.born ho1
 have hr_s := Row2.born ho2
 clear ho1 ho2
 replace hB := hB.trans (Below.mono hb hB.size)
 have hz_w3 : W3.heap.size ≤ w3.heap.size := Below.size hb
 replace kb_r := kb_r.mv hb; obtain ⟨kb_r, kc_r, kf_r, hl_r, hn_r⟩ := kb_r
 replace kb_s := kb_s.mv hb; obtain ⟨kb_s, kc_s, kf_s, hl_s, hn_s⟩ := kb_s
 clear hb
 cases ok
 ·go_wp2_with fail
  refine bodyPost_ret (v := .tuple #[.agg #[.int .i64 room', .int .i64 start', .slice A1 l'.length c1, .int .i64 lv', .int .i64 ra', .int .i64 dr', .int .i64 lo', .slice R1 rs'.length d1], .int .i64 (0)]) ?_ rfl ?_
  ·simp [results, Tryz.results37, go_sem, kc_r, kc_s, hl_r, hn_r, hl_s, hn_s]
  ·exact ⟨A1, c1, R1, d1, rfl, (Row2.mono (lo := W3.heap.size) (hi := w3.heap.size) (hi' := w3.heap.size) (by exact rowT) (by omega) (Nat.le_refl _)).1, (Row2.mono (lo := W3.heap.size) (hi := w3.heap.size) (hi' := w3.heap.size) (by exact rowT) (by omega) (Nat.le_refl _)).1, by exact tacT⟩
 ·go_wp2_with fail
  refine bodyPost_ret (v := .tuple #[.agg #[.int .i64 room', .int .i64 start', .slice A1 l'.length c1, .int .i64 lv', .int .i64 ra', .int .i64 dr', .int .i64 lo', .slice R1 rs'.length d1], .int .i64 (1)]) ?_ rfl ?_
  ·simp [results, Tryz.results37, go_sem, kc_r, kc_s, hl_r, hn_r, hl_s, hn_s]
  ·exact ⟨A1, c1, R1, d1, rfl, (Row2.mono (lo := W3.heap.size) (hi := w3.heap.size) (hi' := w3.heap.size) (by exact rowT) (by omega) (Nat.le_refl _)).1, (Row2.mono (lo := W3.heap.size) (hi := w3.heap.size) (hi' := w3.heap.size) (by exact rowT) (by omega) (Nat.le_refl _)).1, by exact tacT⟩
set_option maxHeartbeats 3200000 in
theorem DoAct_6 (A : Option Addr) (c : Nat) (R : Option Addr) (d : Nat) (v : Vg) (y z : Int) (w : World) (h : RdT w w.heap.size A c v.book.evs) (h' : RdT w w.heap.size R d v.rights) (hs : v.book.evs.length + v.rights.length ≤ 1048576) (hv : villageOk v = true) (ha : actOk 6 y z = true) :
  Calls Tryz.prog 37 #[v.val A c R d, .agg #[.int .i64 6, .int .i64 y, .int .i64 z]] w (VgRetI (doAct v 6 y z) w) := by
 have hB := Below.refl w.heap.size w
 have h1 := fun (W : World) (hb : Below w.heap.size w W) => VillageOk_any A c R d v W (h.below hb) (h'.below hb) (by omega)
 have h2 := fun (W : World) => ActOk_any 6 y z W
 have h3 := fun (W : World) (hb : Below w.heap.size w W) => copyVillage_any A c R d v W (h.below hb) (h'.below hb) (by omega) (by omega)
 have h4 := fun (W : World) (hb : Below w.heap.size w W) => MayDrink_any A c R d v y W (h.below hb) (h'.below hb) (by omega)
 obtain ⟨M, hM⟩ : ∃ M, M = mayDrink v y := ⟨_, rfl⟩
 have hst : doAct v 6 y z = (v, M) := by unfold doAct; rw [if_pos ⟨hv, ha⟩, hM]; rfl
 rw [hst]
 rw [← hM] at h4
 rw [hv] at h1
 rw [ha] at h2
 unfold VgRetI
 unfold VgOwn at h3
 unfold Vg.val at h1 h3 h4 ⊢
 obtain ⟨⟨room, start, l, lv, ra, dr, lo⟩, rs⟩ := v
 simp only at h h' hs h1 h3 h4 ⊢
 have H1 := Lib.hid h1
 have H2 := Lib.hid h2
 have H3 := Lib.hid h3
 have H4 := Lib.hid h4
 clear h1 h2 h3 h4 hst hv ha hM
 go_enter Tryz.func37, Tryz.ntmps37
 go_wp2_with fail
 first | refine name_world ?_ | refine name_wp ?_
 intro W1 hW
 replace hB : Below w.heap.size w W1 := by rw [hW]; exact tacT
 have hz_W1 : w.heap.size ≤ W1.heap.size := by rw [hW]; exact sT
 replace kb_p : Blk W1 (w.heap.size) 35 #[.int .i64 room, .int .i64 start, .slice A l.length c, .int .i64 lv, .int .i64 ra, .int .i64 dr, .int .i64 lo, .slice R rs.length d] := by rw [hW]; exact blkT
 have hLW1_p := kb_p.lt
 replace kb_q : Blk W1 (w.heap.size + 1) 50 #[.int .i64 6, .int .i64 y, .int .i64 z] := by rw [hW]; exact blkT
 have hLW1_q := kb_q.lt
 replace kb_r : Blk W1 (w.heap.size + 2) 35 #[.int .i64 0, .int .i64 0, .slice none 0 0, .int .i64 0, .int .i64 0, .int .i64 0, .int .i64 0, .slice none 0 0] := by rw [hW]; exact blkT
 have hLW1_r := kb_r.lt
 try clear kc_p kf_p
 try clear kc_q kf_q
 try clear kc_r kf_r
 clear hW
 refine (H1.out _ hB).mono ?_
 rintro e' w1 ⟨rfl, hb⟩
 replace hB := hB.trans (Below.mono hb hB.size)
 have hz_w1 : W1.heap.size ≤ w1.heap.size := Below.size hb
 replace kb_p := kb_p.mv hb; obtain ⟨kb_p, kc_p, kf_p, hl_p, hn_p⟩ := kb_p
 replace kb_q := kb_q.mv hb; obtain ⟨kb_q, kc_q, kf_q, hl_q, hn_q⟩ := kb_q
 replace kb_r := kb_r.mv hb; obtain ⟨kb_r, kc_r, kf_r, hl_r, hn_r⟩ := kb_r
 clear hb
 go_wp2_with fail
 refine (H2.out _).mono ?_
 rintro e' w2 ⟨rfl, hb⟩
 replace hB := hB.trans (Below.mono hb hB.size)
 have hz_w2 : w1.heap.size ≤ w2.heap.size := Below.size hb
 replace kb_p := kb_p.mv hb; obtain ⟨kb_p, kc_p, kf_p, hl_p, hn_p⟩ := kb_p
 replace kb_q := kb_q.mv hb; obtain ⟨kb_q, kc_q, kf_q, hl_q, hn_q⟩ := kb_q
 replace kb_r := kb_r.mv hb; obtain ⟨kb_r, kc_r, kf_r, hl_r, hn_r⟩ := kb_r
 clear hb
 go_wp2_with fail
 first | refine name_world ?_ | refine name_wp ?_
 intro W3 hW
 replace hB : Below w.heap.size w W3 := by rw [hW]; exact tacT
 have hz_W3 : w2.heap.size ≤ W3.heap.size := by rw [hW]; exact sT
 replace kb_p : Blk W3 (w.heap.size) 35 #[.int .i64 room, .int .i64 start, .slice A l.length c, .int .i64 lv, .int .i64 ra, .int .i64 dr, .int .i64 lo, .slice R rs.length d] := by rw [hW]; exact blkT
 have hLW3_p := kb_p.lt
 replace kb_q : Blk W3 (w.heap.size + 1) 50 #[.int .i64 6, .int .i64 y, .int .i64 z] := by rw [hW]; exact blkT
 have hLW3_q := kb_q.lt
 replace kb_r : Blk W3 (w.heap.size + 2) 35 #[.int .i64 0, .int .i64 0, .slice none 0 0, .int .i64 0, .int .i64 0, .int .i64 0, .int .i64 0, .slice none 0 0] := by rw [hW]; exact blkT
 have hLW3_r := kb_r.lt
 replace kb_s : Blk W3 (w2.heap.size) 35 #[.int .i64 0, .int .i64 0, .slice none 0 0, .int .i64 0, .int .i64 0, .int .i64 0, .int .i64 0, .slice none 0 0] := by rw [hW]; exact blkT
 have hLW3_s := kb_s.lt
 try clear kc_p kf_p
 try clear kc_q kf_q
 try clear kc_r kf_r
 try clear kc_s kf_s
 clear hW
 have kc_p := kb_p.cells
 have kc_q := kb_q.cells
 have hBd : Below w.heap.size w W3.drew := hB.drew
 go_region_held3 (fun w' => w'.cell? ⟨w.heap.size, 0, none⟩ = some (.int .i64 room) ∧ w'.cell? ⟨w.heap.size, 1, none⟩ = some (.int .i64 start) ∧ w'.cell? ⟨w.heap.size, 2, none⟩ = some (.slice A l.length c) ∧ w'.cell? ⟨w.heap.size, 3, none⟩ = some (.int .i64 lv) ∧ w'.cell? ⟨w.heap.size, 4, none⟩ = some (.int .i64 ra) ∧ w'.cell? ⟨w.heap.size, 5, none⟩ = some (.int .i64 dr) ∧ w'.cell? ⟨w.heap.size, 6, none⟩ = some (.int .i64 lo) ∧ w'.cell? ⟨w.heap.size, 7, none⟩ = some (.slice R rs.length d) ∧ w'.cell? ⟨w.heap.size + 1, 1, none⟩ = some (.int .i64 y)) (first | (with_reducible exact ⟨kc_p 0, kc_p 1, kc_p 2, kc_p 3, kc_p 4, kc_p 5, kc_p 6, kc_p 7, kc_q 1⟩) | (refine ⟨?_, ?_, ?_, ?_, ?_, ?_, ?_, ?_, ?_⟩ <;> simp [go_sem, kc_p 0, kc_p 1, kc_p 2, kc_p 3, kc_p 4, kc_p 5, kc_p 6, kc_p 7, kc_q 1, hLW3_p, hLW3_q]; done) | (with_reducible exact ⟨y4_0, y4_1, y4_2, y4_3, y4_4, y4_5, y4_6, y4_7, y4_8⟩) | (refine ⟨?_, ?_, ?_, ?_, ?_, ?_, ?_, ?_, ?_⟩ <;> simp [go_sem, y4_0, y4_1, y4_2, y4_3, y4_4, y4_5, y4_6, y4_7, y4_8, hLW3_p, hLW3_q, n4_0, l4_0, n4_1, l4_1, n4_2, l4_2, n4_3, l4_3, n4_4, l4_4, n4_5, l4_5, n4_6, l4_6, n4_7, l4_7, n4_8, l4_8]; done) | (with_reducible exact ⟨y5_0, y5_1, y5_2, y5_3, y5_4, y5_5, y5_6, y5_7, y5_8⟩) | (refine ⟨?_, ?_, ?_, ?_, ?_, ?_, ?_, ?_, ?_⟩ <;> simp [go_sem, y5_0, y5_1, y5_2, y5_3, y5_4, y5_5, y5_6, y5_7, y5_8, hLW3_p, hLW3_q, n5_0, l5_0, n5_1, l5_1, n5_2, l5_2, n5_3, l5_3, n5_4, l5_4, n5_5, l5_5, n5_6, l5_6, n5_7, l5_7, n5_8, l5_8]; done) | exact ⟨kc_p 0, kc_p 1, kc_p 2, kc_p 3, kc_p 4, kc_p 5, kc_p 6, kc_p 7, kc_q 1⟩)
  ((first | (go_at_call 35; refine (H3.out W3.drew hBd).mono ?_; rintro e w4 ⟨A1, c1, R1, d1, rfl, ⟨ho1, ho2⟩, hb4⟩; have hB4 : Below w.heap.size w w4 := (by exact tacT); have hz4 : W3.heap.size ≤ w4.heap.size := (by have hzz := Below.size hb4; first | omega | (simp at hzz; omega)); have l4_0 : w.heap.size < w4.heap.size := (by omega); have n4_0 := Nat.ne_of_lt l4_0; have y4_0 : w4.cell? ⟨w.heap.size, 0, none⟩ = some (.int .i64 room) := (Below.cell hb4 (p := ⟨w.heap.size, 0, none⟩) (by first | (simp; done) | (simp; omega) | omega)).trans (by first | exact kc_p 0 | exact y5_0 | (simp [go_sem, kc_p 0, hLW3_p, hLW3_q]; done)); have l4_1 : w.heap.size < w4.heap.size := (by omega); have n4_1 := Nat.ne_of_lt l4_1; have y4_1 : w4.cell? ⟨w.heap.size, 1, none⟩ = some (.int .i64 start) := (Below.cell hb4 (p := ⟨w.heap.size, 1, none⟩) (by first | (simp; done) | (simp; omega) | omega)).trans (by first | exact kc_p 1 | exact y5_1 | (simp [go_sem, kc_p 1, hLW3_p, hLW3_q]; done)); have l4_2 : w.heap.size < w4.heap.size := (by omega); have n4_2 := Nat.ne_of_lt l4_2; have y4_2 : w4.cell? ⟨w.heap.size, 2, none⟩ = some (.slice A l.length c) := (Below.cell hb4 (p := ⟨w.heap.size, 2, none⟩) (by first | (simp; done) | (simp; omega) | omega)).trans (by first | exact kc_p 2 | exact y5_2 | (simp [go_sem, kc_p 2, hLW3_p, hLW3_q]; done)); have l4_3 : w.heap.size < w4.heap.size := (by omega); have n4_3 := Nat.ne_of_lt l4_3; have y4_3 : w4.cell? ⟨w.heap.size, 3, none⟩ = some (.int .i64 lv) := (Below.cell hb4 (p := ⟨w.heap.size, 3, none⟩) (by first | (simp; done) | (simp; omega) | omega)).trans (by first | exact kc_p 3 | exact y5_3 | (simp [go_sem, kc_p 3, hLW3_p, hLW3_q]; done)); have l4_4 : w.heap.size < w4.heap.size := (by omega); have n4_4 := Nat.ne_of_lt l4_4; have y4_4 : w4.cell? ⟨w.heap.size, 4, none⟩ = some (.int .i64 ra) := (Below.cell hb4 (p := ⟨w.heap.size, 4, none⟩) (by first | (simp; done) | (simp; omega) | omega)).trans (by first | exact kc_p 4 | exact y5_4 | (simp [go_sem, kc_p 4, hLW3_p, hLW3_q]; done)); have l4_5 : w.heap.size < w4.heap.size := (by omega); have n4_5 := Nat.ne_of_lt l4_5; have y4_5 : w4.cell? ⟨w.heap.size, 5, none⟩ = some (.int .i64 dr) := (Below.cell hb4 (p := ⟨w.heap.size, 5, none⟩) (by first | (simp; done) | (simp; omega) | omega)).trans (by first | exact kc_p 5 | exact y5_5 | (simp [go_sem, kc_p 5, hLW3_p, hLW3_q]; done)); have l4_6 : w.heap.size < w4.heap.size := (by omega); have n4_6 := Nat.ne_of_lt l4_6; have y4_6 : w4.cell? ⟨w.heap.size, 6, none⟩ = some (.int .i64 lo) := (Below.cell hb4 (p := ⟨w.heap.size, 6, none⟩) (by first | (simp; done) | (simp; omega) | omega)).trans (by first | exact kc_p 6 | exact y5_6 | (simp [go_sem, kc_p 6, hLW3_p, hLW3_q]; done)); have l4_7 : w.heap.size < w4.heap.size := (by omega); have n4_7 := Nat.ne_of_lt l4_7; have y4_7 : w4.cell? ⟨w.heap.size, 7, none⟩ = some (.slice R rs.length d) := (Below.cell hb4 (p := ⟨w.heap.size, 7, none⟩) (by first | (simp; done) | (simp; omega) | omega)).trans (by first | exact kc_p 7 | exact y5_7 | (simp [go_sem, kc_p 7, hLW3_p, hLW3_q]; done)); have l4_8 : w.heap.size + 1 < w4.heap.size := (by omega); have n4_8 := Nat.ne_of_lt l4_8; have y4_8 : w4.cell? ⟨w.heap.size + 1, 1, none⟩ = some (.int .i64 y) := (Below.cell hb4 (p := ⟨w.heap.size + 1, 1, none⟩) (by first | (simp; done) | (simp; omega) | omega)).trans (by first | exact kc_q 1 | exact y5_8 | (simp [go_sem, kc_q 1, hLW3_p, hLW3_q]; done)); have kb4_r : Blk w4 (w.heap.size + 2) 35 #[.int .i64 0, .int .i64 0, .slice none 0 0, .int .i64 0, .int .i64 0, .int .i64 0, .int .i64 0, .slice none 0 0] := Blk.below (by exact blkT) hb4 (by first | (simp; done) | (simp; omega) | omega); have kc4_r := kb4_r.cells; have kf4_r := kb4_r.frozens; have hl4_r := kb4_r.lt; have hn4_r := Nat.ne_of_lt hl4_r) | (go_at_call 41; refine (H4.out w4 hB4).mono ?_; rintro e w5 ⟨rfl, hb5⟩; have hB5 : Below w.heap.size w w5 := (by exact tacT); have hz5 : W3.heap.size ≤ w5.heap.size := (by have hzz := Below.size hb5; first | omega | (simp at hzz; omega)); have l5_0 : w.heap.size < w5.heap.size := (by omega); have n5_0 := Nat.ne_of_lt l5_0; have y5_0 : w5.cell? ⟨w.heap.size, 0, none⟩ = some (.int .i64 room) := (Below.cell hb5 (p := ⟨w.heap.size, 0, none⟩) (by first | (simp; done) | (simp; omega) | omega)).trans (by first | exact kc_p 0 | exact y4_0 | (simp [go_sem, kc_p 0, hLW3_p, hLW3_q]; done)); have l5_1 : w.heap.size < w5.heap.size := (by omega); have n5_1 := Nat.ne_of_lt l5_1; have y5_1 : w5.cell? ⟨w.heap.size, 1, none⟩ = some (.int .i64 start) := (Below.cell hb5 (p := ⟨w.heap.size, 1, none⟩) (by first | (simp; done) | (simp; omega) | omega)).trans (by first | exact kc_p 1 | exact y4_1 | (simp [go_sem, kc_p 1, hLW3_p, hLW3_q]; done)); have l5_2 : w.heap.size < w5.heap.size := (by omega); have n5_2 := Nat.ne_of_lt l5_2; have y5_2 : w5.cell? ⟨w.heap.size, 2, none⟩ = some (.slice A l.length c) := (Below.cell hb5 (p := ⟨w.heap.size, 2, none⟩) (by first | (simp; done) | (simp; omega) | omega)).trans (by first | exact kc_p 2 | exact y4_2 | (simp [go_sem, kc_p 2, hLW3_p, hLW3_q]; done)); have l5_3 : w.heap.size < w5.heap.size := (by omega); have n5_3 := Nat.ne_of_lt l5_3; have y5_3 : w5.cell? ⟨w.heap.size, 3, none⟩ = some (.int .i64 lv) := (Below.cell hb5 (p := ⟨w.heap.size, 3, none⟩) (by first | (simp; done) | (simp; omega) | omega)).trans (by first | exact kc_p 3 | exact y4_3 | (simp [go_sem, kc_p 3, hLW3_p, hLW3_q]; done)); have l5_4 : w.heap.size < w5.heap.size := (by omega); have n5_4 := Nat.ne_of_lt l5_4; have y5_4 : w5.cell? ⟨w.heap.size, 4, none⟩ = some (.int .i64 ra) := (Below.cell hb5 (p := ⟨w.heap.size, 4, none⟩) (by first | (simp; done) | (simp; omega) | omega)).trans (by first | exact kc_p 4 | exact y4_4 | (simp [go_sem, kc_p 4, hLW3_p, hLW3_q]; done)); have l5_5 : w.heap.size < w5.heap.size := (by omega); have n5_5 := Nat.ne_of_lt l5_5; have y5_5 : w5.cell? ⟨w.heap.size, 5, none⟩ = some (.int .i64 dr) := (Below.cell hb5 (p := ⟨w.heap.size, 5, none⟩) (by first | (simp; done) | (simp; omega) | omega)).trans (by first | exact kc_p 5 | exact y4_5 | (simp [go_sem, kc_p 5, hLW3_p, hLW3_q]; done)); have l5_6 : w.heap.size < w5.heap.size := (by omega); have n5_6 := Nat.ne_of_lt l5_6; have y5_6 : w5.cell? ⟨w.heap.size, 6, none⟩ = some (.int .i64 lo) := (Below.cell hb5 (p := ⟨w.heap.size, 6, none⟩) (by first | (simp; done) | (simp; omega) | omega)).trans (by first | exact kc_p 6 | exact y4_6 | (simp [go_sem, kc_p 6, hLW3_p, hLW3_q]; done)); have l5_7 : w.heap.size < w5.heap.size := (by omega); have n5_7 := Nat.ne_of_lt l5_7; have y5_7 : w5.cell? ⟨w.heap.size, 7, none⟩ = some (.slice R rs.length d) := (Below.cell hb5 (p := ⟨w.heap.size, 7, none⟩) (by first | (simp; done) | (simp; omega) | omega)).trans (by first | exact kc_p 7 | exact y4_7 | (simp [go_sem, kc_p 7, hLW3_p, hLW3_q]; done)); have l5_8 : w.heap.size + 1 < w5.heap.size := (by omega); have n5_8 := Nat.ne_of_lt l5_8; have y5_8 : w5.cell? ⟨w.heap.size + 1, 1, none⟩ = some (.int .i64 y) := (Below.cell hb5 (p := ⟨w.heap.size + 1, 1, none⟩) (by first | (simp; done) | (simp; omega) | omega)).trans (by first | exact kc_q 1 | exact y4_8 | (simp [go_sem, kc_q 1, hLW3_p, hLW3_q]; done)); have kb5_r : Blk w5 (w.heap.size + 2) 35 #[.int .i64 0, .int .i64 0, .slice none 0 0, .int .i64 0, .int .i64 0, .int .i64 0, .int .i64 0, .slice none 0 0] := Blk.below (by exact blkT) hb5 (by first | (simp; done) | (simp; omega) | omega); have kc5_r := kb5_r.cells; have kf5_r := kb5_r.frozens; have hl5_r := kb5_r.lt; have hn5_r := Nat.ne_of_lt hl5_r)))
 all_goals
  have hr_e : Row2 w5 W3.heap.size w4.heap.size 120 3 A1 l.length c1 (t3s l) := Row2.below (Row2.born ho1) hb5 (Nat.le_refl _)
  have hr_s : Row2 w5 W3.heap.size w4.heap.size 69 3 R1 rs.length d1 (t3s rs) := Row2.below (Row2.born ho2) hb5 (Nat.le_refl _)
  clear ho1 ho2
  go_wp2_with fail
  refine bodyPost_ret (v := .tuple #[.agg #[.int .i64 room, .int .i64 start, .slice A1 l.length c1, .int .i64 lv, .int .i64 ra, .int .i64 dr, .int .i64 lo, .slice R1 rs.length d1], .int .i64 (M)]) ?_ rfl ?_
  ·simp [results, Tryz.results37, go_sem, kc5_r, hl5_r, hn5_r]
  ·exact ⟨A1, c1, R1, d1, rfl, (Row2.mono (lo := W3.heap.size) (hi := w4.heap.size) (hi' := w4.heap.size) (by exact rowT) (by omega) (Nat.le_refl _)).1, (Row2.mono (lo := W3.heap.size) (hi := w4.heap.size) (hi' := w4.heap.size) (by exact rowT) (by omega) (Nat.le_refl _)).1, by exact tacT⟩
theorem DoAct_any (A : Option Addr) (c : Nat) (R : Option Addr) (d : Nat) (v : Vg) (x y z : Int) (w : World) (h : RdT w w.heap.size A c v.book.evs) (h' : RdT w w.heap.size R d v.rights) (hs : v.book.evs.length + v.rights.length ≤ 1048576) :
  Calls Tryz.prog 37 #[v.val A c R d, .agg #[.int .i64 x, .int .i64 y, .int .i64 z]] w (VgRetI (doAct v x y z) w) := by
 cases hv : villageOk v
 ·exact DoAct_v A c R d v x y z w h h' hs hv
 cases ha : actOk x y z
 ·exact DoAct_a A c R d v x y z w h h' hs hv ha
 rcases actOk_kind ha with rfl | rfl | rfl | rfl | rfl | rfl
 ·exact DoAct_1 A c R d v y z w h h' hs hv ha
 ·exact DoAct_2 A c R d v y z w h h' hs hv ha
 ·exact DoAct_3 A c R d v y z w h h' hs hv ha
 ·exact DoAct_4 A c R d v y z w h h' hs hv ha
 ·exact DoAct_5 A c R d v y z w h h' hs hv ha
 ·exact DoAct_6 A c R d v y z w h h' hs hv ha
end
end Go.Proofs.YtpmmjhpmheooeaaGreatDoor
