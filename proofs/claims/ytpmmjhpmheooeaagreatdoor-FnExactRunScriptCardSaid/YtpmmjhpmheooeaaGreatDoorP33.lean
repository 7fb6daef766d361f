/- Texts of the proof, joined: RunActsS. -/
import Derived.Test.YtpmmjhpmheooeaaGreatDoorP32
import Derived.Test.YtpmmjhpmheooeaaGreatDoorP28
import Derived.Test.YtpmmjhpmheooeaaGreatDoorP6
import Derived.Test.YtpmmjhpmheooeaaGreatDoorP31
namespace Go.Proofs.YtpmmjhpmheooeaaGreatDoor
set_option linter.unusedSimpArgs false
set_option linter.unusedVariables false
section
open Go.RowKit
set_option maxRecDepth 20000
set_option maxHeartbeats 3200000 in
theorem RunActsS_v (A : Option Addr) (c : Nat) (R : Option Addr) (d : Nat) (v : Vg) (B : Option Addr) (n : Nat) (acts : List T3) (w : World) (h : RdT w w.heap.size A c v.book.evs) (h' : RdT w w.heap.size R d v.rights) (ha : RdT w w.heap.size B n acts) (hs : v.book.evs.length + v.rights.length ≤ 1048576) (hv : villageOk v = false) :
  Calls Tryz.prog 23 #[v.val A c R d, .slice B acts.length n] w (RunRet (runActs v acts) w) := by
 obtain ⟨hbl, hbm⟩ := ha.le
 have hB := Below.refl w.heap.size w
 have h1 := fun (W : World) (hb : Below w.heap.size w W) => VillageOkS_any A c R d v W (h.below hb) (h'.below hb) (by omega)
 have h3 := fun (W : World) (hb : Below w.heap.size w W) => l38Copy_any A c R d v W (h.below hb) (h'.below hb) (by omega) (by omega)
 have hst : runActs v acts = (v, []) := by unfold runActs; rw [if_neg (by simp [hv])]
 rw [hst]
 rw [hv] at h1
 unfold RunRet
 unfold VgOwn at h3
 unfold Vg.val at h1 h3 ⊢
 obtain ⟨⟨room, start, l, lv, ra, dr, lo⟩, rs⟩ := v
 simp only at h h' hs h1 h3 ⊢
 have H1 := Lib.hid h1
 have H3 := Lib.hid h3
 clear h1 h3 hst hv
 go_enter Tryz.func23, Tryz.ntmps23
 go_wp2_with fail
 first | refine name_world ?_ | refine name_wp ?_
 intro W1 hW
 replace hB : Below w.heap.size w W1 := by rw [hW]; exact tacT
 have hz_W1 : w.heap.size ≤ W1.heap.size := by rw [hW]; exact sT
 replace kb_p : Blk W1 (w.heap.size) 35 #[.int .i64 room, .int .i64 start, .slice A l.length c, .int .i64 lv, .int .i64 ra, .int .i64 dr, .int .i64 lo, .slice R rs.length d] := by rw [hW]; exact blkT
 have hLW1_p := kb_p.lt
 replace kb_r : Blk W1 (w.heap.size + 1) 35 #[.int .i64 0, .int .i64 0, .slice none 0 0, .int .i64 0, .int .i64 0, .int .i64 0, .int .i64 0, .slice none 0 0] := by rw [hW]; exact blkT
 have hLW1_r := kb_r.lt
 try clear kc_p kf_p
 try clear kc_r kf_r
 clear hW
 refine (H3.out _ hB).mono ?_
 rintro e w1 ⟨A1, c1, R1, d1, rfl, ⟨ho1, ho2⟩, hb⟩
 have hr_e := Row2.born ho1
 have hr_s := Row2.born ho2
 clear ho1 ho2
 replace hB := hB.trans (Below.mono hb hB.size)
 have hz_w1 : W1.heap.size ≤ w1.heap.size := Below.size hb
 replace kb_p := kb_p.mv hb; obtain ⟨kb_p, kc_p, kf_p, hl_p, hn_p⟩ := kb_p
 replace kb_r := kb_r.mv hb; obtain ⟨kb_r, kc_r, kf_r, hl_r, hn_r⟩ := kb_r
 clear hb
 go_wp2_with fail
 first | refine name_world ?_ | refine name_wp ?_
 intro W2 hW
 replace hB : Below w.heap.size w W2 := by rw [hW]; exact tacT
 have hz_W2 : w1.heap.size + 2 ≤ W2.heap.size := by rw [hW]; exact sT
 replace kb_p : Blk W2 (w.heap.size) 35 #[.int .i64 room, .int .i64 start, .slice A l.length c, .int .i64 lv, .int .i64 ra, .int .i64 dr, .int .i64 lo, .slice R rs.length d] := by rw [hW]; exact blkT
 replace kb_r : Blk W2 (w.heap.size + 1) 35 #[.int .i64 0, .int .i64 0, .slice none 0 0, .int .i64 0, .int .i64 0, .int .i64 0, .int .i64 0, .slice none 0 0] := by rw [hW]; exact blkT
 have kb_s : Blk W2 (w1.heap.size) 35 #[.int .i64 room, .int .i64 start, .slice A1 l.length c1, .int .i64 lv, .int .i64 ra, .int .i64 dr, .int .i64 lo, .slice R1 rs.length d1] := by rw [hW]; exact blkT
 have hLW2_s := kb_s.lt
 replace hr_e : Row2 W2 W1.heap.size w1.heap.size 120 3 A1 l.length c1 (t3s l) := by rw [hW]; exact rowT
 replace hr_s : Row2 W2 W1.heap.size w1.heap.size 69 3 R1 rs.length d1 (t3s rs) := by rw [hW]; exact rowT
 have hr_n : Row2 W2 (w1.heap.size + 1) W2.heap.size 3 1 (some ⟨w1.heap.size + 1, 0, none⟩) 0 0 (ints []) := Row2.born (by rw [hW]; exact ownEmpty' _ _ _ _ _ (by simp) (by simp))
 clear hW kc_p kf_p kc_r kf_r
 refine (H1.out _ hB).mono ?_
 rintro e w2 ⟨rfl, hb⟩
 replace hB := hB.trans (Below.mono hb hB.size)
 have hz_w2 : W2.heap.size ≤ w2.heap.size := Below.size hb
 replace kb_r := kb_r.mv hb; obtain ⟨kb_r, kc_r, kf_r, hl_r, hn_r⟩ := kb_r
 replace kb_s := kb_s.mv hb; obtain ⟨kb_s, kc_s, kf_s, hl_s, hn_s⟩ := kb_s
 replace hr_e := Row2.below hr_e hb (by omega)
 replace hr_s := Row2.below hr_s hb (by omega)
 replace hr_n := Row2.below hr_n hb (by omega)
 clear hb
 go_wp2_with fail
 refine bodyPost_ret (v := .tuple #[.agg #[.int .i64 room, .int .i64 start, .slice A1 l.length c1, .int .i64 lv, .int .i64 ra, .int .i64 dr, .int .i64 lo, .slice R1 rs.length d1], .slice (some ⟨w1.heap.size + 1, 0, none⟩) 0 0]) ?_ rfl ?_
 ·simp [results, Tryz.results23, go_sem, kc_r, hl_r, hn_r, kc_s, hl_s, hn_s]
 ·exact ⟨A1, c1, R1, d1, some ⟨w1.heap.size + 1, 0, none⟩, 0, rfl, W1.heap.size, w1.heap.size, w1.heap.size + 1, W2.heap.size, by omega, (by exact oT), by omega, (by exact oT), by omega, (show Row2 _ (W1.heap.size) (w1.heap.size) 120 3 A1 l.length c1 (t3s l) by exact rowT), (show Row2 _ (W1.heap.size) (w1.heap.size) 69 3 R1 rs.length d1 (t3s rs) by exact rowT), (show Row2 _ (w1.heap.size + 1) W2.heap.size 3 1 (some ⟨w1.heap.size + 1, 0, none⟩) 0 0 (ints []) by exact rowT), by exact tacT⟩
set_option maxHeartbeats 3200000 in
theorem RunActsS_l (A : Option Addr) (c : Nat) (R : Option Addr) (d : Nat) (v : Vg) (B : Option Addr) (n : Nat) (acts : List T3) (w : World) (h : RdT w w.heap.size A c v.book.evs) (h' : RdT w w.heap.size R d v.rights) (ha : RdT w w.heap.size B n acts) (hs : v.book.evs.length + v.rights.length ≤ 1048576) (hv : villageOk v = true) (hgt : ¬ acts.length ≤ 40) :
  Calls Tryz.prog 23 #[v.val A c R d, .slice B acts.length n] w (RunRet (runActs v acts) w) := by
 obtain ⟨hbl, hbm⟩ := ha.le
 have hB := Below.refl w.heap.size w
 have h1 := fun (W : World) (hb : Below w.heap.size w W) => VillageOkS_any A c R d v W (h.below hb) (h'.below hb) (by omega)
 have h3 := fun (W : World) (hb : Below w.heap.size w W) => l38Copy_any A c R d v W (h.below hb) (h'.below hb) (by omega) (by omega)
 have hst : runActs v acts = (v, []) := by unfold runActs; rw [if_neg (by intro h9; exact hgt h9.2)]
 rw [hst]
 rw [hv] at h1
 have hg1 : (40 : Int) < (acts.length : Int) := by omega
 clear hgt
 unfold RunRet
 unfold VgOwn at h3
 unfold Vg.val at h1 h3 ⊢
 obtain ⟨⟨room, start, l, lv, ra, dr, lo⟩, rs⟩ := v
 simp only at h h' hs h1 h3 ⊢
 have H1 := Lib.hid h1
 have H3 := Lib.hid h3
 clear h1 h3 hst hv
 go_enter Tryz.func23, Tryz.ntmps23
 go_wp2_with fail
 first | refine name_world ?_ | refine name_wp ?_
 intro W1 hW
 replace hB : Below w.heap.size w W1 := by rw [hW]; exact tacT
 have hz_W1 : w.heap.size ≤ W1.heap.size := by rw [hW]; exact sT
 replace kb_p : Blk W1 (w.heap.size) 35 #[.int .i64 room, .int .i64 start, .slice A l.length c, .int .i64 lv, .int .i64 ra, .int .i64 dr, .int .i64 lo, .slice R rs.length d] := by rw [hW]; exact blkT
 have hLW1_p := kb_p.lt
 replace kb_r : Blk W1 (w.heap.size + 1) 35 #[.int .i64 0, .int .i64 0, .slice none 0 0, .int .i64 0, .int .i64 0, .int .i64 0, .int .i64 0, .slice none 0 0] := by rw [hW]; exact blkT
 have hLW1_r := kb_r.lt
 try clear kc_p kf_p
 try clear kc_r kf_r
 clear hW
 refine (H3.out _ hB).mono ?_
 rintro e w1 ⟨A1, c1, R1, d1, rfl, ⟨ho1, ho2⟩, hb⟩
 have hr_e := Row2.born ho1
 have hr_s := Row2.born ho2
 clear ho1 ho2
 replace hB := hB.trans (Below.mono hb hB.size)
 have hz_w1 : W1.heap.size ≤ w1.heap.size := Below.size hb
 replace kb_p := kb_p.mv hb; obtain ⟨kb_p, kc_p, kf_p, hl_p, hn_p⟩ := kb_p
 replace kb_r := kb_r.mv hb; obtain ⟨kb_r, kc_r, kf_r, hl_r, hn_r⟩ := kb_r
 clear hb
 go_wp2_with fail
 first | refine name_world ?_ | refine name_wp ?_
 intro W2 hW
 replace hB : Below w.heap.size w W2 := by rw [hW]; exact tacT
 have hz_W2 : w1.heap.size + 2 ≤ W2.heap.size := by rw [hW]; exact sT
 replace kb_p : Blk W2 (w.heap.size) 35 #[.int .i64 room, .int .i64 start, .slice A l.length c, .int .i64 lv, .int .i64 ra, .int .i64 dr, .int .i64 lo, .slice R rs.length d] := by rw [hW]; exact blkT
 replace kb_r : Blk W2 (w.heap.size + 1) 35 #[.int .i64 0, .int .i64 0, .slice none 0 0, .int .i64 0, .int .i64 0, .int .i64 0, .int .i64 0, .slice none 0 0] := by rw [hW]; exact blkT
 have kb_s : Blk W2 (w1.heap.size) 35 #[.int .i64 room, .int .i64 start, .slice A1 l.length c1, .int .i64 lv, .int .i64 ra, .int .i64 dr, .int .i64 lo, .slice R1 rs.length d1] := by rw [hW]; exact blkT
 have hLW2_s := kb_s.lt
 replace hr_e : Row2 W2 W1.heap.size w1.heap.size 120 3 A1 l.length c1 (t3s l) := by rw [hW]; exact rowT
 replace hr_s : Row2 W2 W1.heap.size w1.heap.size 69 3 R1 rs.length d1 (t3s rs) := by rw [hW]; exact rowT
 have hr_n : Row2 W2 (w1.heap.size + 1) W2.heap.size 3 1 (some ⟨w1.heap.size + 1, 0, none⟩) 0 0 (ints []) := Row2.born (by rw [hW]; exact ownEmpty' _ _ _ _ _ (by simp) (by simp))
 clear hW kc_p kf_p kc_r kf_r
 refine (H1.out _ hB).mono ?_
 rintro e w2 ⟨rfl, hb⟩
 replace hB := hB.trans (Below.mono hb hB.size)
 have hz_w2 : W2.heap.size ≤ w2.heap.size := Below.size hb
 replace kb_r := kb_r.mv hb; obtain ⟨kb_r, kc_r, kf_r, hl_r, hn_r⟩ := kb_r
 replace kb_s := kb_s.mv hb; obtain ⟨kb_s, kc_s, kf_s, hl_s, hn_s⟩ := kb_s
 replace hr_e := Row2.below hr_e hb (by omega)
 replace hr_s := Row2.below hr_s hb (by omega)
 replace hr_n := Row2.below hr_n hb (by omega)
 clear hb
 go_wp2_with fail
 refine bodyPost_ret (v := .tuple #[.agg #[.int .i64 room, .int .i64 start, .slice A1 l.length c1, .int .i64 lv, .int .i64 ra, .int .i64 dr, .int .i64 lo, .slice R1 rs.length d1], .slice (some ⟨w1.heap.size + 1, 0, none⟩) 0 0]) ?_ rfl ?_
 ·simp [results, Tryz.results23, go_sem, kc_r, hl_r, hn_r, kc_s, hl_s, hn_s]
 ·exact ⟨A1, c1, R1, d1, some ⟨w1.heap.size + 1, 0, none⟩, 0, rfl, W1.heap.size, w1.heap.size, w1.heap.size + 1, W2.heap.size, by omega, (by exact oT), by omega, (by exact oT), by omega, (show Row2 _ (W1.heap.size) (w1.heap.size) 120 3 A1 l.length c1 (t3s l) by exact rowT), (show Row2 _ (W1.heap.size) (w1.heap.size) 69 3 R1 rs.length d1 (t3s rs) by exact rowT), (show Row2 _ (w1.heap.size + 1) W2.heap.size 3 1 (some ⟨w1.heap.size + 1, 0, none⟩) 0 0 (ints []) by exact rowT), by exact tacT⟩
set_option maxHeartbeats 6400000 in
theorem RunActsS_y (A : Option Addr) (c : Nat) (R : Option Addr) (d : Nat) (v : Vg) (B : Option Addr) (n : Nat) (acts : List T3) (w : World) (h : RdT w w.heap.size A c v.book.evs) (h' : RdT w w.heap.size R d v.rights) (ha : RdT w w.heap.size B n acts) (hs : v.book.evs.length + v.rights.length ≤ 1048576) (hv : villageOk v = true) (hle : acts.length ≤ 40) :
  Calls Tryz.prog 23 #[v.val A c R d, .slice B acts.length n] w (RunRet (runActs v acts) w) := by
 obtain ⟨hbl, hbm⟩ := ha.le
 have hB := Below.refl w.heap.size w
 have h1 := fun (W : World) (hb : Below w.heap.size w W) => VillageOkS_any A c R d v W (h.below hb) (h'.below hb) (by omega)
 have h3 := fun (W : World) (hb : Below w.heap.size w W) => l38Copy_any A c R d v W (h.below hb) (h'.below hb) (by omega) (by omega)
 have hst : runActs v acts = runL v acts := by unfold runActs; rw [if_pos ⟨hv, hle⟩]
 rw [hst]
 have HRL : Hid (∀ k, k ≤ acts.length → (runL v (acts.take k)).2.length = k ∧ (runL v (acts.take k)).1.book.evs.length ≤ 40 + k ∧ (runL v (acts.take k)).1.rights.length ≤ 12 + 12 * k) := fun k hk => by
  have h8 := runL_facts v acts k hk
  have h9 := vg_lens hv
  omega
 have HV0 : Hid (runL v (acts.take 0) = (v, [])) := runL_nil v
 have HVL : Hid (runL v acts = runL v (acts.take acts.length)) := by show _ = _; rw [List.take_length]
 have HDO : Hid (∀ (cv cv2 : Vg) (m : Int) (x y z : Int) (A : Option Addr) (c : Nat) (R : Option Addr) (d : Nat) (W : World), doAct cv x y z = (cv2, m) → RdT W W.heap.size A c cv.book.evs → RdT W W.heap.size R d cv.rights → cv.book.evs.length + cv.rights.length ≤ 1048576 → Calls Tryz.prog 48 #[.agg #[.int .i64 cv.book.room, .int .i64 cv.book.start, .slice A cv.book.evs.length c, .int .i64 cv.book.level, .int .i64 cv.book.rained, .int .i64 cv.book.drunk, .int .i64 cv.book.lost, .slice R cv.rights.length d], .agg #[.int .i64 x, .int .i64 y, .int .i64 z]] W fun e w' => ∃ A c R d, e = .returned (.tuple #[.agg #[.int .i64 cv2.book.room, .int .i64 cv2.book.start, .slice A cv2.book.evs.length c, .int .i64 cv2.book.level, .int .i64 cv2.book.rained, .int .i64 cv2.book.drunk, .int .i64 cv2.book.lost, .slice R cv2.rights.length d], .int .i64 m]) ∧ w'.ownsRow W.heap.size 120 3 (.slice A cv2.book.evs.length c) cv2.book.evs.length (t3s cv2.book.evs) ∧ w'.ownsRow W.heap.size 69 3 (.slice R cv2.rights.length d) cv2.rights.length (t3s cv2.rights) ∧ Below W.heap.size W w') := fun cv cv2 m x y z A c R d W he q1 q2 q3 => by
  have h9 := DoActS_any A c R d cv x y z W q1 q2 q3
  rw [he] at h9
  exact h9
 have HNX : Hid (∀ (cv cv2 : Vg) (nm : List Int) (k : Nat) (a : T3) (m : Int), runL v (acts.take k) = (cv, nm) → acts[k]? = some a → doAct cv a.x a.y a.z = (cv2, m) → runL v (acts.take (k + 1)) = (cv2, nm ++ [m])) := fun _ _ _ _ _ _ => runL_next
 rw [hv] at h1
 unfold RunRet
 unfold VgOwn at h3
 unfold Vg.val at h1 h3 ⊢
 obtain ⟨F, hF⟩ : ∃ F, F = runL v := ⟨_, rfl⟩
 rw [← hF] at HRL HV0 HVL HNX ⊢
 clear hF hst hv
 obtain ⟨⟨room, start, l, lv, ra, dr, lo⟩, rs⟩ := v
 simp only at h h' hs h1 h3 ⊢
 have H1 := Lib.hid h1
 have H3 := Lib.hid h3
 clear h1 h3
 go_enter Tryz.func23, Tryz.ntmps23
 go_wp2_with fail
 first | refine name_world ?_ | refine name_wp ?_
 intro W1 hW
 replace hB : Below w.heap.size w W1 := by rw [hW]; exact tacT
 have hz_W1 : w.heap.size ≤ W1.heap.size := by rw [hW]; exact sT
 replace kb_p : Blk W1 (w.heap.size) 35 #[.int .i64 room, .int .i64 start, .slice A l.length c, .int .i64 lv, .int .i64 ra, .int .i64 dr, .int .i64 lo, .slice R rs.length d] := by rw [hW]; exact blkT
 have hLW1_p := kb_p.lt
 replace kb_r : Blk W1 (w.heap.size + 1) 35 #[.int .i64 0, .int .i64 0, .slice none 0 0, .int .i64 0, .int .i64 0, .int .i64 0, .int .i64 0, .slice none 0 0] := by rw [hW]; exact blkT
 have hLW1_r := kb_r.lt
 try clear kc_p kf_p
 try clear kc_r kf_r
 clear hW
 refine (H3.out _ hB).mono ?_
 rintro e w1 ⟨A1, c1, R1, d1, rfl, ⟨ho1, ho2⟩, hb⟩
 have hr_e := Row2.born ho1
 have hr_s := Row2.born ho2
 clear ho1 ho2
 replace hB := hB.trans (Below.mono hb hB.size)
 have hz_w1 : W1.heap.size ≤ w1.heap.size := Below.size hb
 replace kb_p := kb_p.mv hb; obtain ⟨kb_p, kc_p, kf_p, hl_p, hn_p⟩ := kb_p
 replace kb_r := kb_r.mv hb; obtain ⟨kb_r, kc_r, kf_r, hl_r, hn_r⟩ := kb_r
 clear hb
 go_wp2_with fail
 first | refine name_world ?_ | refine name_wp ?_
 intro W2 hW
 replace hB : Below w.heap.size w W2 := by rw [hW]; exact tacT
 have hz_W2 : w1.heap.size + 2 ≤ W2.heap.size := by rw [hW]; exact sT
 replace kb_p : Blk W2 (w.heap.size) 35 #[.int .i64 room, .int .i64 start, .slice A l.length c, .int .i64 lv, .int .i64 ra, .int .i64 dr, .int .i64 lo, .slice R rs.length d] := by rw [hW]; exact blkT
 replace kb_r : Blk W2 (w.heap.size + 1) 35 #[.int .i64 0, .int .i64 0, .slice none 0 0, .int .i64 0, .int .i64 0, .int .i64 0, .int .i64 0, .slice none 0 0] := by rw [hW]; exact blkT
 have kb_s : Blk W2 (w1.heap.size) 35 #[.int .i64 room, .int .i64 start, .slice A1 l.length c1, .int .i64 lv, .int .i64 ra, .int .i64 dr, .int .i64 lo, .slice R1 rs.length d1] := by rw [hW]; exact blkT
 have hLW2_s := kb_s.lt
 replace hr_e : Row2 W2 W1.heap.size w1.heap.size 120 3 A1 l.length c1 (t3s l) := by rw [hW]; exact rowT
 replace hr_s : Row2 W2 W1.heap.size w1.heap.size 69 3 R1 rs.length d1 (t3s rs) := by rw [hW]; exact rowT
 have hr_n : Row2 W2 (w1.heap.size + 1) W2.heap.size 3 1 (some ⟨w1.heap.size + 1, 0, none⟩) 0 0 (ints []) := Row2.born (by rw [hW]; exact ownEmpty' _ _ _ _ _ (by simp) (by simp))
 clear hW kc_p kf_p kc_r kf_r
 refine (H1.out _ hB).mono ?_
 rintro e w2 ⟨rfl, hb⟩
 have hle2 : (acts.length : Int) ≤ 40 := by omega
 have hrW : w.heap.size + 1 < W1.heap.size := hLW1_r
 replace hB := hB.trans (Below.mono hb hB.size)
 have hz_w2 : W2.heap.size ≤ w2.heap.size := Below.size hb
 replace kb_r := kb_r.mv hb; obtain ⟨kb_r, kc_r, kf_r, hl_r, hn_r⟩ := kb_r
 replace kb_s := kb_s.mv hb; obtain ⟨kb_s, kc_s, kf_s, hl_s, hn_s⟩ := kb_s
 replace hr_e := Row2.below hr_e hb (by omega)
 replace hr_s := Row2.below hr_s hb (by omega)
 replace hr_n := Row2.below hr_n hb (by omega)
 clear hb
 have K0 := Lib.hid (And.intro kb_r (And.intro kb_s (And.intro hr_e (And.intro hr_s hB))))
 have N0 : Hid (Row2 w2 (w1.heap.size + 1) W2.heap.size 3 1 (some ⟨w1.heap.size + 1, 0, none⟩) 0 0 (ints [])) := hr_n
 have hq1 : w1.heap.size ≤ w2.heap.size ∧ W2.heap.size ≤ w2.heap.size := ⟨by omega, by omega⟩
 have HZ0 : Hid (w1.heap.size + 2 ≤ w2.heap.size) := by show _ ≤ _; omega
 clear kb_r kb_s hr_e hr_s hr_n hB kc_r kf_r kc_s kf_s
 go_wp2_with fail
 go_loopw [7, 8] (fun acc i wr => ∃ (k : Nat) (A : Option Addr) (c : Nat) (R : Option Addr) (d : Nat) (B : Option Addr) (n : Nat) (cv : Vg) (nm : List Int) (la lb na nb : Nat), k ≤ acts.length ∧ i = .int .i64 k ∧ acc = .slice B nm.length n ∧ (W1.heap.size ≤ la ∧ lb ≤ wr.heap.size ∧ w1.heap.size + 1 ≤ na ∧ nb ≤ wr.heap.size ∧ na ≤ wr.heap.size ∧ (lb ≤ na ∨ nb ≤ la)) ∧ Hid (F (acts.take k) = (cv, nm)) ∧ Hid (Blk wr (w.heap.size + 1) 35 #[.int .i64 0, .int .i64 0, .slice none 0 0, .int .i64 0, .int .i64 0, .int .i64 0, .int .i64 0, .slice none 0 0] ∧ Blk wr w1.heap.size 35 #[.int .i64 cv.book.room, .int .i64 cv.book.start, .slice A cv.book.evs.length c, .int .i64 cv.book.level, .int .i64 cv.book.rained, .int .i64 cv.book.drunk, .int .i64 cv.book.lost, .slice R cv.rights.length d] ∧ Row2 wr la lb 120 3 A cv.book.evs.length c (t3s cv.book.evs) ∧ Row2 wr la lb 69 3 R cv.rights.length d (t3s cv.rights) ∧ Below w.heap.size w wr) ∧ Hid (Row2 wr na nb 3 1 B nm.length n (ints nm)) ∧ Hid (w1.heap.size + 2 ≤ wr.heap.size)) (fun _ i _ => acts.length - (intOf i).toNat)
 case atStart => exact ⟨0, A1, c1, R1, d1, some ⟨w1.heap.size + 1, 0, none⟩, 0, ⟨⟨room, start, l, lv, ra, dr, lo⟩, rs⟩, [], W1.heap.size, w1.heap.size, w1.heap.size + 1, W2.heap.size, Nat.zero_le _, rfl, rfl, ⟨Nat.le_refl _, hq1.1, Nat.le_refl _, hq1.2, by omega, .inl (by omega)⟩, HV0.out, K0.out, N0.out, HZ0.out⟩
 case round =>
  clear K0 HZ0 N0
  obtain ⟨k, A2, c2, R2, d2, B2, n2, cv, nm, la, lb, na, nb, hk, rfl, rfl, hint, HE, HK, HN, HZ⟩ := hrel
  have kb_r := HK.out.1
  have kb_s := HK.out.2.1
  have hr_e := HK.out.2.2.1
  have hr_s := HK.out.2.2.2.1
  have hB := HK.out.2.2.2.2
  have hz2 := HZ.out
  have hzW := hz_W1
  have HNL : Hid (nm.length = k ∧ cv.book.evs.length ≤ 40 + k ∧ cv.rights.length ≤ 12 + 12 * k) := by have h9 := HRL.out k hk; rw [HE.out] at h9; exact h9
  have hn40 : nm.length ≤ 40 ∧ cv.book.evs.length + cv.rights.length ≤ 1048576 := by have h9 := HNL.out; omega
  have kc_s := kb_s.cells
  have kf_s := kb_s.frozens
  have hl_s := kb_s.lt
  have hn_s := Nat.ne_of_lt hl_s
  have kc_r := kb_r.cells
  have kf_r := kb_r.frozens
  have hl_r := kb_r.lt
  have hn_r := Nat.ne_of_lt hl_r
  by_cases hlt : k < acts.length
  ·obtain ⟨b, o, a, rfl, hb, hx, q0, q1, q2⟩ := ha.at_ hlt
   obtain ⟨⟨cv2, m⟩, hE2⟩ : ∃ q, doAct cv a.x a.y a.z = q := ⟨_, rfl⟩
   have f0 : wr.cell? ⟨b, o + k * 3, none⟩ = some (.int .i64 a.x) := (hB.cell (p := ⟨b, _, none⟩) hb).trans q0
   have f1 : wr.cell? ⟨b, o + k * 3 + 1, none⟩ = some (.int .i64 a.y) := (hB.cell (p := ⟨b, _, none⟩) hb).trans q1
   have f2 : wr.cell? ⟨b, o + k * 3 + 2, none⟩ = some (.int .i64 a.z) := (hB.cell (p := ⟨b, _, none⟩) hb).trans q2
   have hbr : b < wr.heap.size := by omega
   have HA := Lib.hid (HNX.out cv cv2 nm k a m HE.out hx hE2)
   have HD := Lib.hid (fun W p1 p2 => HDO.out cv cv2 m a.x a.y a.z A2 c2 R2 d2 W hE2 p1 p2 hn40.2)
   have hki : (k : Int) < (acts.length : Int) := by omega
   have k0 : (0 : Int) ≤ (k : Int) := by omega
   have hr_n := HN.out
   clear hx hE2 q0 q1 q2 HK HN HE
   go_wp2_with fail
   go_region_held3 (fun w' => w'.cell? ⟨w1.heap.size, 0, none⟩ = some (.int .i64 cv.book.room) ∧ w'.cell? ⟨w1.heap.size, 1, none⟩ = some (.int .i64 cv.book.start) ∧ w'.cell? ⟨w1.heap.size, 2, none⟩ = some (.slice A2 cv.book.evs.length c2) ∧ w'.cell? ⟨w1.heap.size, 3, none⟩ = some (.int .i64 cv.book.level) ∧ w'.cell? ⟨w1.heap.size, 4, none⟩ = some (.int .i64 cv.book.rained) ∧ w'.cell? ⟨w1.heap.size, 5, none⟩ = some (.int .i64 cv.book.drunk) ∧ w'.cell? ⟨w1.heap.size, 6, none⟩ = some (.int .i64 cv.book.lost) ∧ w'.cell? ⟨w1.heap.size, 7, none⟩ = some (.slice R2 cv.rights.length d2) ∧ w'.cell? ⟨b, o + k * 3, none⟩ = some (.int .i64 a.x) ∧ w'.cell? ⟨b, o + k * 3 + 1, none⟩ = some (.int .i64 a.y) ∧ w'.cell? ⟨b, o + k * 3 + 2, none⟩ = some (.int .i64 a.z)) (first | (with_reducible exact ⟨kc_s 0, kc_s 1, kc_s 2, kc_s 3, kc_s 4, kc_s 5, kc_s 6, kc_s 7, f0, f1, f2⟩) | (refine ⟨?_, ?_, ?_, ?_, ?_, ?_, ?_, ?_, ?_, ?_, ?_⟩ <;> simp [go_sem, kc_s 0, kc_s 1, kc_s 2, kc_s 3, kc_s 4, kc_s 5, kc_s 6, kc_s 7, f0, f1, f2, hbr, hl_s]; done) | (with_reducible exact ⟨y4_0, y4_1, y4_2, y4_3, y4_4, y4_5, y4_6, y4_7, y4_8, y4_9, y4_10⟩) | (refine ⟨?_, ?_, ?_, ?_, ?_, ?_, ?_, ?_, ?_, ?_, ?_⟩ <;> simp [go_sem, y4_0, y4_1, y4_2, y4_3, y4_4, y4_5, y4_6, y4_7, y4_8, y4_9, y4_10, hbr, hl_s, n4_0, l4_0, n4_1, l4_1, n4_2, l4_2, n4_3, l4_3, n4_4, l4_4, n4_5, l4_5, n4_6, l4_6, n4_7, l4_7, n4_8, l4_8, n4_9, l4_9, n4_10, l4_10]; done) | exact ⟨kc_s 0, kc_s 1, kc_s 2, kc_s 3, kc_s 4, kc_s 5, kc_s 6, kc_s 7, f0, f1, f2⟩)
    (((go_at_call 48; refine (HD.out _ (show Row2 _ la lb 120 3 A2 cv.book.evs.length c2 (t3s cv.book.evs) by exact rowT).rd (show Row2 _ la lb 69 3 R2 cv.rights.length d2 (t3s cv.rights) by exact rowT).rd).mono ?_; rintro e w4 ⟨A4, c4, R4, d4, rfl, ho1, ho2, hb4⟩; have hB4 : Below w.heap.size w w4 := (by exact tacT); have hz4 : wr.heap.size ≤ w4.heap.size := (by have hzz := Below.size hb4; first | omega | (simp at hzz; omega)); have l4_0 : w1.heap.size < w4.heap.size := (by omega); have n4_0 := Nat.ne_of_lt l4_0; have y4_0 : w4.cell? ⟨w1.heap.size, 0, none⟩ = some (.int .i64 cv.book.room) := (Below.cell hb4 (p := ⟨w1.heap.size, 0, none⟩) (by first | (simp; done) | (simp; omega) | omega)).trans (by first | exact kc_s 0 | (simp [go_sem, kc_s 0, hbr, hl_s]; done)); have l4_1 : w1.heap.size < w4.heap.size := (by omega); have n4_1 := Nat.ne_of_lt l4_1; have y4_1 : w4.cell? ⟨w1.heap.size, 1, none⟩ = some (.int .i64 cv.book.start) := (Below.cell hb4 (p := ⟨w1.heap.size, 1, none⟩) (by first | (simp; done) | (simp; omega) | omega)).trans (by first | exact kc_s 1 | (simp [go_sem, kc_s 1, hbr, hl_s]; done)); have l4_2 : w1.heap.size < w4.heap.size := (by omega); have n4_2 := Nat.ne_of_lt l4_2; have y4_2 : w4.cell? ⟨w1.heap.size, 2, none⟩ = some (.slice A2 cv.book.evs.length c2) := (Below.cell hb4 (p := ⟨w1.heap.size, 2, none⟩) (by first | (simp; done) | (simp; omega) | omega)).trans (by first | exact kc_s 2 | (simp [go_sem, kc_s 2, hbr, hl_s]; done)); have l4_3 : w1.heap.size < w4.heap.size := (by omega); have n4_3 := Nat.ne_of_lt l4_3; have y4_3 : w4.cell? ⟨w1.heap.size, 3, none⟩ = some (.int .i64 cv.book.level) := (Below.cell hb4 (p := ⟨w1.heap.size, 3, none⟩) (by first | (simp; done) | (simp; omega) | omega)).trans (by first | exact kc_s 3 | (simp [go_sem, kc_s 3, hbr, hl_s]; done)); have l4_4 : w1.heap.size < w4.heap.size := (by omega); have n4_4 := Nat.ne_of_lt l4_4; have y4_4 : w4.cell? ⟨w1.heap.size, 4, none⟩ = some (.int .i64 cv.book.rained) := (Below.cell hb4 (p := ⟨w1.heap.size, 4, none⟩) (by first | (simp; done) | (simp; omega) | omega)).trans (by first | exact kc_s 4 | (simp [go_sem, kc_s 4, hbr, hl_s]; done)); have l4_5 : w1.heap.size < w4.heap.size := (by omega); have n4_5 := Nat.ne_of_lt l4_5; have y4_5 : w4.cell? ⟨w1.heap.size, 5, none⟩ = some (.int .i64 cv.book.drunk) := (Below.cell hb4 (p := ⟨w1.heap.size, 5, none⟩) (by first | (simp; done) | (simp; omega) | omega)).trans (by first | exact kc_s 5 | (simp [go_sem, kc_s 5, hbr, hl_s]; done)); have l4_6 : w1.heap.size < w4.heap.size := (by omega); have n4_6 := Nat.ne_of_lt l4_6; have y4_6 : w4.cell? ⟨w1.heap.size, 6, none⟩ = some (.int .i64 cv.book.lost) := (Below.cell hb4 (p := ⟨w1.heap.size, 6, none⟩) (by first | (simp; done) | (simp; omega) | omega)).trans (by first | exact kc_s 6 | (simp [go_sem, kc_s 6, hbr, hl_s]; done)); have l4_7 : w1.heap.size < w4.heap.size := (by omega); have n4_7 := Nat.ne_of_lt l4_7; have y4_7 : w4.cell? ⟨w1.heap.size, 7, none⟩ = some (.slice R2 cv.rights.length d2) := (Below.cell hb4 (p := ⟨w1.heap.size, 7, none⟩) (by first | (simp; done) | (simp; omega) | omega)).trans (by first | exact kc_s 7 | (simp [go_sem, kc_s 7, hbr, hl_s]; done)); have l4_8 : b < w4.heap.size := (by omega); have n4_8 := Nat.ne_of_lt l4_8; have y4_8 : w4.cell? ⟨b, o + k * 3, none⟩ = some (.int .i64 a.x) := (Below.cell hb4 (p := ⟨b, o + k * 3, none⟩) (by first | (simp; done) | (simp; omega) | omega)).trans (by first | exact f0 | (simp [go_sem, f0, hbr, hl_s]; done)); have l4_9 : b < w4.heap.size := (by omega); have n4_9 := Nat.ne_of_lt l4_9; have y4_9 : w4.cell? ⟨b, o + k * 3 + 1, none⟩ = some (.int .i64 a.y) := (Below.cell hb4 (p := ⟨b, o + k * 3 + 1, none⟩) (by first | (simp; done) | (simp; omega) | omega)).trans (by first | exact f1 | (simp [go_sem, f1, hbr, hl_s]; done)); have l4_10 : b < w4.heap.size := (by omega); have n4_10 := Nat.ne_of_lt l4_10; have y4_10 : w4.cell? ⟨b, o + k * 3 + 2, none⟩ = some (.int .i64 a.z) := (Below.cell hb4 (p := ⟨b, o + k * 3 + 2, none⟩) (by first | (simp; done) | (simp; omega) | omega)).trans (by first | exact f2 | (simp [go_sem, f2, hbr, hl_s]; done)); have kb4_r : Blk w4 (w.heap.size + 1) 35 #[.int .i64 0, .int .i64 0, .slice none 0 0, .int .i64 0, .int .i64 0, .int .i64 0, .int .i64 0, .slice none 0 0] := Blk.below (by exact blkT) hb4 (by first | (simp; done) | (simp; omega) | omega); have kc4_r := kb4_r.cells; have kf4_r := kb4_r.frozens; have hl4_r := kb4_r.lt; have hn4_r := Nat.ne_of_lt hl4_r; have kb4_s : Blk w4 (w1.heap.size) 35 #[.int .i64 cv.book.room, .int .i64 cv.book.start, .slice A2 cv.book.evs.length c2, .int .i64 cv.book.level, .int .i64 cv.book.rained, .int .i64 cv.book.drunk, .int .i64 cv.book.lost, .slice R2 cv.rights.length d2] := Blk.below (by exact blkT) hb4 (by first | (simp; done) | (simp; omega) | omega); have kc4_s := kb4_s.cells; have kf4_s := kb4_s.frozens; have hl4_s := kb4_s.lt; have hn4_s := Nat.ne_of_lt hl4_s; try (have kb9 : Blk w4 wr.heap.size 35 #[.int .i64 0, .int .i64 0, .slice none 0 0, .int .i64 0, .int .i64 0, .int .i64 0, .int .i64 0, .slice none 0 0] := Blk.below (by exact blkT) hb4 (by exact sT); have kc9 := kb9.cells; have kf9 := kb9.frozens; have hl9 := kb9.lt; have hn9 := Nat.ne_of_lt hl9; have m0 : w1.heap.size ≠ wr.heap.size := (by omega); have k0 : wr.heap.size ≠ w1.heap.size := (by omega); have m1 : b ≠ wr.heap.size := (by omega); have k1 : wr.heap.size ≠ b := (by omega); have m2 : w.heap.size + 1 ≠ wr.heap.size := (by omega); have k2 : wr.heap.size ≠ w.heap.size + 1 := (by omega)))))
   all_goals first
    |(refine (fun (hr_e4 : Row2 w4 (wr.heap.size + 1) w4.heap.size 120 3 A4 cv2.book.evs.length c4 (t3s cv2.book.evs)) => ?_) (Row2.mono (Row2.born ho1) ?_ (Nat.le_refl _))
      rotate_left
      focus (first | exact Nat.le_refl _ | (simp; done))
      refine (fun (hr_s4 : Row2 w4 (wr.heap.size + 1) w4.heap.size 69 3 R4 cv2.rights.length d4 (t3s cv2.rights)) => ?_) (Row2.mono (Row2.born ho2) ?_ (Nat.le_refl _))
      rotate_left
      focus (first | exact Nat.le_refl _ | (simp; done))
      have hr_n4 : Row2 w4 na nb 3 1 B2 nm.length n2 (ints nm) := Row2.below (show Row2 _ na nb 3 1 B2 nm.length n2 (ints nm) by exact rowT) hb4 (by show nb ≤ _; first | (simp; omega) | omega)
      clear hr_e hr_s hr_n ho1 ho2 f0 f1 f2
      have hl4s := kb4_s.lt
      replace hB := hB4
      go_upto_region 10 with fail
      first | refine name_world ?_ | refine name_wp ?_
      intro W5 hW
      replace hB : Below w.heap.size w W5 := by rw [hW]; exact tacT
      have hz_W5 : w4.heap.size ≤ W5.heap.size := by rw [hW]; exact sT
      replace kb_r : Blk W5 (w.heap.size + 1) 35 #[.int .i64 0, .int .i64 0, .slice none 0 0, .int .i64 0, .int .i64 0, .int .i64 0, .int .i64 0, .slice none 0 0] := by rw [hW]; exact blkT
      have hLW5_r := kb_r.lt
      replace kb_s : Blk W5 (w1.heap.size) 35 #[.int .i64 cv2.book.room, .int .i64 cv2.book.start, .slice A4 cv2.book.evs.length c4, .int .i64 cv2.book.level, .int .i64 cv2.book.rained, .int .i64 cv2.book.drunk, .int .i64 cv2.book.lost, .slice R4 cv2.rights.length d4] := by rw [hW]; exact blkT
      have hLW5_s := kb_s.lt
      replace hr_e4 : Row2 W5 (wr.heap.size + 1) (w4.heap.size) 120 3 A4 (cv2.book.evs.length) c4 (t3s cv2.book.evs) := by rw [hW]; exact rowT
      replace hr_s4 : Row2 W5 (wr.heap.size + 1) (w4.heap.size) 69 3 R4 (cv2.rights.length) d4 (t3s cv2.rights) := by rw [hW]; exact rowT
      replace hr_n4 : Row2 W5 (na) (nb) 3 1 B2 (nm.length) n2 (ints nm) := by rw [hW]; exact rowT
      try clear kc_r kf_r
      try clear kc_s kf_s
      clear hW
      have ho1 : OwnI (W5.alloc (.cells #[.int .i64 m] 3)) na B2 n2 nm := (hr_n4.alloc _).1
      have hz9 : na ≤ W5.heap.size := by omega
      have hn1 := hn40.1
      go_wp2_with (at_builtin; refine wpList_app1_at rfl _ _ rfl na B2 n2 nm rfl ho1 W5.heap.size m rfl (cell_new1 _ _ _) (by omega) (by exact oT) ?_)
      intro B6 n6 w6 ho6 hg6 hd6
      have hc6 := Row2.wrote (hr_n4.alloc _) hg6
      have hB6 := below_grown_own (hB.alloc (by omega) (.cells #[.int .i64 m] 3)) ho1 hg6 (by omega) (by exact oT)
      have hs6 : W5.heap.size + 1 ≤ w6.heap.size := by simpa using hc6.size
      have hr_e6 := Row2.chg (hr_e4.alloc _) hc6 (.inr (by omega))
      have hr_s6 := Row2.chg (hr_s4.alloc _) hc6 (.inr (by omega))
      have kb_s6 : Blk w6 w1.heap.size 35 #[.int .i64 cv2.book.room, .int .i64 cv2.book.start, .slice A4 cv2.book.evs.length c4, .int .i64 cv2.book.level, .int .i64 cv2.book.rained, .int .i64 cv2.book.drunk, .int .i64 cv2.book.lost, .slice R4 cv2.rights.length d4] := (hc6.block _ (kb_s.alloc _).lt (.inl (by omega))).trans (kb_s.alloc _)
      have kb_r6 : Blk w6 (w.heap.size + 1) 35 #[.int .i64 0, .int .i64 0, .slice none 0 0, .int .i64 0, .int .i64 0, .int .i64 0, .int .i64 0, .slice none 0 0] := (hc6.block _ (kb_r.alloc _).lt (.inl (by omega))).trans (kb_r.alloc _)
      have hlen6 : (nm ++ [m]).length = nm.length + 1 := by simp
      obtain ⟨na6, nb6, hint6, hrow6⟩ : ∃ na6 nb6 : Nat, (w1.heap.size + 1 ≤ na6 ∧ nb6 ≤ w6.heap.size ∧ na6 ≤ w6.heap.size ∧ (w4.heap.size ≤ na6 ∨ nb6 ≤ wr.heap.size + 1)) ∧ Row2 w6 na6 nb6 3 1 B6 (nm ++ [m]).length n6 (ints (nm ++ [m])) := by
       rcases app_row hr_n4 ho6 hd6 with h9 | ⟨h9, h8⟩
       ·exact ⟨na, nb, ⟨by omega, by omega, by omega, .inr (by omega)⟩, h9⟩
       ·exact ⟨W5.heap.size + 1, W5.heap.size + 1 + 1, ⟨by omega, by omega, by omega, .inl (by omega)⟩, h9⟩
      have HI6 : Hid (W1.heap.size ≤ wr.heap.size + 1 ∧ w4.heap.size ≤ w6.heap.size ∧ w1.heap.size + 1 ≤ na6 ∧ nb6 ≤ w6.heap.size ∧ na6 ≤ w6.heap.size ∧ (w4.heap.size ≤ na6 ∨ nb6 ≤ wr.heap.size + 1)) := ⟨by omega, by omega, hint6⟩
      have H6 := Lib.hid (And.intro (And.intro kb_r6 (And.intro kb_s6 (And.intro hr_e6 (And.intro hr_s6 hB6)))) (And.intro hrow6 (show w1.heap.size + 2 ≤ w6.heap.size by omega)))
      clear kb_r6 kb_s6 hr_e6 hr_s6 hB6 ho6 hg6 hc6 ho1 hr_n4 kb_r kb_s hr_e4 hr_s4 hB hrow6 hd6 hint6
      go_wp2_with fail
      go_roundw
      case rel => exact ⟨k + 1, A4, c4, R4, d4, B6, n6, cv2, nm ++ [m], wr.heap.size + 1, w4.heap.size, na6, nb6, by omega, by go_num, by rw [hlen6], HI6.out, HA.out, H6.out.1, H6.out.2.1, H6.out.2.2⟩
      case measure => simp [intOf]; omega)
    |(refine (fun (hr_e4 : Row2 w4 (wr.heap.size) w4.heap.size 120 3 A4 cv2.book.evs.length c4 (t3s cv2.book.evs)) => ?_) (Row2.mono (Row2.born ho1) ?_ (Nat.le_refl _))
      rotate_left
      focus (first | exact Nat.le_refl _ | (simp; done))
      refine (fun (hr_s4 : Row2 w4 (wr.heap.size) w4.heap.size 69 3 R4 cv2.rights.length d4 (t3s cv2.rights)) => ?_) (Row2.mono (Row2.born ho2) ?_ (Nat.le_refl _))
      rotate_left
      focus (first | exact Nat.le_refl _ | (simp; done))
      have hr_n4 : Row2 w4 na nb 3 1 B2 nm.length n2 (ints nm) := Row2.below (show Row2 _ na nb 3 1 B2 nm.length n2 (ints nm) by exact rowT) hb4 (by show nb ≤ _; first | (simp; omega) | omega)
      clear hr_e hr_s hr_n ho1 ho2 f0 f1 f2
      have hl4s := kb4_s.lt
      replace hB := hB4
      go_upto_region 10 with fail
      first | refine name_world ?_ | refine name_wp ?_
      intro W5 hW
      replace hB : Below w.heap.size w W5 := by rw [hW]; exact tacT
      have hz_W5 : w4.heap.size ≤ W5.heap.size := by rw [hW]; exact sT
      replace kb_r : Blk W5 (w.heap.size + 1) 35 #[.int .i64 0, .int .i64 0, .slice none 0 0, .int .i64 0, .int .i64 0, .int .i64 0, .int .i64 0, .slice none 0 0] := by rw [hW]; exact blkT
      have hLW5_r := kb_r.lt
      replace kb_s : Blk W5 (w1.heap.size) 35 #[.int .i64 cv2.book.room, .int .i64 cv2.book.start, .slice A4 cv2.book.evs.length c4, .int .i64 cv2.book.level, .int .i64 cv2.book.rained, .int .i64 cv2.book.drunk, .int .i64 cv2.book.lost, .slice R4 cv2.rights.length d4] := by rw [hW]; exact blkT
      have hLW5_s := kb_s.lt
      replace hr_e4 : Row2 W5 (wr.heap.size) (w4.heap.size) 120 3 A4 (cv2.book.evs.length) c4 (t3s cv2.book.evs) := by rw [hW]; exact rowT
      replace hr_s4 : Row2 W5 (wr.heap.size) (w4.heap.size) 69 3 R4 (cv2.rights.length) d4 (t3s cv2.rights) := by rw [hW]; exact rowT
      replace hr_n4 : Row2 W5 (na) (nb) 3 1 B2 (nm.length) n2 (ints nm) := by rw [hW]; exact rowT
      try clear kc_r kf_r
      try clear kc_s kf_s
      clear hW
      have ho1 : OwnI (W5.alloc (.cells #[.int .i64 m] 3)) na B2 n2 nm := (hr_n4.alloc _).1
      have hz9 : na ≤ W5.heap.size := by omega
      have hn1 := hn40.1
      go_wp2_with (at_builtin; refine wpList_app1_at rfl _ _ rfl na B2 n2 nm rfl ho1 W5.heap.size m rfl (cell_new1 _ _ _) (by omega) (by exact oT) ?_)
      intro B6 n6 w6 ho6 hg6 hd6
      have hc6 := Row2.wrote (hr_n4.alloc _) hg6
      have hB6 := below_grown_own (hB.alloc (by omega) (.cells #[.int .i64 m] 3)) ho1 hg6 (by omega) (by exact oT)
      have hs6 : W5.heap.size + 1 ≤ w6.heap.size := by simpa using hc6.size
      have hr_e6 := Row2.chg (hr_e4.alloc _) hc6 (.inr (by omega))
      have hr_s6 := Row2.chg (hr_s4.alloc _) hc6 (.inr (by omega))
      have kb_s6 : Blk w6 w1.heap.size 35 #[.int .i64 cv2.book.room, .int .i64 cv2.book.start, .slice A4 cv2.book.evs.length c4, .int .i64 cv2.book.level, .int .i64 cv2.book.rained, .int .i64 cv2.book.drunk, .int .i64 cv2.book.lost, .slice R4 cv2.rights.length d4] := (hc6.block _ (kb_s.alloc _).lt (.inl (by omega))).trans (kb_s.alloc _)
      have kb_r6 : Blk w6 (w.heap.size + 1) 35 #[.int .i64 0, .int .i64 0, .slice none 0 0, .int .i64 0, .int .i64 0, .int .i64 0, .int .i64 0, .slice none 0 0] := (hc6.block _ (kb_r.alloc _).lt (.inl (by omega))).trans (kb_r.alloc _)
      have hlen6 : (nm ++ [m]).length = nm.length + 1 := by simp
      obtain ⟨na6, nb6, hint6, hrow6⟩ : ∃ na6 nb6 : Nat, (w1.heap.size + 1 ≤ na6 ∧ nb6 ≤ w6.heap.size ∧ na6 ≤ w6.heap.size ∧ (w4.heap.size ≤ na6 ∨ nb6 ≤ wr.heap.size)) ∧ Row2 w6 na6 nb6 3 1 B6 (nm ++ [m]).length n6 (ints (nm ++ [m])) := by
       rcases app_row hr_n4 ho6 hd6 with h9 | ⟨h9, h8⟩
       ·exact ⟨na, nb, ⟨by omega, by omega, by omega, .inr (by omega)⟩, h9⟩
       ·exact ⟨W5.heap.size + 1, W5.heap.size + 1 + 1, ⟨by omega, by omega, by omega, .inl (by omega)⟩, h9⟩
      have HI6 : Hid (W1.heap.size ≤ wr.heap.size ∧ w4.heap.size ≤ w6.heap.size ∧ w1.heap.size + 1 ≤ na6 ∧ nb6 ≤ w6.heap.size ∧ na6 ≤ w6.heap.size ∧ (w4.heap.size ≤ na6 ∨ nb6 ≤ wr.heap.size)) := ⟨by omega, by omega, hint6⟩
      have H6 := Lib.hid (And.intro (And.intro kb_r6 (And.intro kb_s6 (And.intro hr_e6 (And.intro hr_s6 hB6)))) (And.intro hrow6 (show w1.heap.size + 2 ≤ w6.heap.size by omega)))
      clear kb_r6 kb_s6 hr_e6 hr_s6 hB6 ho6 hg6 hc6 ho1 hr_n4 kb_r kb_s hr_e4 hr_s4 hB hrow6 hd6 hint6
      go_wp2_with fail
      go_roundw
      case rel => exact ⟨k + 1, A4, c4, R4, d4, B6, n6, cv2, nm ++ [m], wr.heap.size, w4.heap.size, na6, nb6, by omega, by go_num, by rw [hlen6], HI6.out, HA.out, H6.out.1, H6.out.2.1, H6.out.2.2⟩
      case measure => simp [intOf]; omega)
  ·obtain rfl : k = acts.length := by omega
   have HEE : Hid (F acts = (cv, nm)) := HVL.out.trans HE.out
   have HO := HN
   clear HE HK HN
   go_wp2_with fail
   refine bodyPost_ret (v := .tuple #[.agg #[.int .i64 cv.book.room, .int .i64 cv.book.start, .slice A2 cv.book.evs.length c2, .int .i64 cv.book.level, .int .i64 cv.book.rained, .int .i64 cv.book.drunk, .int .i64 cv.book.lost, .slice R2 cv.rights.length d2], .slice B2 nm.length n2]) ?_ rfl ?_
   ·simp [results, Tryz.results23, go_sem, kc_r, hl_r, hn_r, kc_s, hl_s, hn_s]
   ·rw [HEE.out]
    exact ⟨A2, c2, R2, d2, B2, n2, rfl, la, lb, na, nb, by omega, (by exact oT), by omega, (by exact oT), by omega, (show Row2 _ (la) (lb) 120 3 A2 cv.book.evs.length c2 (t3s cv.book.evs) by exact rowT), (show Row2 _ (la) (lb) 69 3 R2 cv.rights.length d2 (t3s cv.rights) by exact rowT), (show Row2 _ na nb 3 1 B2 nm.length n2 (ints nm) by have hr_n := HO.out; repeat' (first | (with_reducible assumption) | (with_reducible refine Row2.far ?_ ?_ _) | (with_reducible refine Row2.alloc ?_ _) | (with_reducible refine Row2.drewN ?_ _) | (with_reducible refine Row2.drew ?_) | (left; dsimp only; omega) | (right; dsimp only; omega))), by exact tacT⟩
theorem RunActsS_any (A : Option Addr) (c : Nat) (R : Option Addr) (d : Nat) (v : Vg) (B : Option Addr) (n : Nat) (acts : List T3) (w : World) (h : RdT w w.heap.size A c v.book.evs) (h' : RdT w w.heap.size R d v.rights) (ha : RdT w w.heap.size B n acts) (hs : v.book.evs.length + v.rights.length ≤ 1048576) :
  Calls Tryz.prog 23 #[v.val A c R d, .slice B acts.length n] w (RunRet (runActs v acts) w) := by
 cases hv : villageOk v
 ·exact RunActsS_v A c R d v B n acts w h h' ha hs hv
 by_cases hg : acts.length ≤ 40
 ·exact RunActsS_y A c R d v B n acts w h h' ha hs hv hg
 ·exact RunActsS_l A c R d v B n acts w h h' ha hs hv hg
end
end Go.Proofs.YtpmmjhpmheooeaaGreatDoor
