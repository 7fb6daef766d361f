/- Texts of the proof, joined: RunActs, DoActS, RunActsS, IsReplay, ReplayPure, InfoA, To. -/
import Derived.Test.YtpmmjhpmheooeaaGreatDoorQ28
import Derived.Test.YtpmmjhpmheooeaaGreatDoorQ27
import Derived.Test.YtpmmjhpmheooeaaGreatDoorQ1
import Derived.Test.YtpmmjhpmheooeaaGreatDoorQ20
import Derived.Test.YtpmmjhpmheooeaaGreatDoorProg
namespace Go.Proofs.YtpmmjhpmheooeaaGreatDoor
set_option linter.unusedSimpArgs false
set_option linter.unusedVariables false
section
open Go.RowKit
set_option maxRecDepth 20000
set_option maxHeartbeats 3200000 in
theorem RunActs_v (A : Option Addr) (c : Nat) (R : Option Addr) (d : Nat) (v : Vg) (B : Option Addr) (n : Nat) (acts : List T3) (w : World) (h : RdT w w.heap.size A c v.book.evs) (h' : RdT w w.heap.size R d v.rights) (ha : RdT w w.heap.size B n acts) (hs : v.book.evs.length + v.rights.length ≤ 1048576) (hv : villageOk v = false) :
  Calls Tryz.prog 14 #[v.val A c R d, .slice B acts.length n] w (RunRet (runActs v acts) w) := by
 obtain ⟨hbl, hbm⟩ := ha.le
 have hB := Below.refl w.heap.size w
 have h1 := fun (W : World) (hb : Below w.heap.size w W) => VillageOk_any A c R d v W (h.below hb) (h'.below hb) (by omega)
 have h3 := fun (W : World) (hb : Below w.heap.size w W) => copyVillage_any A c R d v W (h.below hb) (h'.below hb) (by omega) (by omega)
 have hst : runActs v acts = (v, []) := by unfold runActs; rw [if_neg (by simp [hv])]
 rw [hst]
 rw [hv] at h1
 unfold RunRet
 unfold VgOwn at h3
 unfold Vg.val at h1 h3 ⊢
 obtain ⟨⟨room, start, l, lv, ra, dr, lo⟩, rs⟩ := v
 simp only at h h' hs h1 h3 ⊢
 have H1 := Lib.hid h1
 have H3 := Lib.hid h3
 clear h1 h3 hst hv
 go_enter Tryz.func14, Tryz.ntmps14
 go_wp2_with fail
 first | refine name_world ?_ | refine name_wp ?_
 intro W1 hW
 replace hB : Below w.heap.size w W1 := by rw [hW]; exact tacT
 have hz_W1 : w.heap.size ≤ W1.heap.size := by rw [hW]; exact sT
 replace kb_p : Blk W1 (w.heap.size) 35 #[.int .i64 room, .int .i64 start, .slice A l.length c, .int .i64 lv, .int .i64 ra, .int .i64 dr, .int .i64 lo, .slice R rs.length d] := by rw [hW]; exact blkT
 have hLW1_p := kb_p.lt
 replace kb_r : Blk W1 (w.heap.size + 1) 35 #[.int .i64 0, .int .i64 0, .slice none 0 0, .int .i64 0, .int .i64 0, .int .i64 0, .int .i64 0, .slice none 0 0] := by rw [hW]; exact blkT
 have hLW1_r := kb_r.lt
 try clear kc_p kf_p
 try clear kc_r kf_r
 clear hW
 refine (H3.out _ hB).mono ?_
 rintro e w1 ⟨A1, c1, R1, d1, rfl, ⟨ho1, ho2⟩, hb⟩
 have hr_e := Row2.born ho1
 have hr_s := Row2.born ho2
 clear ho1 ho2
 replace hB := hB.trans (Below.mono hb hB.size)
 have hz_w1 : W1.heap.size ≤ w1.heap.size := Below.size hb
 replace kb_p := kb_p.mv hb; obtain ⟨kb_p, kc_p, kf_p, hl_p, hn_p⟩ := kb_p
 replace kb_r := kb_r.mv hb; obtain ⟨kb_r, kc_r, kf_r, hl_r, hn_r⟩ := kb_r
 clear hb
 go_wp2_with fail
 first | refine name_world ?_ | refine name_wp ?_
 intro W2 hW
 replace hB : Below w.heap.size w W2 := by rw [hW]; exact tacT
 have hz_W2 : w1.heap.size ≤ W2.heap.size := by rw [hW]; exact sT
 replace kb_p : Blk W2 (w.heap.size) 35 #[.int .i64 room, .int .i64 start, .slice A l.length c, .int .i64 lv, .int .i64 ra, .int .i64 dr, .int .i64 lo, .slice R rs.length d] := by rw [hW]; exact blkT
 have hLW2_p := kb_p.lt
 replace kb_r : Blk W2 (w.heap.size + 1) 35 #[.int .i64 0, .int .i64 0, .slice none 0 0, .int .i64 0, .int .i64 0, .int .i64 0, .int .i64 0, .slice none 0 0] := by rw [hW]; exact blkT
 have hLW2_r := kb_r.lt
 replace kb_s : Blk W2 (w1.heap.size) 35 #[.int .i64 room, .int .i64 start, .slice A1 l.length c1, .int .i64 lv, .int .i64 ra, .int .i64 dr, .int .i64 lo, .slice R1 rs.length d1] := by rw [hW]; exact blkT
 have hLW2_s := kb_s.lt
 replace hr_e : Row2 W2 (W1.heap.size) (w1.heap.size) 120 3 A1 (l.length) c1 (t3s l) := by rw [hW]; exact rowT
 replace hr_s : Row2 W2 (W1.heap.size) (w1.heap.size) 69 3 R1 (rs.length) d1 (t3s rs) := by rw [hW]; exact rowT
 try clear kc_p kf_p
 try clear kc_r kf_r
 try clear kc_s kf_s
 clear hW
 refine (H1.out _ hB).mono ?_
 rintro e w2 ⟨rfl, hb⟩
 replace hB := hB.trans (Below.mono hb hB.size)
 have hz_w2 : W2.heap.size ≤ w2.heap.size := Below.size hb
 replace kb_r := kb_r.mv hb; obtain ⟨kb_r, kc_r, kf_r, hl_r, hn_r⟩ := kb_r
 replace kb_s := kb_s.mv hb; obtain ⟨kb_s, kc_s, kf_s, hl_s, hn_s⟩ := kb_s
 replace hr_e := Row2.below hr_e hb (by omega)
 replace hr_s := Row2.below hr_s hb (by omega)
 clear hb
 go_wp2_with fail
 refine bodyPost_ret (v := .tuple #[.agg #[.int .i64 room, .int .i64 start, .slice A1 l.length c1, .int .i64 lv, .int .i64 ra, .int .i64 dr, .int .i64 lo, .slice R1 rs.length d1], .slice none 0 0]) ?_ rfl ?_
 ·simp [results, Tryz.results14, go_sem, kc_r, hl_r, hn_r, kc_s, hl_s, hn_s]
 ·exact ⟨A1, c1, R1, d1, none, 0, rfl, W1.heap.size, w1.heap.size, w1.heap.size, w1.heap.size, by omega, (by exact oT), by omega, (by exact oT), by omega, (show Row2 _ (W1.heap.size) (w1.heap.size) 120 3 A1 l.length c1 (t3s l) by exact rowT), (show Row2 _ (W1.heap.size) (w1.heap.size) 69 3 R1 rs.length d1 (t3s rs) by exact rowT), row_nil _ _, by exact tacT⟩
set_option maxHeartbeats 3200000 in
theorem RunActs_l (A : Option Addr) (c : Nat) (R : Option Addr) (d : Nat) (v : Vg) (B : Option Addr) (n : Nat) (acts : List T3) (w : World) (h : RdT w w.heap.size A c v.book.evs) (h' : RdT w w.heap.size R d v.rights) (ha : RdT w w.heap.size B n acts) (hs : v.book.evs.length + v.rights.length ≤ 1048576) (hv : villageOk v = true) (hgt : ¬ acts.length ≤ 40) :
  Calls Tryz.prog 14 #[v.val A c R d, .slice B acts.length n] w (RunRet (runActs v acts) w) := by
 obtain ⟨hbl, hbm⟩ := ha.le
 have hB := Below.refl w.heap.size w
 have h1 := fun (W : World) (hb : Below w.heap.size w W) => VillageOk_any A c R d v W (h.below hb) (h'.below hb) (by omega)
 have h3 := fun (W : World) (hb : Below w.heap.size w W) => copyVillage_any A c R d v W (h.below hb) (h'.below hb) (by omega) (by omega)
 have hst : runActs v acts = (v, []) := by unfold runActs; rw [if_neg (by intro h9; exact hgt h9.2)]
 rw [hst]
 rw [hv] at h1
 have hg1 : (40 : Int) < (acts.length : Int) := by omega
 clear hgt
 unfold RunRet
 unfold VgOwn at h3
 unfold Vg.val at h1 h3 ⊢
 obtain ⟨⟨room, start, l, lv, ra, dr, lo⟩, rs⟩ := v
 simp only at h h' hs h1 h3 ⊢
 have H1 := Lib.hid h1
 have H3 := Lib.hid h3
 clear h1 h3 hst hv
 go_enter Tryz.func14, Tryz.ntmps14
 go_wp2_with fail
 first | refine name_world ?_ | refine name_wp ?_
 intro W1 hW
 replace hB : Below w.heap.size w W1 := by rw [hW]; exact tacT
 have hz_W1 : w.heap.size ≤ W1.heap.size := by rw [hW]; exact sT
 replace kb_p : Blk W1 (w.heap.size) 35 #[.int .i64 room, .int .i64 start, .slice A l.length c, .int .i64 lv, .int .i64 ra, .int .i64 dr, .int .i64 lo, .slice R rs.length d] := by rw [hW]; exact blkT
 have hLW1_p := kb_p.lt
 replace kb_r : Blk W1 (w.heap.size + 1) 35 #[.int .i64 0, .int .i64 0, .slice none 0 0, .int .i64 0, .int .i64 0, .int .i64 0, .int .i64 0, .slice none 0 0] := by rw [hW]; exact blkT
 have hLW1_r := kb_r.lt
 try clear kc_p kf_p
 try clear kc_r kf_r
 clear hW
 refine (H3.out _ hB).mono ?_
 rintro e w1 ⟨A1, c1, R1, d1, rfl, ⟨ho1, ho2⟩, hb⟩
 have hr_e := Row2.born ho1
 have hr_s := Row2.born ho2
 clear ho1 ho2
 replace hB := hB.trans (Below.mono hb hB.size)
 have hz_w1 : W1.heap.size ≤ w1.heap.size := Below.size hb
 replace kb_p := kb_p.mv hb; obtain ⟨kb_p, kc_p, kf_p, hl_p, hn_p⟩ := kb_p
 replace kb_r := kb_r.mv hb; obtain ⟨kb_r, kc_r, kf_r, hl_r, hn_r⟩ := kb_r
 clear hb
 go_wp2_with fail
 first | refine name_world ?_ | refine name_wp ?_
 intro W2 hW
 replace hB : Below w.heap.size w W2 := by rw [hW]; exact tacT
 have hz_W2 : w1.heap.size ≤ W2.heap.size := by rw [hW]; exact sT
 replace kb_p : Blk W2 (w.heap.size) 35 #[.int .i64 room, .int .i64 start, .slice A l.length c, .int .i64 lv, .int .i64 ra, .int .i64 dr, .int .i64 lo, .slice R rs.length d] := by rw [hW]; exact blkT
 have hLW2_p := kb_p.lt
 replace kb_r : Blk W2 (w.heap.size + 1) 35 #[.int .i64 0, .int .i64 0, .slice none 0 0, .int .i64 0, .int .i64 0, .int .i64 0, .int .i64 0, .slice none 0 0] := by rw [hW]; exact blkT
 have hLW2_r := kb_r.lt
 replace kb_s : Blk W2 (w1.heap.size) 35 #[.int .i64 room, .int .i64 start, .slice A1 l.length c1, .int .i64 lv, .int .i64 ra, .int .i64 dr, .int .i64 lo, .slice R1 rs.length d1] := by rw [hW]; exact blkT
 have hLW2_s := kb_s.lt
 replace hr_e : Row2 W2 (W1.heap.size) (w1.heap.size) 120 3 A1 (l.length) c1 (t3s l) := by rw [hW]; exact rowT
 replace hr_s : Row2 W2 (W1.heap.size) (w1.heap.size) 69 3 R1 (rs.length) d1 (t3s rs) := by rw [hW]; exact rowT
 try clear kc_p kf_p
 try clear kc_r kf_r
 try clear kc_s kf_s
 clear hW
 refine (H1.out _ hB).mono ?_
 rintro e w2 ⟨rfl, hb⟩
 replace hB := hB.trans (Below.mono hb hB.size)
 have hz_w2 : W2.heap.size ≤ w2.heap.size := Below.size hb
 replace kb_r := kb_r.mv hb; obtain ⟨kb_r, kc_r, kf_r, hl_r, hn_r⟩ := kb_r
 replace kb_s := kb_s.mv hb; obtain ⟨kb_s, kc_s, kf_s, hl_s, hn_s⟩ := kb_s
 replace hr_e := Row2.below hr_e hb (by omega)
 replace hr_s := Row2.below hr_s hb (by omega)
 clear hb
 go_wp2_with fail
 refine bodyPost_ret (v := .tuple #[.agg #[.int .i64 room, .int .i64 start, .slice A1 l.length c1, .int .i64 lv, .int .i64 ra, .int .i64 dr, .int .i64 lo, .slice R1 rs.length d1], .slice none 0 0]) ?_ rfl ?_
 ·simp [results, Tryz.results14, go_sem, kc_r, hl_r, hn_r, kc_s, hl_s, hn_s]
 ·exact ⟨A1, c1, R1, d1, none, 0, rfl, W1.heap.size, w1.heap.size, w1.heap.size, w1.heap.size, by omega, (by exact oT), by omega, (by exact oT), by omega, (show Row2 _ (W1.heap.size) (w1.heap.size) 120 3 A1 l.length c1 (t3s l) by exact rowT), (show Row2 _ (W1.heap.size) (w1.heap.size) 69 3 R1 rs.length d1 (t3s rs) by exact rowT), row_nil _ _, by exact tacT⟩
set_option maxHeartbeats 6400000 in
theorem RunActs_y (A : Option Addr) (c : Nat) (R : Option Addr) (d : Nat) (v : Vg) (B : Option Addr) (n : Nat) (acts : List T3) (w : World) (h : RdT w w.heap.size A c v.book.evs) (h' : RdT w w.heap.size R d v.rights) (ha : RdT w w.heap.size B n acts) (hs : v.book.evs.length + v.rights.length ≤ 1048576) (hv : villageOk v = true) (hle : acts.length ≤ 40) :
  Calls Tryz.prog 14 #[v.val A c R d, .slice B acts.length n] w (RunRet (runActs v acts) w) := by
 obtain ⟨hbl, hbm⟩ := ha.le
 have hB := Below.refl w.heap.size w
 have h1 := fun (W : World) (hb : Below w.heap.size w W) => VillageOk_any A c R d v W (h.below hb) (h'.below hb) (by omega)
 have h3 := fun (W : World) (hb : Below w.heap.size w W) => copyVillage_any A c R d v W (h.below hb) (h'.below hb) (by omega) (by omega)
 have hst : runActs v acts = runL v acts := by unfold runActs; rw [if_pos ⟨hv, hle⟩]
 rw [hst]
 have HRL : Hid (∀ k, k ≤ acts.length → (runL v (acts.take k)).2.length = k ∧ (runL v (acts.take k)).1.book.evs.length ≤ 40 + k ∧ (runL v (acts.take k)).1.rights.length ≤ 12 + 12 * k) := fun k hk => by
  have h8 := runL_facts v acts k hk
  have h9 := vg_lens hv
  omega
 have HV0 : Hid (runL v (acts.take 0) = (v, [])) := runL_nil v
 have HVL : Hid (runL v acts = runL v (acts.take acts.length)) := by show _ = _; rw [List.take_length]
 have HDO : Hid (∀ (cv cv2 : Vg) (m : Int) (x y z : Int) (A : Option Addr) (c : Nat) (R : Option Addr) (d : Nat) (W : World), doAct cv x y z = (cv2, m) → RdT W W.heap.size A c cv.book.evs → RdT W W.heap.size R d cv.rights → cv.book.evs.length + cv.rights.length ≤ 1048576 → Calls Tryz.prog 37 #[.agg #[.int .i64 cv.book.room, .int .i64 cv.book.start, .slice A cv.book.evs.length c, .int .i64 cv.book.level, .int .i64 cv.book.rained, .int .i64 cv.book.drunk, .int .i64 cv.book.lost, .slice R cv.rights.length d], .agg #[.int .i64 x, .int .i64 y, .int .i64 z]] W fun e w' => ∃ A c R d, e = .returned (.tuple #[.agg #[.int .i64 cv2.book.room, .int .i64 cv2.book.start, .slice A cv2.book.evs.length c, .int .i64 cv2.book.level, .int .i64 cv2.book.rained, .int .i64 cv2.book.drunk, .int .i64 cv2.book.lost, .slice R cv2.rights.length d], .int .i64 m]) ∧ w'.ownsRow W.heap.size 120 3 (.slice A cv2.book.evs.length c) cv2.book.evs.length (t3s cv2.book.evs) ∧ w'.ownsRow W.heap.size 69 3 (.slice R cv2.rights.length d) cv2.rights.length (t3s cv2.rights) ∧ Below W.heap.size W w') := fun cv cv2 m x y z A c R d W he q1 q2 q3 => by
  have h9 := DoAct_any A c R d cv x y z W q1 q2 q3
  rw [he] at h9
  exact h9
 have HNX : Hid (∀ (cv cv2 : Vg) (nm : List Int) (k : Nat) (a : T3) (m : Int), runL v (acts.take k) = (cv, nm) → acts[k]? = some a → doAct cv a.x a.y a.z = (cv2, m) → runL v (acts.take (k + 1)) = (cv2, nm ++ [m])) := fun _ _ _ _ _ _ => runL_next
 rw [hv] at h1
 unfold RunRet
 unfold VgOwn at h3
 unfold Vg.val at h1 h3 ⊢
 obtain ⟨F, hF⟩ : ∃ F, F = runL v := ⟨_, rfl⟩
 rw [← hF] at HRL HV0 HVL HNX ⊢
 clear hF hst hv
 obtain ⟨⟨room, start, l, lv, ra, dr, lo⟩, rs⟩ := v
 simp only at h h' hs h1 h3 ⊢
 have H1 := Lib.hid h1
 have H3 := Lib.hid h3
 clear h1 h3
 go_enter Tryz.func14, Tryz.ntmps14
 go_wp2_with fail
 first | refine name_world ?_ | refine name_wp ?_
 intro W1 hW
 replace hB : Below w.heap.size w W1 := by rw [hW]; exact tacT
 have hz_W1 : w.heap.size ≤ W1.heap.size := by rw [hW]; exact sT
 replace kb_p : Blk W1 (w.heap.size) 35 #[.int .i64 room, .int .i64 start, .slice A l.length c, .int .i64 lv, .int .i64 ra, .int .i64 dr, .int .i64 lo, .slice R rs.length d] := by rw [hW]; exact blkT
 have hLW1_p := kb_p.lt
 replace kb_r : Blk W1 (w.heap.size + 1) 35 #[.int .i64 0, .int .i64 0, .slice none 0 0, .int .i64 0, .int .i64 0, .int .i64 0, .int .i64 0, .slice none 0 0] := by rw [hW]; exact blkT
 have hLW1_r := kb_r.lt
 try clear kc_p kf_p
 try clear kc_r kf_r
 clear hW
 refine (H3.out _ hB).mono ?_
 rintro e w1 ⟨A1, c1, R1, d1, rfl, ⟨ho1, ho2⟩, hb⟩
 have hr_e := Row2.born ho1
 have hr_s := Row2.born ho2
 clear ho1 ho2
 replace hB := hB.trans (Below.mono hb hB.size)
 have hz_w1 : W1.heap.size ≤ w1.heap.size := Below.size hb
 replace kb_p := kb_p.mv hb; obtain ⟨kb_p, kc_p, kf_p, hl_p, hn_p⟩ := kb_p
 replace kb_r := kb_r.mv hb; obtain ⟨kb_r, kc_r, kf_r, hl_r, hn_r⟩ := kb_r
 clear hb
 go_wp2_with fail
 first | refine name_world ?_ | refine name_wp ?_
 intro W2 hW
 replace hB : Below w.heap.size w W2 := by rw [hW]; exact tacT
 have hz_W2 : w1.heap.size ≤ W2.heap.size := by rw [hW]; exact sT
 replace kb_p : Blk W2 (w.heap.size) 35 #[.int .i64 room, .int .i64 start, .slice A l.length c, .int .i64 lv, .int .i64 ra, .int .i64 dr, .int .i64 lo, .slice R rs.length d] := by rw [hW]; exact blkT
 have hLW2_p := kb_p.lt
 replace kb_r : Blk W2 (w.heap.size + 1) 35 #[.int .i64 0, .int .i64 0, .slice none 0 0, .int .i64 0, .int .i64 0, .int .i64 0, .int .i64 0, .slice none 0 0] := by rw [hW]; exact blkT
 have hLW2_r := kb_r.lt
 replace kb_s : Blk W2 (w1.heap.size) 35 #[.int .i64 room, .int .i64 start, .slice A1 l.length c1, .int .i64 lv, .int .i64 ra, .int .i64 dr, .int .i64 lo, .slice R1 rs.length d1] := by rw [hW]; exact blkT
 have hLW2_s := kb_s.lt
 replace hr_e : Row2 W2 (W1.heap.size) (w1.heap.size) 120 3 A1 (l.length) c1 (t3s l) := by rw [hW]; exact rowT
 replace hr_s : Row2 W2 (W1.heap.size) (w1.heap.size) 69 3 R1 (rs.length) d1 (t3s rs) := by rw [hW]; exact rowT
 try clear kc_p kf_p
 try clear kc_r kf_r
 try clear kc_s kf_s
 clear hW
 refine (H1.out _ hB).mono ?_
 rintro e w2 ⟨rfl, hb⟩
 replace hB := hB.trans (Below.mono hb hB.size)
 have hz_w2 : W2.heap.size ≤ w2.heap.size := Below.size hb
 replace kb_r := kb_r.mv hb; obtain ⟨kb_r, kc_r, kf_r, hl_r, hn_r⟩ := kb_r
 replace kb_s := kb_s.mv hb; obtain ⟨kb_s, kc_s, kf_s, hl_s, hn_s⟩ := kb_s
 replace hr_e := Row2.below hr_e hb (by omega)
 replace hr_s := Row2.below hr_s hb (by omega)
 clear hb
 have hle2 : (acts.length : Int) ≤ 40 := by omega
 have hrW : w.heap.size + 1 < W1.heap.size := hLW1_r
 have hsW : w1.heap.size < W2.heap.size := hLW2_s
 have K0 := Lib.hid (And.intro kb_r (And.intro kb_s (And.intro hr_e (And.intro hr_s hB))))
 have HZ0 : Hid (W2.heap.size ≤ w2.heap.size) := hz_w2
 have hq1 : w1.heap.size ≤ w2.heap.size ∧ W2.heap.size ≤ w2.heap.size ∧ w1.heap.size ≤ W2.heap.size := ⟨by omega, by omega, by omega⟩
 clear kb_r kb_s hr_e hr_s hB kc_r kf_r kc_s kf_s
 go_wp2_with fail
 go_loopw [7, 25] (fun acc i wr => ∃ (k : Nat) (A : Option Addr) (c : Nat) (R : Option Addr) (d : Nat) (B : Option Addr) (n : Nat) (cv : Vg) (nm : List Int) (la lb na nb : Nat), k ≤ acts.length ∧ i = .int .i64 k ∧ acc = .slice B nm.length n ∧ (W1.heap.size ≤ la ∧ lb ≤ wr.heap.size ∧ W2.heap.size ≤ na ∧ nb ≤ wr.heap.size ∧ na ≤ wr.heap.size ∧ (lb ≤ na ∨ nb ≤ la)) ∧ Hid (F (acts.take k) = (cv, nm)) ∧ Hid (Blk wr (w.heap.size + 1) 35 #[.int .i64 0, .int .i64 0, .slice none 0 0, .int .i64 0, .int .i64 0, .int .i64 0, .int .i64 0, .slice none 0 0] ∧ Blk wr w1.heap.size 35 #[.int .i64 cv.book.room, .int .i64 cv.book.start, .slice A cv.book.evs.length c, .int .i64 cv.book.level, .int .i64 cv.book.rained, .int .i64 cv.book.drunk, .int .i64 cv.book.lost, .slice R cv.rights.length d] ∧ Row2 wr la lb 120 3 A cv.book.evs.length c (t3s cv.book.evs) ∧ Row2 wr la lb 69 3 R cv.rights.length d (t3s cv.rights) ∧ Below w.heap.size w wr) ∧ Hid (Row2 wr na nb 3 1 B nm.length n (ints nm)) ∧ Hid (W2.heap.size ≤ wr.heap.size)) (fun _ i _ => acts.length - (intOf i).toNat)
 case atStart => exact ⟨0, A1, c1, R1, d1, none, 0, ⟨⟨room, start, l, lv, ra, dr, lo⟩, rs⟩, [], W1.heap.size, w1.heap.size, W2.heap.size, W2.heap.size, Nat.zero_le _, rfl, rfl, ⟨Nat.le_refl _, hq1.1, Nat.le_refl _, hq1.2.1, hq1.2.1, .inl hq1.2.2⟩, HV0.out, K0.out, row_nil _ _, HZ0.out⟩
 case round =>
  clear K0 HZ0
  obtain ⟨k, A2, c2, R2, d2, B2, n2, cv, nm, la, lb, na, nb, hk, rfl, rfl, hint, HE, HK, HN, HZ⟩ := hrel
  have kb_r := HK.out.1
  have kb_s := HK.out.2.1
  have hr_e := HK.out.2.2.1
  have hr_s := HK.out.2.2.2.1
  have hB := HK.out.2.2.2.2
  have hz2 := HZ.out
  have HNL : Hid (nm.length = k ∧ cv.book.evs.length ≤ 40 + k ∧ cv.rights.length ≤ 12 + 12 * k) := by have h9 := HRL.out k hk; rw [HE.out] at h9; exact h9
  have hn40 : nm.length ≤ 40 ∧ cv.book.evs.length + cv.rights.length ≤ 1048576 := by have h9 := HNL.out; omega
  have kc_s := kb_s.cells
  have kf_s := kb_s.frozens
  have hl_s := kb_s.lt
  have hn_s := Nat.ne_of_lt hl_s
  have kc_r := kb_r.cells
  have kf_r := kb_r.frozens
  have hl_r := kb_r.lt
  have hn_r := Nat.ne_of_lt hl_r
  by_cases hlt : k < acts.length
  ·obtain ⟨b, o, a, rfl, hb, hx, q0, q1, q2⟩ := ha.at_ hlt
   obtain ⟨⟨cv2, m⟩, hE2⟩ : ∃ q, doAct cv a.x a.y a.z = q := ⟨_, rfl⟩
   have f0 : wr.cell? ⟨b, o + k * 3, none⟩ = some (.int .i64 a.x) := (hB.cell (p := ⟨b, _, none⟩) hb).trans q0
   have f1 : wr.cell? ⟨b, o + k * 3 + 1, none⟩ = some (.int .i64 a.y) := (hB.cell (p := ⟨b, _, none⟩) hb).trans q1
   have f2 : wr.cell? ⟨b, o + k * 3 + 2, none⟩ = some (.int .i64 a.z) := (hB.cell (p := ⟨b, _, none⟩) hb).trans q2
   have hbr : b < wr.heap.size := by omega
   have HA := Lib.hid (HNX.out cv cv2 nm k a m HE.out hx hE2)
   have HD := Lib.hid (fun W p1 p2 => HDO.out cv cv2 m a.x a.y a.z A2 c2 R2 d2 W hE2 p1 p2 hn40.2)
   have hki : (k : Int) < (acts.length : Int) := by omega
   have hr_n := HN.out
   clear hx hE2 q0 q1 q2 HK HN HE
   go_wp2_with fail
   first | refine name_world ?_ | refine name_wp ?_
   intro W3 hW
   replace hB : Below w.heap.size w W3 := by rw [hW]; exact tacT
   have hz_W3 : wr.heap.size ≤ W3.heap.size := by rw [hW]; exact sT
   replace kb_r : Blk W3 (w.heap.size + 1) 35 #[.int .i64 0, .int .i64 0, .slice none 0 0, .int .i64 0, .int .i64 0, .int .i64 0, .int .i64 0, .slice none 0 0] := by rw [hW]; exact blkT
   have hLW3_r := kb_r.lt
   replace kb_s : Blk W3 (w1.heap.size) 35 #[.int .i64 cv.book.room, .int .i64 cv.book.start, .slice A2 cv.book.evs.length c2, .int .i64 cv.book.level, .int .i64 cv.book.rained, .int .i64 cv.book.drunk, .int .i64 cv.book.lost, .slice R2 cv.rights.length d2] := by rw [hW]; exact blkT
   have hLW3_s := kb_s.lt
   replace hr_e : Row2 W3 (la) (lb) 120 3 A2 (cv.book.evs.length) c2 (t3s cv.book.evs) := by rw [hW]; exact rowT
   replace hr_s : Row2 W3 (la) (lb) 69 3 R2 (cv.rights.length) d2 (t3s cv.rights) := by rw [hW]; exact rowT
   replace hr_n : Row2 W3 (na) (nb) 3 1 B2 (nm.length) n2 (ints nm) := by rw [hW]; exact rowT
   try clear kc_r kf_r
   try clear kc_s kf_s
   clear hW
   refine (HD.out W3 hr_e.rd hr_s.rd).mono ?_
   rintro e w4 ⟨A4, c4, R4, d4, rfl, ho1, ho2, hb4⟩
   clear hr_e hr_s
   have hr_e := Row2.born ho1
   have hr_s := Row2.born ho2
   clear ho1 ho2 f0 f1 f2
   replace hB := hB.trans (Below.mono hb4 hB.size)
   have hz_w4 : W3.heap.size ≤ w4.heap.size := Below.size hb4
   replace kb_r := kb_r.mv hb4; obtain ⟨kb_r, kc_r, kf_r, hl_r, hn_r⟩ := kb_r
   replace kb_s := kb_s.mv hb4; obtain ⟨kb_s, kc_s, kf_s, hl_s, hn_s⟩ := kb_s
   replace hr_n := Row2.below hr_n hb4 (by omega)
   clear hb4
   go_upto_region 10 with fail
   first | refine name_world ?_ | refine name_wp ?_
   intro W5 hW
   replace hB : Below w.heap.size w W5 := by rw [hW]; exact tacT
   have hz_W5 : w4.heap.size ≤ W5.heap.size := by rw [hW]; exact sT
   replace kb_r : Blk W5 (w.heap.size + 1) 35 #[.int .i64 0, .int .i64 0, .slice none 0 0, .int .i64 0, .int .i64 0, .int .i64 0, .int .i64 0, .slice none 0 0] := by rw [hW]; exact blkT
   have hLW5_r := kb_r.lt
   replace kb_s : Blk W5 (w1.heap.size) 35 #[.int .i64 cv2.book.room, .int .i64 cv2.book.start, .slice A4 cv2.book.evs.length c4, .int .i64 cv2.book.level, .int .i64 cv2.book.rained, .int .i64 cv2.book.drunk, .int .i64 cv2.book.lost, .slice R4 cv2.rights.length d4] := by rw [hW]; exact blkT
   have hLW5_s := kb_s.lt
   replace hr_e : Row2 W5 (W3.heap.size) (w4.heap.size) 120 3 A4 (cv2.book.evs.length) c4 (t3s cv2.book.evs) := by rw [hW]; exact rowT
   replace hr_s : Row2 W5 (W3.heap.size) (w4.heap.size) 69 3 R4 (cv2.rights.length) d4 (t3s cv2.rights) := by rw [hW]; exact rowT
   replace hr_n : Row2 W5 (na) (nb) 3 1 B2 (nm.length) n2 (ints nm) := by rw [hW]; exact rowT
   try clear kc_r kf_r
   try clear kc_s kf_s
   clear hW
   have ho1 : OwnI (W5.alloc (.cells #[.int .i64 m] 3)) na B2 n2 nm := (hr_n.alloc _).1
   have hz9 : na ≤ W5.heap.size := by omega
   have hn1 := hn40.1
   go_wp2_with (at_builtin; refine wpList_app1_at rfl _ _ rfl na B2 n2 nm rfl ho1 W5.heap.size m rfl (cell_new1 _ _ _) (by omega) (by exact oT) ?_)
   intro B6 n6 w6 ho6 hg6 hd6
   have hc6 := Row2.wrote (hr_n.alloc _) hg6
   have hB6 := below_grown_own (hB.alloc (by omega) (.cells #[.int .i64 m] 3)) ho1 hg6 (by omega) (by exact oT)
   have hs6 : W5.heap.size + 1 ≤ w6.heap.size := by simpa using hc6.size
   have hr_e6 := Row2.chg (hr_e.alloc _) hc6 (.inr (by omega))
   have hr_s6 := Row2.chg (hr_s.alloc _) hc6 (.inr (by omega))
   have kb_s6 : Blk w6 w1.heap.size 35 #[.int .i64 cv2.book.room, .int .i64 cv2.book.start, .slice A4 cv2.book.evs.length c4, .int .i64 cv2.book.level, .int .i64 cv2.book.rained, .int .i64 cv2.book.drunk, .int .i64 cv2.book.lost, .slice R4 cv2.rights.length d4] := (hc6.block _ (kb_s.alloc _).lt (.inl (by omega))).trans (kb_s.alloc _)
   have kb_r6 : Blk w6 (w.heap.size + 1) 35 #[.int .i64 0, .int .i64 0, .slice none 0 0, .int .i64 0, .int .i64 0, .int .i64 0, .int .i64 0, .slice none 0 0] := (hc6.block _ (kb_r.alloc _).lt (.inl (by omega))).trans (kb_r.alloc _)
   have hlen6 : (nm ++ [m]).length = nm.length + 1 := by simp
   obtain ⟨na6, nb6, hint6, hrow6⟩ : ∃ na6 nb6 : Nat, (W2.heap.size ≤ na6 ∧ nb6 ≤ w6.heap.size ∧ na6 ≤ w6.heap.size ∧ (w4.heap.size ≤ na6 ∨ nb6 ≤ W3.heap.size)) ∧ Row2 w6 na6 nb6 3 1 B6 (nm ++ [m]).length n6 (ints (nm ++ [m])) := by
    rcases app_row hr_n ho6 hd6 with h9 | ⟨h9, h8⟩
    ·exact ⟨na, nb, ⟨by omega, by omega, by omega, .inr (by omega)⟩, h9⟩
    ·exact ⟨W5.heap.size + 1, W5.heap.size + 1 + 1, ⟨by omega, by omega, by omega, .inl (by omega)⟩, h9⟩
   have HI6 : Hid (W1.heap.size ≤ W3.heap.size ∧ w4.heap.size ≤ w6.heap.size ∧ W2.heap.size ≤ na6 ∧ nb6 ≤ w6.heap.size ∧ na6 ≤ w6.heap.size ∧ (w4.heap.size ≤ na6 ∨ nb6 ≤ W3.heap.size)) := ⟨by omega, by omega, hint6⟩
   have H6 := Lib.hid (And.intro (And.intro kb_r6 (And.intro kb_s6 (And.intro hr_e6 (And.intro hr_s6 hB6)))) (And.intro hrow6 (show W2.heap.size ≤ w6.heap.size by omega)))
   clear kb_r6 kb_s6 hr_e6 hr_s6 hB6 ho6 hg6 hc6 ho1 hr_n kb_r kb_s hr_e hr_s hB hrow6 hd6 hint6
   go_wp2_with fail
   go_roundw
   case rel => exact ⟨k + 1, A4, c4, R4, d4, B6, n6, cv2, nm ++ [m], W3.heap.size, w4.heap.size, na6, nb6, by omega, by go_num, by rw [hlen6], HI6.out, HA.out, H6.out.1, H6.out.2.1, H6.out.2.2⟩
   case measure => simp [intOf]; omega
  ·obtain rfl : k = acts.length := by omega
   have HEE : Hid (F acts = (cv, nm)) := HVL.out.trans HE.out
   have HO := HN
   clear HE HK HN
   go_wp2_with fail
   refine bodyPost_ret (v := .tuple #[.agg #[.int .i64 cv.book.room, .int .i64 cv.book.start, .slice A2 cv.book.evs.length c2, .int .i64 cv.book.level, .int .i64 cv.book.rained, .int .i64 cv.book.drunk, .int .i64 cv.book.lost, .slice R2 cv.rights.length d2], .slice B2 nm.length n2]) ?_ rfl ?_
   ·simp [results, Tryz.results14, go_sem, kc_r, hl_r, hn_r, kc_s, hl_s, hn_s]
   ·rw [HEE.out]
    exact ⟨A2, c2, R2, d2, B2, n2, rfl, la, lb, na, nb, by omega, (by exact oT), by omega, (by exact oT), by omega, (show Row2 _ (la) (lb) 120 3 A2 cv.book.evs.length c2 (t3s cv.book.evs) by exact rowT), (show Row2 _ (la) (lb) 69 3 R2 cv.rights.length d2 (t3s cv.rights) by exact rowT), (show Row2 _ na nb 3 1 B2 nm.length n2 (ints nm) by have hr_n := HO.out; repeat' (first | (with_reducible assumption) | (with_reducible refine Row2.far ?_ ?_ _) | (with_reducible refine Row2.alloc ?_ _) | (with_reducible refine Row2.drewN ?_ _) | (with_reducible refine Row2.drew ?_) | (left; dsimp only; omega) | (right; dsimp only; omega))), by exact tacT⟩
theorem RunActs_any (A : Option Addr) (c : Nat) (R : Option Addr) (d : Nat) (v : Vg) (B : Option Addr) (n : Nat) (acts : List T3) (w : World) (h : RdT w w.heap.size A c v.book.evs) (h' : RdT w w.heap.size R d v.rights) (ha : RdT w w.heap.size B n acts) (hs : v.book.evs.length + v.rights.length ≤ 1048576) :
  Calls Tryz.prog 14 #[v.val A c R d, .slice B acts.length n] w (RunRet (runActs v acts) w) := by
 cases hv : villageOk v
 ·exact RunActs_v A c R d v B n acts w h h' ha hs hv
 by_cases hg : acts.length ≤ 40
 ·exact RunActs_y A c R d v B n acts w h h' ha hs hv hg
 ·exact RunActs_l A c R d v B n acts w h h' ha hs hv hg
end
section
theorem may_le {v : Vg} (hv : villageOk v = true) (o : Int) : 0 ≤ mayDrink v o ∧ mayDrink v o ≤ 100000000000 := by
 cases ho : hasO v.rights o
 ·rw [may_not hv ho]; omega
 obtain ⟨hb, hr⟩ := vg_ok hv
 obtain ⟨y, z, hy, hz, hf, o1, o2, hm⟩ := may_have hr ho
 have hmv := hm v.book hb
 rw [show (⟨v.book, v.rights⟩ : Vg) = v from rfl] at hmv
 have hq := fracOk_iff hf
 have hd := dby_bd o v.book.evs (book_liters hb)
 rw [hmv]
 have hp : partOf y z (min 1000000 (v.book.start + v.book.rained)) ≤ 100000000000 := by
  unfold partOf
  split
  ·rename_i h9
   simp only [Bool.and_eq_true] at h9
   have h8 := inB_iff.1 h9.2
   obtain ⟨a, ha⟩ : ∃ a, a = min 1000000 (v.book.start + v.book.rained) := ⟨_, rfl⟩
   rw [← ha] at h8 ⊢
   have h7 : a * y ≤ 1000000 * 10000 := Int.mul_le_mul h8.2 hq.2.1 hy (by omega)
   have h6 : 0 ≤ a * y := Int.mul_nonneg h8.1 hy
   have h5 := Int.ediv_le_self z h6
   omega
  ·omega
 omega
theorem num_bd {v : Vg} (hv : villageOk v = true) (x y z : Int) : -1 ≤ (doAct v x y z).2 ∧ (doAct v x y z).2 ≤ 100000000000 := by
 have hb : ∀ r : Vg × Bool, -1 ≤ (bi r).2 ∧ (bi r).2 ≤ 100000000000 := fun r => by
  unfold bi; simp only; split <;> omega
 have hm := may_le hv y
 unfold doAct
 by_cases h0 : villageOk v = true ∧ actOk x y z = true
 ·rw [if_pos h0]
  by_cases h1 : x = 1
  ·rw [if_pos h1]; exact hb _
  rw [if_neg h1]
  by_cases h2 : x = 2
  ·rw [if_pos h2]; exact hb _
  rw [if_neg h2]
  by_cases h3 : x = 3
  ·rw [if_pos h3]; exact hb _
  rw [if_neg h3]
  by_cases h4 : x = 4
  ·rw [if_pos h4]; exact hb _
  rw [if_neg h4]
  by_cases h5 : x = 5
  ·rw [if_pos h5]; exact hb _
  rw [if_neg h5]
  exact ⟨by show -1 ≤ mayDrink v y; omega, hm.2⟩
 ·rw [if_neg h0]
  exact ⟨by show (-1 : Int) ≤ -1; omega, by show (-1 : Int) ≤ _; omega⟩
theorem nums_bd {v : Vg} (hv : villageOk v = true) (l : List T3) : ∀ k, k ≤ l.length → ∀ n ∈ (runL v (l.take k)).2, -1 ≤ n ∧ n ≤ 100000000000
 |0, _, n, hn => by simp [runL_nil] at hn
 |k + 1, hk, n, hn => by
  have ha : l[k]? = some l[k] := List.getElem?_eq_getElem (by omega)
  rw [take_snocT ha, runL_snoc] at hn
  simp only at hn
  rcases List.mem_append.1 hn with hn | hn
  ·exact nums_bd hv l k (by omega) n hn
  ·simp only [List.mem_cons, List.not_mem_nil, or_false] at hn
   rw [hn]
   exact num_bd (runL_keeps hv l k (by omega)) _ _ _
theorem run_nums {v : Vg} (hv : villageOk v = true) {l : List T3} (hl : l.length ≤ 40) : ∀ n ∈ (runActs v l).2, -1 ≤ n ∧ n ≤ 100000000000 := by
 unfold runActs
 rw [if_pos ⟨hv, hl⟩]
 have h1 := nums_bd hv l l.length (Nat.le_refl _)
 rwa [List.take_length] at h1
end
section
theorem infoAct9 : (Tryz.prog.info? 50).map (fun i => (i.zero, i.size, i.bytes)) = some (some (.agg #[.int .i64 0, .int .i64 0, .int .i64 0]), 3, 24) := by kernel_rfl
end
section
open Go.RowKit
def marks (k n : Nat) : List Int := (List.range' k n).map Int.ofNat
def mk (l : List Int) (k i : Nat) : List Int := marks k i ++ l.drop i
end
end Go.Proofs.YtpmmjhpmheooeaaGreatDoor
