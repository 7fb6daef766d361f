/- Texts of the proof, joined: VillEnter, VillRain, Drink. -/
import Derived.Test.YtpmmjhpmheooeaaGreatDoorQ16
import Derived.Test.YtpmmjhpmheooeaaGreatDoorQ19
import Derived.Test.YtpmmjhpmheooeaaGreatDoorQ22
import Derived.Test.YtpmmjhpmheooeaaGreatDoorQ6
import Derived.Test.YtpmmjhpmheooeaaGreatDoorQ21
namespace Go.Proofs.YtpmmjhpmheooeaaGreatDoor
set_option linter.unusedSimpArgs false
set_option linter.unusedVariables false
section
open Go.RowKit
set_option maxRecDepth 20000
def vEnter (v : Vg) (e : T3) : Vg × Bool := if villageOk v then (⟨(enter v.book e).1, v.rights⟩, (enter v.book e).2) else (v, false)
set_option maxHeartbeats 3200000 in
theorem vEnter_any (A : Option Addr) (c : Nat) (R : Option Addr) (d : Nat) (v : Vg) (ek el eo : Int) (w : World) (h : RdT w w.heap.size A c v.book.evs) (h' : RdT w w.heap.size R d v.rights) (hs : v.book.evs.length ≤ 1048576) (hs' : v.rights.length ≤ 1048576) :
  Calls Tryz.prog 101 #[v.val A c R d, .agg #[.int .i64 ek, .int .i64 el, .int .i64 eo]] w (VgRet (vEnter v ⟨ek, el, eo⟩) w) := by
 have hB := Below.refl w.heap.size w
 have h1 := fun (W : World) (hb : Below w.heap.size w W) => copyVillage_any A c R d v W (h.below hb) (h'.below hb) hs hs'
 have h2 := fun (W : World) (hb : Below w.heap.size w W) => VillageOk_any A c R d v W (h.below hb) (h'.below hb) hs
 have h3 := fun (W : World) (hb : Below w.heap.size w W) => Enter_any A c v.book ek el eo W (h.below hb) hs
 cases hv : villageOk v
 ·have hst : vEnter v ⟨ek, el, eo⟩ = (v, false) := by unfold vEnter; rw [hv]; rfl
  rw [hst]
  rw [hv] at h2
  unfold VgRet
  unfold VgOwn at h1
  unfold Vg.val at h1 h2 ⊢
  obtain ⟨⟨room, start, l, lv, ra, dr, lo⟩, rs⟩ := v
  simp only at h h' hs hs' h1 h2 ⊢
  have H1 := Lib.hid h1
  have H2 := Lib.hid h2
  clear h1 h2 h3 hv hst
  go_enter Tryz.func101, Tryz.ntmps101
  go_wp2_with fail
  first | refine name_world ?_ | refine name_wp ?_
  intro W1 hW
  replace hB : Below w.heap.size w W1 := by rw [hW]; exact tacT
  have hz_W1 : w.heap.size ≤ W1.heap.size := by rw [hW]; exact sT
  replace kb_p : Blk W1 (w.heap.size) 35 #[.int .i64 room, .int .i64 start, .slice A l.length c, .int .i64 lv, .int .i64 ra, .int .i64 dr, .int .i64 lo, .slice R rs.length d] := by rw [hW]; exact blkT
  have hLW1_p := kb_p.lt
  replace kb_r : Blk W1 (w.heap.size + 2) 35 #[.int .i64 0, .int .i64 0, .slice none 0 0, .int .i64 0, .int .i64 0, .int .i64 0, .int .i64 0, .slice none 0 0] := by rw [hW]; exact blkT
  have hLW1_r := kb_r.lt
  try clear kc_p kf_p
  try clear kc_r kf_r
  clear hW
  refine (H1.out _ hB).mono ?_
  rintro e w1 ⟨A1, c1, R1, d1, rfl, ⟨ho1, ho2⟩, hb⟩
  have hr_e := Row2.born ho1
  have hr_s := Row2.born ho2
  clear ho1 ho2
  replace hB := hB.trans (Below.mono hb hB.size)
  have hz_w1 : W1.heap.size ≤ w1.heap.size := Below.size hb
  replace kb_p := kb_p.mv hb; obtain ⟨kb_p, kc_p, kf_p, hl_p, hn_p⟩ := kb_p
  replace kb_r := kb_r.mv hb; obtain ⟨kb_r, kc_r, kf_r, hl_r, hn_r⟩ := kb_r
  clear hb
  go_wp2_with fail
  first | refine name_world ?_ | refine name_wp ?_
  intro W2 hW
  replace hB : Below w.heap.size w W2 := by rw [hW]; exact tacT
  have hz_W2 : w1.heap.size ≤ W2.heap.size := by rw [hW]; exact sT
  replace kb_p : Blk W2 (w.heap.size) 35 #[.int .i64 room, .int .i64 start, .slice A l.length c, .int .i64 lv, .int .i64 ra, .int .i64 dr, .int .i64 lo, .slice R rs.length d] := by rw [hW]; exact blkT
  have hLW2_p := kb_p.lt
  replace kb_r : Blk W2 (w.heap.size + 2) 35 #[.int .i64 0, .int .i64 0, .slice none 0 0, .int .i64 0, .int .i64 0, .int .i64 0, .int .i64 0, .slice none 0 0] := by rw [hW]; exact blkT
  have hLW2_r := kb_r.lt
  replace kb_o : Blk W2 (w1.heap.size) 35 #[.int .i64 room, .int .i64 start, .slice A1 l.length c1, .int .i64 lv, .int .i64 ra, .int .i64 dr, .int .i64 lo, .slice R1 rs.length d1] := by rw [hW]; exact blkT
  have hLW2_o := kb_o.lt
  replace hr_e : Row2 W2 (W1.heap.size) (w1.heap.size) 120 3 A1 (l.length) c1 (t3s l) := by rw [hW]; exact rowT
  replace hr_s : Row2 W2 (W1.heap.size) (w1.heap.size) 69 3 R1 (rs.length) d1 (t3s rs) := by rw [hW]; exact rowT
  try clear kc_p kf_p
  try clear kc_r kf_r
  try clear kc_o kf_o
  clear hW
  refine (H2.out _ hB).mono ?_
  rintro e w2 ⟨rfl, hb⟩
  replace hB := hB.trans (Below.mono hb hB.size)
  have hz_w2 : W2.heap.size ≤ w2.heap.size := Below.size hb
  replace kb_p := kb_p.mv hb; obtain ⟨kb_p, kc_p, kf_p, hl_p, hn_p⟩ := kb_p
  replace kb_r := kb_r.mv hb; obtain ⟨kb_r, kc_r, kf_r, hl_r, hn_r⟩ := kb_r
  replace kb_o := kb_o.mv hb; obtain ⟨kb_o, kc_o, kf_o, hl_o, hn_o⟩ := kb_o
  replace hr_e := Row2.below hr_e hb (by omega)
  replace hr_s := Row2.below hr_s hb (by omega)
  clear hb
  go_wp2_with fail
  refine bodyPost_ret (v := .tuple #[.agg #[.int .i64 room, .int .i64 start, .slice A1 l.length c1, .int .i64 lv, .int .i64 ra, .int .i64 dr, .int .i64 lo, .slice R1 rs.length d1], .bool false]) ?_ rfl ?_
  ·simp [results, Tryz.results101, go_sem, kc_r, kc_o]
  ·exact ⟨A1, c1, R1, d1, rfl, (Row2.mono (lo := W1.heap.size) (hi := w1.heap.size) (hi' := w1.heap.size) (by exact rowT) (by omega) (Nat.le_refl _)).1, (Row2.mono (lo := W1.heap.size) (hi := w1.heap.size) (hi' := w1.heap.size) (by exact rowT) (by omega) (Nat.le_refl _)).1, by exact tacT⟩
 ·have hst : vEnter v ⟨ek, el, eo⟩ = (⟨(enter v.book ⟨ek, el, eo⟩).1, v.rights⟩, (enter v.book ⟨ek, el, eo⟩).2) := by unfold vEnter; rw [hv]; rfl
  rw [hst]
  rw [hv] at h2
  obtain ⟨⟨⟨room', start', l', lv', ra', dr', lo'⟩, ok⟩, hE⟩ : ∃ r, enter v.book ⟨ek, el, eo⟩ = r := ⟨_, rfl⟩
  rw [hE] at h3 ⊢
  unfold VgRet
  unfold VgOwn at h1
  unfold BkRet at h3
  unfold Bk.val at h3
  unfold Vg.val at h1 h2 ⊢
  obtain ⟨⟨room, start, l, lv, ra, dr, lo⟩, rs⟩ := v
  simp only at h h' hs hs' h1 h2 h3 ⊢
  have H1 := Lib.hid h1
  have H2 := Lib.hid h2
  have H3 := Lib.hid h3
  clear h1 h2 h3 hv hst hE
  go_enter Tryz.func101, Tryz.ntmps101
  go_wp2_with fail
  first | refine name_world ?_ | refine name_wp ?_
  intro W1 hW
  replace hB : Below w.heap.size w W1 := by rw [hW]; exact tacT
  have hz_W1 : w.heap.size ≤ W1.heap.size := by rw [hW]; exact sT
  replace kb_p : Blk W1 (w.heap.size) 35 #[.int .i64 room, .int .i64 start, .slice A l.length c, .int .i64 lv, .int .i64 ra, .int .i64 dr, .int .i64 lo, .slice R rs.length d] := by rw [hW]; exact blkT
  have hLW1_p := kb_p.lt
  replace kb_q : Blk W1 (w.heap.size + 1) 120 #[.int .i64 ek, .int .i64 el, .int .i64 eo] := by rw [hW]; exact blkT
  have hLW1_q := kb_q.lt
  replace kb_r : Blk W1 (w.heap.size + 2) 35 #[.int .i64 0, .int .i64 0, .slice none 0 0, .int .i64 0, .int .i64 0, .int .i64 0, .int .i64 0, .slice none 0 0] := by rw [hW]; exact blkT
  have hLW1_r := kb_r.lt
  try clear kc_p kf_p
  try clear kc_q kf_q
  try clear kc_r kf_r
  clear hW
  refine (H1.out _ hB).mono ?_
  rintro e w1 ⟨A1, c1, R1, d1, rfl, ⟨ho1, ho2⟩, hb⟩
  have hr_s := Row2.born ho2
  clear ho1 ho2
  replace hB := hB.trans (Below.mono hb hB.size)
  have hz_w1 : W1.heap.size ≤ w1.heap.size := Below.size hb
  replace kb_p := kb_p.mv hb; obtain ⟨kb_p, kc_p, kf_p, hl_p, hn_p⟩ := kb_p
  replace kb_q := kb_q.mv hb; obtain ⟨kb_q, kc_q, kf_q, hl_q, hn_q⟩ := kb_q
  replace kb_r := kb_r.mv hb; obtain ⟨kb_r, kc_r, kf_r, hl_r, hn_r⟩ := kb_r
  clear hb
  go_wp2_with fail
  first | refine name_world ?_ | refine name_wp ?_
  intro W2 hW
  replace hB : Below w.heap.size w W2 := by rw [hW]; exact tacT
  have hz_W2 : w1.heap.size ≤ W2.heap.size := by rw [hW]; exact sT
  replace kb_p : Blk W2 (w.heap.size) 35 #[.int .i64 room, .int .i64 start, .slice A l.length c, .int .i64 lv, .int .i64 ra, .int .i64 dr, .int .i64 lo, .slice R rs.length d] := by rw [hW]; exact blkT
  have hLW2_p := kb_p.lt
  replace kb_q : Blk W2 (w.heap.size + 1) 120 #[.int .i64 ek, .int .i64 el, .int .i64 eo] := by rw [hW]; exact blkT
  have hLW2_q := kb_q.lt
  replace kb_r : Blk W2 (w.heap.size + 2) 35 #[.int .i64 0, .int .i64 0, .slice none 0 0, .int .i64 0, .int .i64 0, .int .i64 0, .int .i64 0, .slice none 0 0] := by rw [hW]; exact blkT
  have hLW2_r := kb_r.lt
  replace kb_o : Blk W2 (w1.heap.size) 35 #[.int .i64 room, .int .i64 start, .slice A1 l.length c1, .int .i64 lv, .int .i64 ra, .int .i64 dr, .int .i64 lo, .slice R1 rs.length d1] := by rw [hW]; exact blkT
  have hLW2_o := kb_o.lt
  replace hr_s : Row2 W2 (W1.heap.size) (w1.heap.size) 69 3 R1 (rs.length) d1 (t3s rs) := by rw [hW]; exact rowT
  try clear kc_p kf_p
  try clear kc_q kf_q
  try clear kc_r kf_r
  try clear kc_o kf_o
  clear hW
  refine (H2.out _ hB).mono ?_
  rintro e w2 ⟨rfl, hb⟩
  replace hB := hB.trans (Below.mono hb hB.size)
  have hz_w2 : W2.heap.size ≤ w2.heap.size := Below.size hb
  replace kb_p := kb_p.mv hb; obtain ⟨kb_p, kc_p, kf_p, hl_p, hn_p⟩ := kb_p
  replace kb_q := kb_q.mv hb; obtain ⟨kb_q, kc_q, kf_q, hl_q, hn_q⟩ := kb_q
  replace kb_r := kb_r.mv hb; obtain ⟨kb_r, kc_r, kf_r, hl_r, hn_r⟩ := kb_r
  replace kb_o := kb_o.mv hb; obtain ⟨kb_o, kc_o, kf_o, hl_o, hn_o⟩ := kb_o
  replace hr_s := Row2.below hr_s hb (by omega)
  clear hb
  go_wp2_with fail
  refine (H3.out _ hB).mono ?_
  rintro e w3 ⟨A3, c3, rfl, ho3, hb⟩
  have hr_e := Row2.born ho3
  clear ho3
  replace hB := hB.trans (Below.mono hb hB.size)
  have hz_w3 : w2.heap.size ≤ w3.heap.size := Below.size hb
  replace kb_p := kb_p.mv hb; obtain ⟨kb_p, kc_p, kf_p, hl_p, hn_p⟩ := kb_p
  replace kb_q := kb_q.mv hb; obtain ⟨kb_q, kc_q, kf_q, hl_q, hn_q⟩ := kb_q
  replace kb_r := kb_r.mv hb; obtain ⟨kb_r, kc_r, kf_r, hl_r, hn_r⟩ := kb_r
  replace kb_o := kb_o.mv hb; obtain ⟨kb_o, kc_o, kf_o, hl_o, hn_o⟩ := kb_o
  replace hr_s := Row2.below hr_s hb (by omega)
  clear hb
  go_wp2_with fail
  refine bodyPost_ret (v := .tuple #[.agg #[.int .i64 room', .int .i64 start', .slice A3 l'.length c3, .int .i64 lv', .int .i64 ra', .int .i64 dr', .int .i64 lo', .slice R1 rs.length d1], .bool ok]) ?_ rfl ?_
  ·simp [results, Tryz.results101, go_sem, kc_r, kc_o, hl_r, hn_r, hl_o, hn_o]
  ·exact ⟨A3, c3, R1, d1, rfl, (Row2.mono (lo := w2.heap.size) (hi := w3.heap.size) (hi' := w3.heap.size) (by exact rowT) (by omega) (Nat.le_refl _)).1, (Row2.mono (lo := W1.heap.size) (hi := w1.heap.size) (hi' := w1.heap.size) (by exact rowT) (by omega) (Nat.le_refl _)).1, by exact tacT⟩
end
section
open Go.RowKit
set_option maxRecDepth 20000
set_option maxHeartbeats 1600000 in
theorem RainFalls_any (A : Option Addr) (c : Nat) (R : Option Addr) (d : Nat) (v : Vg) (el : Int) (w : World) (h : RdT w w.heap.size A c v.book.evs) (h' : RdT w w.heap.size R d v.rights) (hs : v.book.evs.length + v.rights.length ≤ 1048576) :
  Calls Tryz.prog 64 #[v.val A c R d, .int .i64 el] w (VgRet (vEnter v ⟨1, el, 0⟩) w) := by
 have hB := Below.refl w.heap.size w
 have h1 := fun (W : World) (hb : Below w.heap.size w W) => vEnter_any A c R d v 1 el 0 W (h.below hb) (h'.below hb) (by omega) (by omega)
 obtain ⟨⟨⟨⟨room', start', l', lv', ra', dr', lo'⟩, rs'⟩, ok⟩, hE⟩ : ∃ r, vEnter v ⟨1, el, 0⟩ = r := ⟨_, rfl⟩
 rw [hE] at h1 ⊢
 unfold VgRet at h1 ⊢
 unfold Vg.val at h1 ⊢
 obtain ⟨⟨room, start, l, lv, ra, dr, lo⟩, rs⟩ := v
 simp only at h h' hs h1 ⊢
 have H1 := Lib.hid h1
 clear h1 hE
 go_enter Tryz.func64, Tryz.ntmps64
 go_wp2_with fail
 first | refine name_world ?_ | refine name_wp ?_
 intro W1 hW
 replace hB : Below w.heap.size w W1 := by rw [hW]; exact tacT
 have hz_W1 : w.heap.size ≤ W1.heap.size := by rw [hW]; exact sT
 replace kb_r : Blk W1 (w.heap.size + 1) 35 #[.int .i64 0, .int .i64 0, .slice none 0 0, .int .i64 0, .int .i64 0, .int .i64 0, .int .i64 0, .slice none 0 0] := by rw [hW]; exact blkT
 have hLW1_r := kb_r.lt
 try clear kc_r kf_r
 clear hW
 refine (H1.out _ hB).mono ?_
 rintro e w1 ⟨A1, c1, R1, d1, rfl, ho1, ho2, hb⟩
 have hr_e := Row2.born ho1
 have hr_s := Row2.born ho2
 clear ho1 ho2
 replace hB := hB.trans (Below.mono hb hB.size)
 have hz_w1 : W1.heap.size ≤ w1.heap.size := Below.size hb
 replace kb_r := kb_r.mv hb; obtain ⟨kb_r, kc_r, kf_r, hl_r, hn_r⟩ := kb_r
 clear hb
 go_wp2_with fail
 refine bodyPost_ret (v := .tuple #[.agg #[.int .i64 room', .int .i64 start', .slice A1 l'.length c1, .int .i64 lv', .int .i64 ra', .int .i64 dr', .int .i64 lo', .slice R1 rs'.length d1], .bool ok]) ?_ rfl ?_
 ·simp [results, Tryz.results64, go_sem, kc_r, hl_r, hn_r]
 ·exact ⟨A1, c1, R1, d1, rfl, (Row2.mono (lo := W1.heap.size) (hi := w1.heap.size) (hi' := w1.heap.size) (by exact rowT) (by omega) (Nat.le_refl _)).1, (Row2.mono (lo := W1.heap.size) (hi := w1.heap.size) (hi' := w1.heap.size) (by exact rowT) (by omega) (Nat.le_refl _)).1, by exact tacT⟩
set_option maxHeartbeats 1600000 in
theorem LeakOut_any (A : Option Addr) (c : Nat) (R : Option Addr) (d : Nat) (v : Vg) (el : Int) (w : World) (h : RdT w w.heap.size A c v.book.evs) (h' : RdT w w.heap.size R d v.rights) (hs : v.book.evs.length + v.rights.length ≤ 1048576) :
  Calls Tryz.prog 66 #[v.val A c R d, .int .i64 el] w (VgRet (vEnter v ⟨3, el, 0⟩) w) := by
 have hB := Below.refl w.heap.size w
 have h1 := fun (W : World) (hb : Below w.heap.size w W) => vEnter_any A c R d v 3 el 0 W (h.below hb) (h'.below hb) (by omega) (by omega)
 obtain ⟨⟨⟨⟨room', start', l', lv', ra', dr', lo'⟩, rs'⟩, ok⟩, hE⟩ : ∃ r, vEnter v ⟨3, el, 0⟩ = r := ⟨_, rfl⟩
 rw [hE] at h1 ⊢
 unfold VgRet at h1 ⊢
 unfold Vg.val at h1 ⊢
 obtain ⟨⟨room, start, l, lv, ra, dr, lo⟩, rs⟩ := v
 simp only at h h' hs h1 ⊢
 have H1 := Lib.hid h1
 clear h1 hE
 go_enter Tryz.func66, Tryz.ntmps66
 go_wp2_with fail
 first | refine name_world ?_ | refine name_wp ?_
 intro W1 hW
 replace hB : Below w.heap.size w W1 := by rw [hW]; exact tacT
 have hz_W1 : w.heap.size ≤ W1.heap.size := by rw [hW]; exact sT
 replace kb_r : Blk W1 (w.heap.size + 1) 35 #[.int .i64 0, .int .i64 0, .slice none 0 0, .int .i64 0, .int .i64 0, .int .i64 0, .int .i64 0, .slice none 0 0] := by rw [hW]; exact blkT
 have hLW1_r := kb_r.lt
 try clear kc_r kf_r
 clear hW
 refine (H1.out _ hB).mono ?_
 rintro e w1 ⟨A1, c1, R1, d1, rfl, ho1, ho2, hb⟩
 have hr_e := Row2.born ho1
 have hr_s := Row2.born ho2
 clear ho1 ho2
 replace hB := hB.trans (Below.mono hb hB.size)
 have hz_w1 : W1.heap.size ≤ w1.heap.size := Below.size hb
 replace kb_r := kb_r.mv hb; obtain ⟨kb_r, kc_r, kf_r, hl_r, hn_r⟩ := kb_r
 clear hb
 go_wp2_with fail
 refine bodyPost_ret (v := .tuple #[.agg #[.int .i64 room', .int .i64 start', .slice A1 l'.length c1, .int .i64 lv', .int .i64 ra', .int .i64 dr', .int .i64 lo', .slice R1 rs'.length d1], .bool ok]) ?_ rfl ?_
 ·simp [results, Tryz.results66, go_sem, kc_r, hl_r, hn_r]
 ·exact ⟨A1, c1, R1, d1, rfl, (Row2.mono (lo := W1.heap.size) (hi := w1.heap.size) (hi' := w1.heap.size) (by exact rowT) (by omega) (Nat.le_refl _)).1, (Row2.mono (lo := W1.heap.size) (hi := w1.heap.size) (hi' := w1.heap.size) (by exact rowT) (by omega) (Nat.le_refl _)).1, by exact tacT⟩
theorem vEnter_len (v : Vg) (e : T3) : (vEnter v e).1.book.evs.length ≤ v.book.evs.length + 1 ∧ (vEnter v e).1.rights.length ≤ v.rights.length := by
 unfold vEnter
 split
 ·refine ⟨?_, Nat.le_refl _⟩
  simp only
  unfold enter
  split
  ·simp [madeBk]
  ·simp
 ·exact ⟨by simp, Nat.le_refl _⟩
end
section
open Go.RowKit
set_option maxRecDepth 20000
def vDrink (v : Vg) (o n : Int) : Vg × Bool := if mayDrink v o < n then (v, false) else vEnter v ⟨2, n, o⟩
set_option maxHeartbeats 1600000 in
theorem Drink_any (A : Option Addr) (c : Nat) (R : Option Addr) (d : Nat) (v : Vg) (o n : Int) (w : World) (h : RdT w w.heap.size A c v.book.evs) (h' : RdT w w.heap.size R d v.rights) (hs : v.book.evs.length + v.rights.length ≤ 1048576) :
  Calls Tryz.prog 65 #[v.val A c R d, .int .i64 o, .int .i64 n] w (VgRet (vDrink v o n) w) := by
 have hB := Below.refl w.heap.size w
 have h1 := fun (W : World) (hb : Below w.heap.size w W) => MayDrink_any A c R d v o W (h.below hb) (h'.below hb) (by omega)
 obtain ⟨M, hM⟩ : ∃ M, M = mayDrink v o := ⟨_, rfl⟩
 rw [← hM] at h1
 by_cases hlt : M < n
 ·have h2 := fun (W : World) (hb : Below w.heap.size w W) => copyVillage_any A c R d v W (h.below hb) (h'.below hb) (by omega) (by omega)
  have hst : vDrink v o n = (v, false) := by unfold vDrink; rw [← hM, if_pos hlt]
  rw [hst]
  unfold VgRet
  unfold VgOwn at h2
  unfold Vg.val at h1 h2 ⊢
  obtain ⟨⟨room, start, l, lv, ra, dr, lo⟩, rs⟩ := v
  simp only at h h' hs h1 h2 ⊢
  have H1 := Lib.hid h1
  have H2 := Lib.hid h2
  clear h1 h2 hst hM
  go_enter Tryz.func65, Tryz.ntmps65
  go_wp2_with fail
  first | refine name_world ?_ | refine name_wp ?_
  intro W1 hW
  replace hB : Below w.heap.size w W1 := by rw [hW]; exact tacT
  have hz_W1 : w.heap.size ≤ W1.heap.size := by rw [hW]; exact sT
  replace kb_p : Blk W1 (w.heap.size) 35 #[.int .i64 room, .int .i64 start, .slice A l.length c, .int .i64 lv, .int .i64 ra, .int .i64 dr, .int .i64 lo, .slice R rs.length d] := by rw [hW]; exact blkT
  have hLW1_p := kb_p.lt
  replace kb_r : Blk W1 (w.heap.size + 1) 35 #[.int .i64 0, .int .i64 0, .slice none 0 0, .int .i64 0, .int .i64 0, .int .i64 0, .int .i64 0, .slice none 0 0] := by rw [hW]; exact blkT
  have hLW1_r := kb_r.lt
  try clear kc_p kf_p
  try clear kc_r kf_r
  clear hW
  refine (H1.out _ hB).mono ?_
  rintro e w1 ⟨rfl, hb⟩
  replace hB := hB.trans (Below.mono hb hB.size)
  have hz_w1 : W1.heap.size ≤ w1.heap.size := Below.size hb
  replace kb_p := kb_p.mv hb; obtain ⟨kb_p, kc_p, kf_p, hl_p, hn_p⟩ := kb_p
  replace kb_r := kb_r.mv hb; obtain ⟨kb_r, kc_r, kf_r, hl_r, hn_r⟩ := kb_r
  clear hb
  go_wp2_with fail
  refine (H2.out _ hB).mono ?_
  rintro e w2 ⟨A1, c1, R1, d1, rfl, ⟨ho1, ho2⟩, hb⟩
  have hr_e := Row2.born ho1
  have hr_s := Row2.born ho2
  clear ho1 ho2
  replace hB := hB.trans (Below.mono hb hB.size)
  have hz_w2 : w1.heap.size ≤ w2.heap.size := Below.size hb
  replace kb_r := kb_r.mv hb; obtain ⟨kb_r, kc_r, kf_r, hl_r, hn_r⟩ := kb_r
  clear hb
  go_wp2_with fail
  refine bodyPost_ret (v := .tuple #[.agg #[.int .i64 room, .int .i64 start, .slice A1 l.length c1, .int .i64 lv, .int .i64 ra, .int .i64 dr, .int .i64 lo, .slice R1 rs.length d1], .bool false]) ?_ rfl ?_
  ·simp [results, Tryz.results65, go_sem, kc_r, hl_r, hn_r]
  ·exact ⟨A1, c1, R1, d1, rfl, (Row2.mono (lo := w1.heap.size) (hi := w2.heap.size) (hi' := w2.heap.size) (by exact rowT) (by omega) (Nat.le_refl _)).1, (Row2.mono (lo := w1.heap.size) (hi := w2.heap.size) (hi' := w2.heap.size) (by exact rowT) (by omega) (Nat.le_refl _)).1, by exact tacT⟩
 ·have h2 := fun (W : World) (hb : Below w.heap.size w W) => vEnter_any A c R d v 2 n o W (h.below hb) (h'.below hb) (by omega) (by omega)
  have hst : vDrink v o n = vEnter v ⟨2, n, o⟩ := by unfold vDrink; rw [← hM, if_neg hlt]
  rw [hst]
  obtain ⟨⟨⟨⟨room', start', l', lv', ra', dr', lo'⟩, rs'⟩, ok⟩, hE⟩ : ∃ r, vEnter v ⟨2, n, o⟩ = r := ⟨_, rfl⟩
  rw [hE] at h2 ⊢
  unfold VgRet at h2 ⊢
  unfold Vg.val at h1 h2 ⊢
  obtain ⟨⟨room, start, l, lv, ra, dr, lo⟩, rs⟩ := v
  simp only at h h' hs h1 h2 ⊢
  have H1 := Lib.hid h1
  have H2 := Lib.hid h2
  clear h1 h2 hst hM hE
  go_enter Tryz.func65, Tryz.ntmps65
  go_wp2_with fail
  first | refine name_world ?_ | refine name_wp ?_
  intro W1 hW
  replace hB : Below w.heap.size w W1 := by rw [hW]; exact tacT
  have hz_W1 : w.heap.size ≤ W1.heap.size := by rw [hW]; exact sT
  replace kb_p : Blk W1 (w.heap.size) 35 #[.int .i64 room, .int .i64 start, .slice A l.length c, .int .i64 lv, .int .i64 ra, .int .i64 dr, .int .i64 lo, .slice R rs.length d] := by rw [hW]; exact blkT
  have hLW1_p := kb_p.lt
  replace kb_r : Blk W1 (w.heap.size + 1) 35 #[.int .i64 0, .int .i64 0, .slice none 0 0, .int .i64 0, .int .i64 0, .int .i64 0, .int .i64 0, .slice none 0 0] := by rw [hW]; exact blkT
  have hLW1_r := kb_r.lt
  try clear kc_p kf_p
  try clear kc_r kf_r
  clear hW
  refine (H1.out _ hB).mono ?_
  rintro e w1 ⟨rfl, hb⟩
  replace hB := hB.trans (Below.mono hb hB.size)
  have hz_w1 : W1.heap.size ≤ w1.heap.size := Below.size hb
  replace kb_p := kb_p.mv hb; obtain ⟨kb_p, kc_p, kf_p, hl_p, hn_p⟩ := kb_p
  replace kb_r := kb_r.mv hb; obtain ⟨kb_r, kc_r, kf_r, hl_r, hn_r⟩ := kb_r
  clear hb
  go_wp2_with fail
  refine (H2.out _ hB).mono ?_
  rintro e w2 ⟨A1, c1, R1, d1, rfl, ho1, ho2, hb⟩
  have hr_e := Row2.born ho1
  have hr_s := Row2.born ho2
  clear ho1 ho2
  replace hB := hB.trans (Below.mono hb hB.size)
  have hz_w2 : w1.heap.size ≤ w2.heap.size := Below.size hb
  replace kb_r := kb_r.mv hb; obtain ⟨kb_r, kc_r, kf_r, hl_r, hn_r⟩ := kb_r
  clear hb
  go_wp2_with fail
  refine bodyPost_ret (v := .tuple #[.agg #[.int .i64 room', .int .i64 start', .slice A1 l'.length c1, .int .i64 lv', .int .i64 ra', .int .i64 dr', .int .i64 lo', .slice R1 rs'.length d1], .bool ok]) ?_ rfl ?_
  ·simp [results, Tryz.results65, go_sem, kc_r, hl_r, hn_r]
  ·exact ⟨A1, c1, R1, d1, rfl, (Row2.mono (lo := w1.heap.size) (hi := w2.heap.size) (hi' := w2.heap.size) (by exact rowT) (by omega) (Nat.le_refl _)).1, (Row2.mono (lo := w1.heap.size) (hi := w2.heap.size) (hi' := w2.heap.size) (by exact rowT) (by omega) (Nat.le_refl _)).1, by exact tacT⟩
theorem vDrink_len (v : Vg) (o n : Int) : (vDrink v o n).1.book.evs.length ≤ v.book.evs.length + 1 ∧ (vDrink v o n).1.rights.length ≤ v.rights.length := by
 unfold vDrink
 split
 ·exact ⟨Nat.le_succ _, Nat.le_refl _⟩
 ·exact vEnter_len v ⟨2, n, o⟩
end
end Go.Proofs.YtpmmjhpmheooeaaGreatDoor
