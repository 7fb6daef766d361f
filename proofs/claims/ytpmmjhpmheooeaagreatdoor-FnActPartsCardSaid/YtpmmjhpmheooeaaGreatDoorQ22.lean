/- Texts of the proof, joined: Enter. -/
import Derived.Test.YtpmmjhpmheooeaaGreatDoorQ6
namespace Go.Proofs.YtpmmjhpmheooeaaGreatDoor
set_option linter.unusedSimpArgs false
set_option linter.unusedVariables false
section
open Go.RowKit
set_option maxRecDepth 20000
set_option maxHeartbeats 3200000 in
theorem Enter_no (A : Option Addr) (c : Nat) (b : Bk) (ek el eo : Int) (w : World) (h : RdT w w.heap.size A c b.evs) (hs : b.evs.length ≤ 1048576) (hq : bookOk b = false) :
  Calls Tryz.prog 127 #[b.val A c, .agg #[.int .i64 ek, .int .i64 el, .int .i64 eo]] w (BkRet (enter b ⟨ek, el, eo⟩) w) := by
 have hB := Below.refl w.heap.size w
 obtain ⟨hl, hm⟩ := h.le
 have hcall := fun (W : World) (hb : Below w.heap.size w W) => BookOk_any A c b W (h.below hb)
 have hcopy := fun (W : World) (hb : Below w.heap.size w W) => copyBook_any A c b W (h.below hb) hs
 have hst : enter b ⟨ek, el, eo⟩ = (b, false) := by unfold enter enterOk; rw [hq]; simp
 rw [hst]
 unfold BkRet
 rw [hq] at hcall
 unfold Bk.val at hcall hcopy ⊢
 obtain ⟨room, start, l, lv, ra, dr, lo⟩ := b
 simp only at h hl hcall hcopy ⊢
 have H1 := Lib.hid hcall
 have H2 := Lib.hid hcopy
 clear hcall hcopy hq hst
 go_enter Tryz.func127, Tryz.ntmps127
 go_wp2_with fail
 first | refine name_world ?_ | refine name_wp ?_
 intro W1 hW
 replace hB : Below w.heap.size w W1 := by rw [hW]; exact tacT
 have hz_W1 : w.heap.size ≤ W1.heap.size := by rw [hW]; exact sT
 replace kb_p : Blk W1 (w.heap.size) 32 #[.int .i64 room, .int .i64 start, .slice A l.length c, .int .i64 lv, .int .i64 ra, .int .i64 dr, .int .i64 lo] := by rw [hW]; exact blkT
 have hLW1_p := kb_p.lt
 replace kb_q : Blk W1 (w.heap.size + 1) 120 #[.int .i64 ek, .int .i64 el, .int .i64 eo] := by rw [hW]; exact blkT
 have hLW1_q := kb_q.lt
 replace kb_r : Blk W1 (w.heap.size + 2) 32 #[.int .i64 0, .int .i64 0, .slice none 0 0, .int .i64 0, .int .i64 0, .int .i64 0, .int .i64 0] := by rw [hW]; exact blkT
 have hLW1_r := kb_r.lt
 try clear kc_p kf_p
 try clear kc_q kf_q
 try clear kc_r kf_r
 clear hW
 refine (H1.out _ hB).mono ?_
 rintro e w1 ⟨rfl, hb⟩
 replace hB := hB.trans (Below.mono hb hB.size)
 have hz_w1 : W1.heap.size ≤ w1.heap.size := Below.size hb
 replace kb_p := kb_p.mv hb; obtain ⟨kb_p, kc_p, kf_p, hl_p, hn_p⟩ := kb_p
 replace kb_q := kb_q.mv hb; obtain ⟨kb_q, kc_q, kf_q, hl_q, hn_q⟩ := kb_q
 replace kb_r := kb_r.mv hb; obtain ⟨kb_r, kc_r, kf_r, hl_r, hn_r⟩ := kb_r
 clear hb
 go_wp2_with fail
 refine (H2.out _ hB).mono ?_
 rintro e w2 ⟨A2, c2, rfl, ho2, hb⟩
 have hr_e := Row2.born ho2
 clear ho2
 replace hB := hB.trans (Below.mono hb hB.size)
 have hz_w2 : w1.heap.size ≤ w2.heap.size := Below.size hb
 replace kb_p := kb_p.mv hb; obtain ⟨kb_p, kc_p, kf_p, hl_p, hn_p⟩ := kb_p
 replace kb_q := kb_q.mv hb; obtain ⟨kb_q, kc_q, kf_q, hl_q, hn_q⟩ := kb_q
 replace kb_r := kb_r.mv hb; obtain ⟨kb_r, kc_r, kf_r, hl_r, hn_r⟩ := kb_r
 clear hb
 go_wp2_with fail
 refine bodyPost_ret (v := .tuple #[.agg #[.int .i64 room, .int .i64 start, .slice A2 l.length c2, .int .i64 lv, .int .i64 ra, .int .i64 dr, .int .i64 lo], .bool false]) ?_ rfl ?_
 ·simp [results, Tryz.results127, go_sem, kc_r]
 ·exact ⟨A2, c2, rfl, (Row2.mono (lo := w1.heap.size) (hi := w2.heap.size) (hi' := w2.heap.size) (by exact rowT) (by omega) (Nat.le_refl _)).1, by exact tacT⟩
set_option maxHeartbeats 3200000 in
theorem Enter_40 (A : Option Addr) (c : Nat) (b : Bk) (ek el eo : Int) (w : World) (h : RdT w w.heap.size A c b.evs) (hs : b.evs.length ≤ 1048576) (hq : bookOk b = true) (h40 : ¬ b.evs.length < 40) :
  Calls Tryz.prog 127 #[b.val A c, .agg #[.int .i64 ek, .int .i64 el, .int .i64 eo]] w (BkRet (enter b ⟨ek, el, eo⟩) w) := by
 have hB := Below.refl w.heap.size w
 obtain ⟨hl, hm⟩ := h.le
 have hcall := fun (W : World) (hb : Below w.heap.size w W) => BookOk_any A c b W (h.below hb)
 have hcopy := fun (W : World) (hb : Below w.heap.size w W) => copyBook_any A c b W (h.below hb) hs
 obtain ⟨i1, i2, i3, i4⟩ := bookOk_iff hq
 have hst : enter b ⟨ek, el, eo⟩ = (b, false) := by unfold enter enterOk; rw [hq]; simp [h40]
 rw [hst]
 unfold BkRet
 rw [hq] at hcall
 unfold Bk.val at hcall hcopy ⊢
 obtain ⟨room, start, l, lv, ra, dr, lo⟩ := b
 simp only at h hl hcall hcopy h40 ⊢
 have h41 : (40 : Int) ≤ (l.length : Int) := by omega
 have H1 := Lib.hid hcall
 have H2 := Lib.hid hcopy
 clear hcall hcopy hq hst i1 i2 i3 i4
 go_enter Tryz.func127, Tryz.ntmps127
 go_wp2_with fail
 first | refine name_world ?_ | refine name_wp ?_
 intro W1 hW
 replace hB : Below w.heap.size w W1 := by rw [hW]; exact tacT
 have hz_W1 : w.heap.size ≤ W1.heap.size := by rw [hW]; exact sT
 replace kb_p : Blk W1 (w.heap.size) 32 #[.int .i64 room, .int .i64 start, .slice A l.length c, .int .i64 lv, .int .i64 ra, .int .i64 dr, .int .i64 lo] := by rw [hW]; exact blkT
 have hLW1_p := kb_p.lt
 replace kb_q : Blk W1 (w.heap.size + 1) 120 #[.int .i64 ek, .int .i64 el, .int .i64 eo] := by rw [hW]; exact blkT
 have hLW1_q := kb_q.lt
 replace kb_r : Blk W1 (w.heap.size + 2) 32 #[.int .i64 0, .int .i64 0, .slice none 0 0, .int .i64 0, .int .i64 0, .int .i64 0, .int .i64 0] := by rw [hW]; exact blkT
 have hLW1_r := kb_r.lt
 try clear kc_p kf_p
 try clear kc_q kf_q
 try clear kc_r kf_r
 clear hW
 refine (H1.out _ hB).mono ?_
 rintro e w1 ⟨rfl, hb⟩
 replace hB := hB.trans (Below.mono hb hB.size)
 have hz_w1 : W1.heap.size ≤ w1.heap.size := Below.size hb
 replace kb_p := kb_p.mv hb; obtain ⟨kb_p, kc_p, kf_p, hl_p, hn_p⟩ := kb_p
 replace kb_q := kb_q.mv hb; obtain ⟨kb_q, kc_q, kf_q, hl_q, hn_q⟩ := kb_q
 replace kb_r := kb_r.mv hb; obtain ⟨kb_r, kc_r, kf_r, hl_r, hn_r⟩ := kb_r
 clear hb
 go_wp2_with fail
 refine (H2.out _ hB).mono ?_
 rintro e w2 ⟨A2, c2, rfl, ho2, hb⟩
 have hr_e := Row2.born ho2
 clear ho2
 replace hB := hB.trans (Below.mono hb hB.size)
 have hz_w2 : w1.heap.size ≤ w2.heap.size := Below.size hb
 replace kb_p := kb_p.mv hb; obtain ⟨kb_p, kc_p, kf_p, hl_p, hn_p⟩ := kb_p
 replace kb_q := kb_q.mv hb; obtain ⟨kb_q, kc_q, kf_q, hl_q, hn_q⟩ := kb_q
 replace kb_r := kb_r.mv hb; obtain ⟨kb_r, kc_r, kf_r, hl_r, hn_r⟩ := kb_r
 clear hb
 go_wp2_with fail
 refine bodyPost_ret (v := .tuple #[.agg #[.int .i64 room, .int .i64 start, .slice A2 l.length c2, .int .i64 lv, .int .i64 ra, .int .i64 dr, .int .i64 lo], .bool false]) ?_ rfl ?_
 ·simp [results, Tryz.results127, go_sem, kc_r]
 ·exact ⟨A2, c2, rfl, (Row2.mono (lo := w1.heap.size) (hi := w2.heap.size) (hi' := w2.heap.size) (by exact rowT) (by omega) (Nat.le_refl _)).1, by exact tacT⟩
set_option maxHeartbeats 6400000 in
theorem Enter_bad (A : Option Addr) (c : Nat) (b : Bk) (ek el eo : Int) (w : World) (h : RdT w w.heap.size A c b.evs) (hs : b.evs.length ≤ 1048576) (hq : bookOk b = true) (h40 : b.evs.length < 40) (R1 R2 R3 R4 : Int) (hR : runEv b.room (b.evs ++ [⟨ek, el, eo⟩]) b.start 0 0 0 = (R1, R2, R3, R4, false)) :
  Calls Tryz.prog 127 #[b.val A c, .agg #[.int .i64 ek, .int .i64 el, .int .i64 eo]] w (BkRet (enter b ⟨ek, el, eo⟩) w) := by
 have hB := Below.refl w.heap.size w
 obtain ⟨hl, hm⟩ := h.le
 have hcall := fun (W : World) (hb : Below w.heap.size w W) => BookOk_any A c b W (h.below hb)
 have hcopy := fun (W : World) (hb : Below w.heap.size w W) => copyBook_any A c b W (h.below hb) hs
 obtain ⟨i1, i2, i3, i4⟩ := bookOk_iff hq
 have hcnt := fun (Ab : Option Addr) (cb : Nat) (W : World) (h : Rd W W.heap.size 3 Ab (b.evs.length + 1) cb (t3s (b.evs ++ [⟨ek, el, eo⟩]))) => counted_any b.room b.start Ab cb (b.evs ++ [⟨ek, el, eo⟩]) W (by unfold RdT; rw [List.length_append]; exact h) (by rw [List.length_append]; simp; omega)
 rw [hR] at hcnt
 simp only [List.length_append, List.length_cons, List.length_nil, Nat.zero_add] at hcnt
 have hst : enter b ⟨ek, el, eo⟩ = (b, false) := by unfold enter enterOk madeBk; rw [hq, hR]; simp [h40]
 rw [hst]
 unfold BkRet
 rw [hq] at hcall
 unfold Bk.val at hcall hcopy ⊢
 obtain ⟨room, start, l, lv, ra, dr, lo⟩ := b
 simp only at h hl hcall hcopy hcnt h40 hR ⊢
 have h41 : ¬ (40 : Int) ≤ (l.length : Int) := by omega
 have H1 := Lib.hid hcall
 have H2 := Lib.hid hcopy
 have HCNT := Lib.hid hcnt
 clear hcall hcopy hcnt hq hst i1 i2 i3 i4 hR
 go_enter Tryz.func127, Tryz.ntmps127
 go_wp2_with fail
 first | refine name_world ?_ | refine name_wp ?_
 intro W1 hW
 replace hB : Below w.heap.size w W1 := by rw [hW]; exact tacT
 have hz_W1 : w.heap.size ≤ W1.heap.size := by rw [hW]; exact sT
 replace kb_p : Blk W1 (w.heap.size) 32 #[.int .i64 room, .int .i64 start, .slice A l.length c, .int .i64 lv, .int .i64 ra, .int .i64 dr, .int .i64 lo] := by rw [hW]; exact blkT
 have hLW1_p := kb_p.lt
 replace kb_q : Blk W1 (w.heap.size + 1) 120 #[.int .i64 ek, .int .i64 el, .int .i64 eo] := by rw [hW]; exact blkT
 have hLW1_q := kb_q.lt
 replace kb_r : Blk W1 (w.heap.size + 2) 32 #[.int .i64 0, .int .i64 0, .slice none 0 0, .int .i64 0, .int .i64 0, .int .i64 0, .int .i64 0] := by rw [hW]; exact blkT
 have hLW1_r := kb_r.lt
 try clear kc_p kf_p
 try clear kc_q kf_q
 try clear kc_r kf_r
 clear hW
 refine (H1.out _ hB).mono ?_
 rintro e w1 ⟨rfl, hb⟩
 replace hB := hB.trans (Below.mono hb hB.size)
 have hz_w1 : W1.heap.size ≤ w1.heap.size := Below.size hb
 replace kb_p := kb_p.mv hb; obtain ⟨kb_p, kc_p, kf_p, hl_p, hn_p⟩ := kb_p
 replace kb_q := kb_q.mv hb; obtain ⟨kb_q, kc_q, kf_q, hl_q, hn_q⟩ := kb_q
 replace kb_r := kb_r.mv hb; obtain ⟨kb_r, kc_r, kf_r, hl_r, hn_r⟩ := kb_r
 clear hb
 go_wp2_with fail
 go_region_held3 (fun w' => w'.cell? ⟨w.heap.size, 0, none⟩ = some (.int .i64 room) ∧ w'.cell? ⟨w.heap.size, 1, none⟩ = some (.int .i64 start) ∧ w'.cell? ⟨w.heap.size, 2, none⟩ = some (.slice A l.length c) ∧ w'.cell? ⟨w.heap.size + 1, 0, none⟩ = some (.int .i64 ek) ∧ w'.cell? ⟨w.heap.size + 1, 1, none⟩ = some (.int .i64 el) ∧ w'.cell? ⟨w.heap.size + 1, 2, none⟩ = some (.int .i64 eo)) (first | (refine ⟨(Below.cell (B := w1.heap.size) (w := w1) (p := ⟨w.heap.size, 0, none⟩) ?_ (by show w.heap.size < w1.heap.size; omega)).trans (kb_p.cell 0), (Below.cell (B := w1.heap.size) (w := w1) (p := ⟨w.heap.size, 1, none⟩) ?_ (by show w.heap.size < w1.heap.size; omega)).trans (kb_p.cell 1), (Below.cell (B := w1.heap.size) (w := w1) (p := ⟨w.heap.size, 2, none⟩) ?_ (by show w.heap.size < w1.heap.size; omega)).trans (kb_p.cell 2), (Below.cell (B := w1.heap.size) (w := w1) (p := ⟨w.heap.size + 1, 0, none⟩) ?_ (by show w.heap.size + 1 < w1.heap.size; omega)).trans (kb_q.cell 0), (Below.cell (B := w1.heap.size) (w := w1) (p := ⟨w.heap.size + 1, 1, none⟩) ?_ (by show w.heap.size + 1 < w1.heap.size; omega)).trans (kb_q.cell 1), (Below.cell (B := w1.heap.size) (w := w1) (p := ⟨w.heap.size + 1, 2, none⟩) ?_ (by show w.heap.size + 1 < w1.heap.size; omega)).trans (kb_q.cell 2)⟩ <;> (repeat' (first | (with_reducible exact Below.refl _ _) | (with_reducible assumption) | (with_reducible refine Below.alloc ?_ ?_ _) | (with_reducible refine Below.setCell ?_ ?_ _) | (with_reducible refine Below.drew ?_) | (with_reducible refine below_drewN ?_ _) | (refine Below.trans ?_ (Below.mono (by with_reducible assumption) ?_)) | omega | (simp; done) | (simp; omega)))))
 ((first | (go_at_call 98; refine (HCNT.out Ab cb _ ?_).mono ?_; (focus (refine Rd.of_own (base := w1.heap.size) (e := 120) ?_; (repeat' (first | (with_reducible assumption) | (with_reducible refine World.ownsRow.alloc ?_ _) | (with_reducible refine World.ownsRow.drew ?_))); done)); rintro e w3 ⟨A3, c3, rfl, ho3, hb3⟩; have kc := keep_below hb3; replace ho3 := own_mono (base' := w.heap.size) ho3 (by exact oT); have hz3 := hb3.size; have hz3' : wb.heap.size ≤ w3.heap.size := (by first | exact hz3 | (simp at hz3; omega)); have hB3 : Below w1.heap.size w1 w3 := (by exact tacT); (try (refine (fun (kL0 : Blk w3 (w1.heap.size) 32 #[.int .i64 0, .int .i64 0, .slice none 0 0, .int .i64 0, .int .i64 0, .int .i64 0, .int .i64 0]) => ?_) ?_; rotate_left; (focus ((repeat' (first | (with_reducible assumption) | (with_reducible refine kc _ _ _ ?_) | (with_reducible refine kb _ _ _ (by decide) ?_) | (with_reducible refine ka _ _ _ ?_) | (with_reducible refine Blk.drew ?_) | (with_reducible refine Blk.new' _ _ _ _ ?_; (first | rfl | omega | (simp; done))) | (with_reducible refine Blk.alloc ?_ _) | omega)); done)); have mL0 : w.heap.size ≠ w1.heap.size := (by omega); have mL1 : w.heap.size + 1 ≠ w1.heap.size := (by omega); have mL2 : w.heap.size + 2 ≠ w1.heap.size := (by omega); have jL0 : w1.heap.size ≠ w.heap.size := (by omega); have jL1 : w1.heap.size ≠ w.heap.size + 1 := (by omega); have jL2 : w1.heap.size ≠ w.heap.size + 2 := (by omega); have kcL := kL0.cells; have kfL := kL0.frozens; have hlL := kL0.lt; have hnL := Nat.ne_of_lt hlL)); (try (refine (fun (kL1 : Blk w3 (w1.heap.size + 1) 32 #[.int .i64 0, .int .i64 0, .slice none 0 0, .int .i64 0, .int .i64 0, .int .i64 0, .int .i64 0]) => ?_) ?_; rotate_left; (focus ((repeat' (first | (with_reducible assumption) | (with_reducible refine kc _ _ _ ?_) | (with_reducible refine kb _ _ _ (by decide) ?_) | (with_reducible refine ka _ _ _ ?_) | (with_reducible refine Blk.drew ?_) | (with_reducible refine Blk.new' _ _ _ _ ?_; (first | rfl | omega | (simp; done))) | (with_reducible refine Blk.alloc ?_ _) | omega)); done)); have mL0 : w.heap.size ≠ w1.heap.size + 1 := (by omega); have mL1 : w.heap.size + 1 ≠ w1.heap.size + 1 := (by omega); have mL2 : w.heap.size + 2 ≠ w1.heap.size + 1 := (by omega); have jL0 : w1.heap.size + 1 ≠ w.heap.size := (by omega); have jL1 : w1.heap.size + 1 ≠ w.heap.size + 1 := (by omega); have jL2 : w1.heap.size + 1 ≠ w.heap.size + 2 := (by omega); have kcL := kL1.cells; have kfL := kL1.frozens; have hlL := kL1.lt; have hnL := Nat.ne_of_lt hlL)); (try (refine (fun (kL2 : Blk w3 (wa.heap.size) 32 #[.int .i64 0, .int .i64 0, .slice none 0 0, .int .i64 0, .int .i64 0, .int .i64 0, .int .i64 0]) => ?_) ?_; rotate_left; (focus ((repeat' (first | (with_reducible assumption) | (with_reducible refine kc _ _ _ ?_) | (with_reducible refine kb _ _ _ (by decide) ?_) | (with_reducible refine ka _ _ _ ?_) | (with_reducible refine Blk.drew ?_) | (with_reducible refine Blk.new' _ _ _ _ ?_; (first | rfl | omega | (simp; done))) | (with_reducible refine Blk.alloc ?_ _) | omega)); done)); have mL0 : w.heap.size ≠ wa.heap.size := (by omega); have mL1 : w.heap.size + 1 ≠ wa.heap.size := (by omega); have mL2 : w.heap.size + 2 ≠ wa.heap.size := (by omega); have jL0 : wa.heap.size ≠ w.heap.size := (by omega); have jL1 : wa.heap.size ≠ w.heap.size + 1 := (by omega); have jL2 : wa.heap.size ≠ w.heap.size + 2 := (by omega); have kcL := kL2.cells; have kfL := kL2.frozens; have hlL := kL2.lt; have hnL := Nat.ne_of_lt hlL)); (try (refine (fun (kL3 : Blk w3 (wa.heap.size + 1) 32 #[.int .i64 0, .int .i64 0, .slice none 0 0, .int .i64 0, .int .i64 0, .int .i64 0, .int .i64 0]) => ?_) ?_; rotate_left; (focus ((repeat' (first | (with_reducible assumption) | (with_reducible refine kc _ _ _ ?_) | (with_reducible refine kb _ _ _ (by decide) ?_) | (with_reducible refine ka _ _ _ ?_) | (with_reducible refine Blk.drew ?_) | (with_reducible refine Blk.new' _ _ _ _ ?_; (first | rfl | omega | (simp; done))) | (with_reducible refine Blk.alloc ?_ _) | omega)); done)); have mL0 : w.heap.size ≠ wa.heap.size + 1 := (by omega); have mL1 : w.heap.size + 1 ≠ wa.heap.size + 1 := (by omega); have mL2 : w.heap.size + 2 ≠ wa.heap.size + 1 := (by omega); have jL0 : wa.heap.size + 1 ≠ w.heap.size := (by omega); have jL1 : wa.heap.size + 1 ≠ w.heap.size + 1 := (by omega); have jL2 : wa.heap.size + 1 ≠ w.heap.size + 2 := (by omega); have kcL := kL3.cells; have kfL := kL3.frozens; have hlL := kL3.lt; have hnL := Nat.ne_of_lt hlL)); (try (refine (fun (kL4 : Blk w3 (wb.heap.size) 32 #[.int .i64 0, .int .i64 0, .slice none 0 0, .int .i64 0, .int .i64 0, .int .i64 0, .int .i64 0]) => ?_) ?_; rotate_left; (focus ((repeat' (first | (with_reducible assumption) | (with_reducible refine kc _ _ _ ?_) | (with_reducible refine kb _ _ _ (by decide) ?_) | (with_reducible refine ka _ _ _ ?_) | (with_reducible refine Blk.drew ?_) | (with_reducible refine Blk.new' _ _ _ _ ?_; (first | rfl | omega | (simp; done))) | (with_reducible refine Blk.alloc ?_ _) | omega)); done)); have mL0 : w.heap.size ≠ wb.heap.size := (by omega); have mL1 : w.heap.size + 1 ≠ wb.heap.size := (by omega); have mL2 : w.heap.size + 2 ≠ wb.heap.size := (by omega); have jL0 : wb.heap.size ≠ w.heap.size := (by omega); have jL1 : wb.heap.size ≠ w.heap.size + 1 := (by omega); have jL2 : wb.heap.size ≠ w.heap.size + 2 := (by omega); have kcL := kL4.cells; have kfL := kL4.frozens; have hlL := kL4.lt; have hnL := Nat.ne_of_lt hlL)); have kb3_p : Blk w3 (w.heap.size) 32 #[.int .i64 room, .int .i64 start, .slice A l.length c, .int .i64 lv, .int .i64 ra, .int .i64 dr, .int .i64 lo] := Blk.below kb_p hB3 (by omega); have kc3_p := kb3_p.cells; have kf3_p := kb3_p.frozens; have hl3_p := kb3_p.lt; have hn3_p := Nat.ne_of_lt hl3_p; have kb3_r : Blk w3 (w.heap.size + 2) 32 #[.int .i64 0, .int .i64 0, .slice none 0 0, .int .i64 0, .int .i64 0, .int .i64 0, .int .i64 0] := Blk.below kb_r hB3 (by omega); have kc3_r := kb3_r.cells; have kf3_r := kb3_r.frozens; have hl3_r := kb3_r.lt; have hn3_r := Nat.ne_of_lt hl3_r) | (refine step_appB rfl _ _ 30 rfl w1.heap.size 120 (.agg #[.int .i64 0, .int .i64 0, .int .i64 0]) 3 24 Tryz.underlying30 infoEv rfl (Nat.le_of_ble_eq_true rfl) (.slice Aa l.length ca) l.length (t3s l) rfl ?_ _ _ 1 1 (t3s [⟨ek, el, eo⟩]) rfl (rd_blk (t := 120) ?_) (t3s_one _) ?_ ?_ ?_ ?_; (focus ((repeat' (first | (with_reducible assumption) | (with_reducible refine World.ownsRow.alloc ?_ _) | (with_reducible refine World.ownsRow.drew ?_))); done)); (focus ((repeat' (first | (with_reducible assumption) | (with_reducible refine kc _ _ _ ?_) | (with_reducible refine kb _ _ _ (by decide) ?_) | (with_reducible refine ka _ _ _ ?_) | (with_reducible refine Blk.drew ?_) | (with_reducible refine Blk.new' _ _ _ _ ?_; (first | rfl | omega | (simp; done))) | (with_reducible refine Blk.alloc ?_ _) | omega)); done)); omega; omega; (focus (first | omega | (simp; done) | (simp; omega))); intro Ab cb wb hob hgb kb; rw [← t3s_append] at hob; have hzb := hgb.size; have hzb' : wa.heap.size ≤ wb.heap.size := (by first | exact hzb | (simp at hzb; omega)); have hBb : Below w1.heap.size w1 wb := Below.grown (by exact tacT) hgb (by exact ooT) (fun k hk => (hoa.lt k hk).1)) | (refine step_appN rfl _ _ 30 rfl w1.heap.size 120 (.agg #[.int .i64 0, .int .i64 0, .int .i64 0]) 3 24 Tryz.underlying30 infoEv rfl (Nat.le_of_ble_eq_true rfl) rfl w.heap.size A l.length c (t3s l) rfl ?_ (t3s_one l) ?_ ?_ ?_ ?_; (focus (refine Rd.keep h (fun p hp => Below.cell (B := w.heap.size) ?_ hp); refine Below.trans hB (Below.mono (B := w1.heap.size) ?_ hB.size); repeat' (first | (with_reducible exact Below.refl _ _) | (with_reducible assumption) | (with_reducible refine Below.alloc ?_ ?_ _) | (with_reducible refine Below.setCell ?_ ?_ _) | (with_reducible refine Below.drew ?_) | (with_reducible refine below_drewN ?_ _) | (refine Below.trans ?_ (Below.mono (by with_reducible assumption) ?_)) | omega | (simp; done) | (simp; omega)))); omega; omega; (focus (first | omega | (simp; done) | (simp; omega))); intro Aa ca wa hoa hga ka; have hza := hga.size; have hBa : Below w1.heap.size w1 wa := Below.grown (by exact tacT) hga (by exact ooT) (fun k hk => by cases hk); have hza' : w1.heap.size ≤ wa.heap.size := hBa.size)))
 all_goals
  go_wp2_with fail
  first | refine name_world ?_ | refine name_wp ?_
  intro W3 hW
  replace hB : Below w.heap.size w W3 := by rw [hW]; exact tacT
  have hz_W3 : w3.heap.size ≤ W3.heap.size := by rw [hW]; exact sT
  replace kb_p : Blk W3 (w.heap.size) 32 #[.int .i64 room, .int .i64 start, .slice A l.length c, .int .i64 lv, .int .i64 ra, .int .i64 dr, .int .i64 lo] := by rw [hW]; exact blkT
  have hLW3_p := kb_p.lt
  replace kb_r : Blk W3 (w.heap.size + 2) 32 #[.int .i64 0, .int .i64 0, .slice none 0 0, .int .i64 0, .int .i64 0, .int .i64 0, .int .i64 0] := by rw [hW]; exact blkT
  have hLW3_r := kb_r.lt
  try clear kc_p kf_p
  try clear kc_r kf_r
  clear hW
  refine (H2.out _ hB).mono ?_
  rintro e w4 ⟨A4, c4, rfl, ho4, hb⟩
  have hr_e := Row2.born ho4
  clear ho4
  replace hB := hB.trans (Below.mono hb hB.size)
  have hz_w4 : W3.heap.size ≤ w4.heap.size := Below.size hb
  replace kb_p := kb_p.mv hb; obtain ⟨kb_p, kc_p, kf_p, hl_p, hn_p⟩ := kb_p
  replace kb_r := kb_r.mv hb; obtain ⟨kb_r, kc_r, kf_r, hl_r, hn_r⟩ := kb_r
  clear hb
  go_wp2_with fail
  refine bodyPost_ret (v := .tuple #[.agg #[.int .i64 room, .int .i64 start, .slice A4 l.length c4, .int .i64 lv, .int .i64 ra, .int .i64 dr, .int .i64 lo], .bool false]) ?_ rfl ?_
  ·simp [results, Tryz.results127, go_sem, kc_r]
  ·exact ⟨A4, c4, rfl, (Row2.mono (lo := W3.heap.size) (hi := w4.heap.size) (hi' := w4.heap.size) (by exact rowT) (by omega) (Nat.le_refl _)).1, by exact tacT⟩
set_option maxHeartbeats 6400000 in
theorem Enter_good (A : Option Addr) (c : Nat) (b : Bk) (ek el eo : Int) (w : World) (h : RdT w w.heap.size A c b.evs) (hs : b.evs.length ≤ 1048576) (hq : bookOk b = true) (h40 : b.evs.length < 40) (R1 R2 R3 R4 : Int) (hR : runEv b.room (b.evs ++ [⟨ek, el, eo⟩]) b.start 0 0 0 = (R1, R2, R3, R4, true)) :
  Calls Tryz.prog 127 #[b.val A c, .agg #[.int .i64 ek, .int .i64 el, .int .i64 eo]] w (BkRet (enter b ⟨ek, el, eo⟩) w) := by
 have hB := Below.refl w.heap.size w
 obtain ⟨hl, hm⟩ := h.le
 have hcall := fun (W : World) (hb : Below w.heap.size w W) => BookOk_any A c b W (h.below hb)
 have hcopy := fun (W : World) (hb : Below w.heap.size w W) => copyBook_any A c b W (h.below hb) hs
 obtain ⟨i1, i2, i3, i4⟩ := bookOk_iff hq
 have hcnt := fun (Ab : Option Addr) (cb : Nat) (W : World) (h : Rd W W.heap.size 3 Ab (b.evs.length + 1) cb (t3s (b.evs ++ [⟨ek, el, eo⟩]))) => counted_any b.room b.start Ab cb (b.evs ++ [⟨ek, el, eo⟩]) W (by unfold RdT; rw [List.length_append]; exact h) (by rw [List.length_append]; simp; omega)
 rw [hR] at hcnt
 simp only [List.length_append, List.length_cons, List.length_nil, Nat.zero_add] at hcnt
 have hst : enter b ⟨ek, el, eo⟩ = (⟨b.room, b.start, b.evs ++ [⟨ek, el, eo⟩], R1, R2, R3, R4⟩, true) := by unfold enter enterOk madeBk; rw [hq, hR]; simp [h40]
 rw [hst]
 unfold BkRet
 rw [hq] at hcall
 unfold Bk.val at hcall hcopy ⊢
 obtain ⟨room, start, l, lv, ra, dr, lo⟩ := b
 simp only at h hl hcall hcopy hcnt h40 hR ⊢
 simp only [List.length_append, List.length_cons, List.length_nil, Nat.zero_add]
 have h41 : ¬ (40 : Int) ≤ (l.length : Int) := by omega
 have H1 := Lib.hid hcall
 have H2 := Lib.hid hcopy
 have HCNT := Lib.hid hcnt
 clear hcall hcopy hcnt hq hst i1 i2 i3 i4 hR
 go_enter Tryz.func127, Tryz.ntmps127
 go_wp2_with fail
 first | refine name_world ?_ | refine name_wp ?_
 intro W1 hW
 replace hB : Below w.heap.size w W1 := by rw [hW]; exact tacT
 have hz_W1 : w.heap.size ≤ W1.heap.size := by rw [hW]; exact sT
 replace kb_p : Blk W1 (w.heap.size) 32 #[.int .i64 room, .int .i64 start, .slice A l.length c, .int .i64 lv, .int .i64 ra, .int .i64 dr, .int .i64 lo] := by rw [hW]; exact blkT
 have hLW1_p := kb_p.lt
 replace kb_q : Blk W1 (w.heap.size + 1) 120 #[.int .i64 ek, .int .i64 el, .int .i64 eo] := by rw [hW]; exact blkT
 have hLW1_q := kb_q.lt
 replace kb_r : Blk W1 (w.heap.size + 2) 32 #[.int .i64 0, .int .i64 0, .slice none 0 0, .int .i64 0, .int .i64 0, .int .i64 0, .int .i64 0] := by rw [hW]; exact blkT
 have hLW1_r := kb_r.lt
 try clear kc_p kf_p
 try clear kc_q kf_q
 try clear kc_r kf_r
 clear hW
 refine (H1.out _ hB).mono ?_
 rintro e w1 ⟨rfl, hb⟩
 replace hB := hB.trans (Below.mono hb hB.size)
 have hz_w1 : W1.heap.size ≤ w1.heap.size := Below.size hb
 replace kb_p := kb_p.mv hb; obtain ⟨kb_p, kc_p, kf_p, hl_p, hn_p⟩ := kb_p
 replace kb_q := kb_q.mv hb; obtain ⟨kb_q, kc_q, kf_q, hl_q, hn_q⟩ := kb_q
 replace kb_r := kb_r.mv hb; obtain ⟨kb_r, kc_r, kf_r, hl_r, hn_r⟩ := kb_r
 clear hb
 go_wp2_with fail
 go_region_held3 (fun w' => w'.cell? ⟨w.heap.size, 0, none⟩ = some (.int .i64 room) ∧ w'.cell? ⟨w.heap.size, 1, none⟩ = some (.int .i64 start) ∧ w'.cell? ⟨w.heap.size, 2, none⟩ = some (.slice A l.length c) ∧ w'.cell? ⟨w.heap.size + 1, 0, none⟩ = some (.int .i64 ek) ∧ w'.cell? ⟨w.heap.size + 1, 1, none⟩ = some (.int .i64 el) ∧ w'.cell? ⟨w.heap.size + 1, 2, none⟩ = some (.int .i64 eo)) (first | (refine ⟨(Below.cell (B := w1.heap.size) (w := w1) (p := ⟨w.heap.size, 0, none⟩) ?_ (by show w.heap.size < w1.heap.size; omega)).trans (kb_p.cell 0), (Below.cell (B := w1.heap.size) (w := w1) (p := ⟨w.heap.size, 1, none⟩) ?_ (by show w.heap.size < w1.heap.size; omega)).trans (kb_p.cell 1), (Below.cell (B := w1.heap.size) (w := w1) (p := ⟨w.heap.size, 2, none⟩) ?_ (by show w.heap.size < w1.heap.size; omega)).trans (kb_p.cell 2), (Below.cell (B := w1.heap.size) (w := w1) (p := ⟨w.heap.size + 1, 0, none⟩) ?_ (by show w.heap.size + 1 < w1.heap.size; omega)).trans (kb_q.cell 0), (Below.cell (B := w1.heap.size) (w := w1) (p := ⟨w.heap.size + 1, 1, none⟩) ?_ (by show w.heap.size + 1 < w1.heap.size; omega)).trans (kb_q.cell 1), (Below.cell (B := w1.heap.size) (w := w1) (p := ⟨w.heap.size + 1, 2, none⟩) ?_ (by show w.heap.size + 1 < w1.heap.size; omega)).trans (kb_q.cell 2)⟩ <;> (repeat' (first | (with_reducible exact Below.refl _ _) | (with_reducible assumption) | (with_reducible refine Below.alloc ?_ ?_ _) | (with_reducible refine Below.setCell ?_ ?_ _) | (with_reducible refine Below.drew ?_) | (with_reducible refine below_drewN ?_ _) | (refine Below.trans ?_ (Below.mono (by with_reducible assumption) ?_)) | omega | (simp; done) | (simp; omega)))))
 ((first | (go_at_call 98; refine (HCNT.out Ab cb _ ?_).mono ?_; (focus (refine Rd.of_own (base := w1.heap.size) (e := 120) ?_; (repeat' (first | (with_reducible assumption) | (with_reducible refine World.ownsRow.alloc ?_ _) | (with_reducible refine World.ownsRow.drew ?_))); done)); rintro e w3 ⟨A3, c3, rfl, ho3, hb3⟩; have kc := keep_below hb3; replace ho3 := own_mono (base' := w.heap.size) ho3 (by exact oT); have hz3 := hb3.size; have hz3' : wb.heap.size ≤ w3.heap.size := (by first | exact hz3 | (simp at hz3; omega)); have hB3 : Below w1.heap.size w1 w3 := (by exact tacT); (try (refine (fun (kL0 : Blk w3 (w1.heap.size) 32 #[.int .i64 0, .int .i64 0, .slice none 0 0, .int .i64 0, .int .i64 0, .int .i64 0, .int .i64 0]) => ?_) ?_; rotate_left; (focus ((repeat' (first | (with_reducible assumption) | (with_reducible refine kc _ _ _ ?_) | (with_reducible refine kb _ _ _ (by decide) ?_) | (with_reducible refine ka _ _ _ ?_) | (with_reducible refine Blk.drew ?_) | (with_reducible refine Blk.new' _ _ _ _ ?_; (first | rfl | omega | (simp; done))) | (with_reducible refine Blk.alloc ?_ _) | omega)); done)); have mL0 : w.heap.size ≠ w1.heap.size := (by omega); have mL1 : w.heap.size + 1 ≠ w1.heap.size := (by omega); have mL2 : w.heap.size + 2 ≠ w1.heap.size := (by omega); have jL0 : w1.heap.size ≠ w.heap.size := (by omega); have jL1 : w1.heap.size ≠ w.heap.size + 1 := (by omega); have jL2 : w1.heap.size ≠ w.heap.size + 2 := (by omega); have kcL := kL0.cells; have kfL := kL0.frozens; have hlL := kL0.lt; have hnL := Nat.ne_of_lt hlL)); (try (refine (fun (kL1 : Blk w3 (w1.heap.size + 1) 32 #[.int .i64 0, .int .i64 0, .slice none 0 0, .int .i64 0, .int .i64 0, .int .i64 0, .int .i64 0]) => ?_) ?_; rotate_left; (focus ((repeat' (first | (with_reducible assumption) | (with_reducible refine kc _ _ _ ?_) | (with_reducible refine kb _ _ _ (by decide) ?_) | (with_reducible refine ka _ _ _ ?_) | (with_reducible refine Blk.drew ?_) | (with_reducible refine Blk.new' _ _ _ _ ?_; (first | rfl | omega | (simp; done))) | (with_reducible refine Blk.alloc ?_ _) | omega)); done)); have mL0 : w.heap.size ≠ w1.heap.size + 1 := (by omega); have mL1 : w.heap.size + 1 ≠ w1.heap.size + 1 := (by omega); have mL2 : w.heap.size + 2 ≠ w1.heap.size + 1 := (by omega); have jL0 : w1.heap.size + 1 ≠ w.heap.size := (by omega); have jL1 : w1.heap.size + 1 ≠ w.heap.size + 1 := (by omega); have jL2 : w1.heap.size + 1 ≠ w.heap.size + 2 := (by omega); have kcL := kL1.cells; have kfL := kL1.frozens; have hlL := kL1.lt; have hnL := Nat.ne_of_lt hlL)); (try (refine (fun (kL2 : Blk w3 (wa.heap.size) 32 #[.int .i64 0, .int .i64 0, .slice none 0 0, .int .i64 0, .int .i64 0, .int .i64 0, .int .i64 0]) => ?_) ?_; rotate_left; (focus ((repeat' (first | (with_reducible assumption) | (with_reducible refine kc _ _ _ ?_) | (with_reducible refine kb _ _ _ (by decide) ?_) | (with_reducible refine ka _ _ _ ?_) | (with_reducible refine Blk.drew ?_) | (with_reducible refine Blk.new' _ _ _ _ ?_; (first | rfl | omega | (simp; done))) | (with_reducible refine Blk.alloc ?_ _) | omega)); done)); have mL0 : w.heap.size ≠ wa.heap.size := (by omega); have mL1 : w.heap.size + 1 ≠ wa.heap.size := (by omega); have mL2 : w.heap.size + 2 ≠ wa.heap.size := (by omega); have jL0 : wa.heap.size ≠ w.heap.size := (by omega); have jL1 : wa.heap.size ≠ w.heap.size + 1 := (by omega); have jL2 : wa.heap.size ≠ w.heap.size + 2 := (by omega); have kcL := kL2.cells; have kfL := kL2.frozens; have hlL := kL2.lt; have hnL := Nat.ne_of_lt hlL)); (try (refine (fun (kL3 : Blk w3 (wa.heap.size + 1) 32 #[.int .i64 0, .int .i64 0, .slice none 0 0, .int .i64 0, .int .i64 0, .int .i64 0, .int .i64 0]) => ?_) ?_; rotate_left; (focus ((repeat' (first | (with_reducible assumption) | (with_reducible refine kc _ _ _ ?_) | (with_reducible refine kb _ _ _ (by decide) ?_) | (with_reducible refine ka _ _ _ ?_) | (with_reducible refine Blk.drew ?_) | (with_reducible refine Blk.new' _ _ _ _ ?_; (first | rfl | omega | (simp; done))) | (with_reducible refine Blk.alloc ?_ _) | omega)); done)); have mL0 : w.heap.size ≠ wa.heap.size + 1 := (by omega); have mL1 : w.heap.size + 1 ≠ wa.heap.size + 1 := (by omega); have mL2 : w.heap.size + 2 ≠ wa.heap.size + 1 := (by omega); have jL0 : wa.heap.size + 1 ≠ w.heap.size := (by omega); have jL1 : wa.heap.size + 1 ≠ w.heap.size + 1 := (by omega); have jL2 : wa.heap.size + 1 ≠ w.heap.size + 2 := (by omega); have kcL := kL3.cells; have kfL := kL3.frozens; have hlL := kL3.lt; have hnL := Nat.ne_of_lt hlL)); (try (refine (fun (kL4 : Blk w3 (wb.heap.size) 32 #[.int .i64 0, .int .i64 0, .slice none 0 0, .int .i64 0, .int .i64 0, .int .i64 0, .int .i64 0]) => ?_) ?_; rotate_left; (focus ((repeat' (first | (with_reducible assumption) | (with_reducible refine kc _ _ _ ?_) | (with_reducible refine kb _ _ _ (by decide) ?_) | (with_reducible refine ka _ _ _ ?_) | (with_reducible refine Blk.drew ?_) | (with_reducible refine Blk.new' _ _ _ _ ?_; (first | rfl | omega | (simp; done))) | (with_reducible refine Blk.alloc ?_ _) | omega)); done)); have mL0 : w.heap.size ≠ wb.heap.size := (by omega); have mL1 : w.heap.size + 1 ≠ wb.heap.size := (by omega); have mL2 : w.heap.size + 2 ≠ wb.heap.size := (by omega); have jL0 : wb.heap.size ≠ w.heap.size := (by omega); have jL1 : wb.heap.size ≠ w.heap.size + 1 := (by omega); have jL2 : wb.heap.size ≠ w.heap.size + 2 := (by omega); have kcL := kL4.cells; have kfL := kL4.frozens; have hlL := kL4.lt; have hnL := Nat.ne_of_lt hlL)); have kb3_p : Blk w3 (w.heap.size) 32 #[.int .i64 room, .int .i64 start, .slice A l.length c, .int .i64 lv, .int .i64 ra, .int .i64 dr, .int .i64 lo] := Blk.below kb_p hB3 (by omega); have kc3_p := kb3_p.cells; have kf3_p := kb3_p.frozens; have hl3_p := kb3_p.lt; have hn3_p := Nat.ne_of_lt hl3_p; have kb3_r : Blk w3 (w.heap.size + 2) 32 #[.int .i64 0, .int .i64 0, .slice none 0 0, .int .i64 0, .int .i64 0, .int .i64 0, .int .i64 0] := Blk.below kb_r hB3 (by omega); have kc3_r := kb3_r.cells; have kf3_r := kb3_r.frozens; have hl3_r := kb3_r.lt; have hn3_r := Nat.ne_of_lt hl3_r) | (refine step_appB rfl _ _ 30 rfl w1.heap.size 120 (.agg #[.int .i64 0, .int .i64 0, .int .i64 0]) 3 24 Tryz.underlying30 infoEv rfl (Nat.le_of_ble_eq_true rfl) (.slice Aa l.length ca) l.length (t3s l) rfl ?_ _ _ 1 1 (t3s [⟨ek, el, eo⟩]) rfl (rd_blk (t := 120) ?_) (t3s_one _) ?_ ?_ ?_ ?_; (focus ((repeat' (first | (with_reducible assumption) | (with_reducible refine World.ownsRow.alloc ?_ _) | (with_reducible refine World.ownsRow.drew ?_))); done)); (focus ((repeat' (first | (with_reducible assumption) | (with_reducible refine kc _ _ _ ?_) | (with_reducible refine kb _ _ _ (by decide) ?_) | (with_reducible refine ka _ _ _ ?_) | (with_reducible refine Blk.drew ?_) | (with_reducible refine Blk.new' _ _ _ _ ?_; (first | rfl | omega | (simp; done))) | (with_reducible refine Blk.alloc ?_ _) | omega)); done)); omega; omega; (focus (first | omega | (simp; done) | (simp; omega))); intro Ab cb wb hob hgb kb; rw [← t3s_append] at hob; have hzb := hgb.size; have hzb' : wa.heap.size ≤ wb.heap.size := (by first | exact hzb | (simp at hzb; omega)); have hBb : Below w1.heap.size w1 wb := Below.grown (by exact tacT) hgb (by exact ooT) (fun k hk => (hoa.lt k hk).1)) | (refine step_appN rfl _ _ 30 rfl w1.heap.size 120 (.agg #[.int .i64 0, .int .i64 0, .int .i64 0]) 3 24 Tryz.underlying30 infoEv rfl (Nat.le_of_ble_eq_true rfl) rfl w.heap.size A l.length c (t3s l) rfl ?_ (t3s_one l) ?_ ?_ ?_ ?_; (focus (refine Rd.keep h (fun p hp => Below.cell (B := w.heap.size) ?_ hp); refine Below.trans hB (Below.mono (B := w1.heap.size) ?_ hB.size); repeat' (first | (with_reducible exact Below.refl _ _) | (with_reducible assumption) | (with_reducible refine Below.alloc ?_ ?_ _) | (with_reducible refine Below.setCell ?_ ?_ _) | (with_reducible refine Below.drew ?_) | (with_reducible refine below_drewN ?_ _) | (refine Below.trans ?_ (Below.mono (by with_reducible assumption) ?_)) | omega | (simp; done) | (simp; omega)))); omega; omega; (focus (first | omega | (simp; done) | (simp; omega))); intro Aa ca wa hoa hga ka; have hza := hga.size; have hBa : Below w1.heap.size w1 wa := Below.grown (by exact tacT) hga (by exact ooT) (fun k hk => by cases hk); have hza' : w1.heap.size ≤ wa.heap.size := hBa.size)))
 all_goals
  go_wp2_with fail
  refine bodyPost_ret (v := .tuple #[.agg #[.int .i64 room, .int .i64 start, .slice A3 (l.length + 1) c3, .int .i64 R1, .int .i64 R2, .int .i64 R3, .int .i64 R4], .bool true]) ?_ rfl ?_
  ·first | (simp [results, Tryz.results127, go_sem, kcL, kc3_r, hl3_r, hn3_r, hlL, hnL]; done) | (simp [results, Tryz.results127, go_sem, kc3_r, hl3_r, hn3_r]; done)
  ·refine ⟨A3, c3, rfl, ?_, by exact tacT⟩
   (repeat' (first | (with_reducible assumption) | (with_reducible apply own_set7 (t := 32)) | (with_reducible refine World.ownsRow.alloc ?_ _) | (with_reducible refine World.ownsRow.drew ?_)))
   all_goals (repeat' (first | (with_reducible assumption) | (with_reducible refine Blk.drew ?_) | (with_reducible refine Blk.drewN ?_ _) | (with_reducible refine Blk.new' _ _ _ _ ?_; (first | rfl | omega | (simp; done))) | (with_reducible exact Blk.new _ _ _) | (with_reducible refine Blk.alloc ?_ _) | (with_reducible apply Blk.set8) | (with_reducible apply Blk.set7of8) | (with_reducible apply Blk.setlast8) | (with_reducible apply Blk.set7) | (with_reducible apply Blk.set2) | (with_reducible apply Blk.set3) | (with_reducible refine Blk.far ?_ ?_ _) | (simp; done) | (simp; omega) | (dsimp only; omega)))
theorem Enter_any (A : Option Addr) (c : Nat) (b : Bk) (ek el eo : Int) (w : World) (h : RdT w w.heap.size A c b.evs) (hs : b.evs.length ≤ 1048576) :
  Calls Tryz.prog 127 #[b.val A c, .agg #[.int .i64 ek, .int .i64 el, .int .i64 eo]] w (BkRet (enter b ⟨ek, el, eo⟩) w) := by
 cases hq : bookOk b
 ·exact Enter_no A c b ek el eo w h hs hq
 by_cases h40 : b.evs.length < 40
 case neg => exact Enter_40 A c b ek el eo w h hs hq h40
 obtain ⟨R1, R2, R3, R4, ok, hR⟩ : ∃ R1 R2 R3 R4 ok, runEv b.room (b.evs ++ [⟨ek, el, eo⟩]) b.start 0 0 0 = (R1, R2, R3, R4, ok) := ⟨_, _, _, _, _, rfl⟩
 cases ok
 ·exact Enter_bad A c b ek el eo w h hs hq h40 R1 R2 R3 R4 hR
 ·exact Enter_good A c b ek el eo w h hs hq h40 R1 R2 R3 R4 hR
end
end Go.Proofs.YtpmmjhpmheooeaaGreatDoor
