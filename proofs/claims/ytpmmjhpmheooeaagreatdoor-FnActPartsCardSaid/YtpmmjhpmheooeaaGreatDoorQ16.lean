/- Texts of the proof, joined: MarkBook, ToBook, Village, VillCopy. -/
import Derived.Test.YtpmmjhpmheooeaaGreatDoorQ12
import Derived.Test.YtpmmjhpmheooeaaGreatDoorQ3
import Derived.Test.YtpmmjhpmheooeaaGreatDoorQ10
import Derived.Test.YtpmmjhpmheooeaaGreatDoorQ5
namespace Go.Proofs.YtpmmjhpmheooeaaGreatDoor
set_option linter.unusedSimpArgs false
set_option linter.unusedVariables false
section
open Go.RowKit
set_option maxRecDepth 20000
structure Vg where
 book : Bk
 rights : List T3
def Vg.val (v : Vg) (A : Option Addr) (c : Nat) (R : Option Addr) (d : Nat) : Value := .agg #[.int .i64 v.book.room, .int .i64 v.book.start, .slice A v.book.evs.length c, .int .i64 v.book.level, .int .i64 v.book.rained, .int .i64 v.book.drunk, .int .i64 v.book.lost, .slice R v.rights.length d]
def villageOk (v : Vg) : Bool := bookOk v.book && rightsOk v.rights
set_option maxHeartbeats 1600000 in
theorem VillageOk_any (A : Option Addr) (c : Nat) (R : Option Addr) (d : Nat) (v : Vg) (w : World) (h : RdT w w.heap.size A c v.book.evs) (h' : RdT w w.heap.size R d v.rights) (hs : v.book.evs.length ≤ 1048576) :
  Calls Tryz.prog 36 #[v.val A c R d] w fun e w' => e = .returned (.bool (villageOk v)) ∧ Below w.heap.size w w' := by
 have hB := Below.refl w.heap.size w
 have h1 := fun (W : World) (hb : Below w.heap.size w W) => BookOk_any A c v.book W (h.below hb)
 have h2 := fun (W : World) (hb : Below w.heap.size w W) => RightsOk_any R d v.rights W (h'.below hb)
 have hv : villageOk v = (bookOk v.book && rightsOk v.rights) := rfl
 rw [hv]
 clear hv
 unfold Vg.val
 unfold Bk.val at h1
 obtain ⟨⟨room, start, l, lv, ra, dr, lo⟩, rs⟩ := v
 simp only at h h' hs h1 h2 ⊢
 have H1 := Lib.hid h1
 have H2 := Lib.hid h2
 clear h1 h2
 cases c1 : bookOk ⟨room, start, l, lv, ra, dr, lo⟩
 all_goals
  go_enter Tryz.func36, Tryz.ntmps36
  go_wp2_with fail
  first | refine name_world ?_ | refine name_wp ?_
  intro W1 hW
  replace hB : Below w.heap.size w W1 := by rw [hW]; exact tacT
  have hz_W1 : w.heap.size ≤ W1.heap.size := by rw [hW]; exact sT
  replace kb_p : Blk W1 (w.heap.size) 35 #[.int .i64 room, .int .i64 start, .slice A l.length c, .int .i64 lv, .int .i64 ra, .int .i64 dr, .int .i64 lo, .slice R rs.length d] := by rw [hW]; exact blkT
  have hLW1_p := kb_p.lt
  try clear kc_p kf_p
  clear hW
  refine (H1.out _ hB).mono ?_
  rw [c1]
  rintro e w1 ⟨rfl, hb⟩
  replace hB := hB.trans (Below.mono hb hB.size)
  have hz_w1 : W1.heap.size ≤ w1.heap.size := Below.size hb
  replace kb_p := kb_p.mv hb; obtain ⟨kb_p, kc_p, kf_p, hl_p, hn_p⟩ := kb_p
  clear hb
  go_wp2_with fail
 ·go_ret
  exact ⟨rfl, hB⟩
 ·refine (H2.out _ hB).mono ?_
  rintro e w2 ⟨rfl, hb⟩
  replace hB := hB.trans (Below.mono hb hB.size)
  have hz_w2 : w1.heap.size ≤ w2.heap.size := Below.size hb
  clear hb
  go_wp2_with fail
  go_ret
  exact ⟨rfl, hB⟩
set_option maxHeartbeats 1600000 in
theorem VillageOkS_any (A : Option Addr) (c : Nat) (R : Option Addr) (d : Nat) (v : Vg) (w : World) (h : RdT w w.heap.size A c v.book.evs) (h' : RdT w w.heap.size R d v.rights) (hs : v.book.evs.length ≤ 1048576) :
  Calls Tryz.prog 47 #[v.val A c R d] w fun e w' => e = .returned (.bool (villageOk v)) ∧ Below w.heap.size w w' := by
 have hB := Below.refl w.heap.size w
 have h1 := fun (W : World) (hb : Below w.heap.size w W) => BookOkS_any A c v.book W (h.below hb) hs
 have h2 := fun (W : World) (hb : Below w.heap.size w W) => RightsOkS_any R d v.rights W (h'.below hb)
 have hv : villageOk v = (bookOk v.book && rightsOk v.rights) := rfl
 rw [hv]
 clear hv
 unfold Vg.val
 unfold Bk.val at h1
 obtain ⟨⟨room, start, l, lv, ra, dr, lo⟩, rs⟩ := v
 simp only at h h' hs h1 h2 ⊢
 have H1 := Lib.hid h1
 have H2 := Lib.hid h2
 clear h1 h2
 cases c1 : bookOk ⟨room, start, l, lv, ra, dr, lo⟩
 all_goals
  go_enter Tryz.func47, Tryz.ntmps47
  go_wp2_with fail
  first | refine name_world ?_ | refine name_wp ?_
  intro W1 hW
  replace hB : Below w.heap.size w W1 := by rw [hW]; exact tacT
  have hz_W1 : w.heap.size ≤ W1.heap.size := by rw [hW]; exact sT
  replace kb_p : Blk W1 (w.heap.size) 35 #[.int .i64 room, .int .i64 start, .slice A l.length c, .int .i64 lv, .int .i64 ra, .int .i64 dr, .int .i64 lo, .slice R rs.length d] := by rw [hW]; exact blkT
  have hLW1_p := kb_p.lt
  try clear kc_p kf_p
  clear hW
  refine (H1.out _ hB).mono ?_
  rw [c1]
  rintro e w1 ⟨rfl, hb⟩
  replace hB := hB.trans (Below.mono hb hB.size)
  have hz_w1 : W1.heap.size ≤ w1.heap.size := Below.size hb
  replace kb_p := kb_p.mv hb; obtain ⟨kb_p, kc_p, kf_p, hl_p, hn_p⟩ := kb_p
  clear hb
  go_wp2_with fail
 ·go_ret
  exact ⟨rfl, hB⟩
 ·refine (H2.out _ hB).mono ?_
  rintro e w2 ⟨rfl, hb⟩
  replace hB := hB.trans (Below.mono hb hB.size)
  have hz_w2 : w1.heap.size ≤ w2.heap.size := Below.size hb
  clear hb
  go_wp2_with fail
  go_ret
  exact ⟨rfl, hB⟩
end
section
open Go.RowKit
set_option maxRecDepth 20000
/-- A village that the call has made. -/
def VgOwn (v : Vg) (B : Nat) (A : Option Addr) (c : Nat) (R : Option Addr) (d : Nat) (w' : World) : Prop :=
 w'.ownsRow B 120 3 (.slice A v.book.evs.length c) v.book.evs.length (t3s v.book.evs) ∧ w'.ownsRow B 69 3 (.slice R v.rights.length d) v.rights.length (t3s v.rights)
set_option maxHeartbeats 800000 in
theorem copyRights_any (A : Option Addr) (c : Nat) (l : List T3) (w : World) (h : RdT w w.heap.size A c l) (hs : l.length ≤ 1048576) :
  Calls Tryz.prog 61 #[.slice A l.length c] w fun e w' => ∃ A' c', e = .returned (.slice A' l.length c') ∧ w'.ownsRow w.heap.size 69 3 (.slice A' l.length c') l.length (t3s l) ∧ Below w.heap.size w w' := by
 obtain ⟨hl, hm⟩ := h.le
 go_enter Tryz.func61, Tryz.ntmps61
 go_wp2_with (at_builtin; refine wpList_appAll rfl _ _ 33 rfl w.heap.size 69 (.agg #[.int .i64 0, .int .i64 0, .int .i64 0]) 3 24 Tryz.underlying33 infoRight rfl (by decide) (.slice none 0 0) 0 [] rfl (World.ownsRow_nil _ _ _ _) _ A l.length c (t3s l) rfl h (t3s_one l) (by omega) (by omega) (by omega) ?_)
 intro A1 c1 w1 ho1 hg1
 try simp only [Nat.zero_add, List.nil_append] at ho1
 have hb1 : Below w.heap.size w w1 := Below.grown (Below.refl _ _) hg1 (by omega) (by simp [Value.ownBlock])
 have H1 := Lib.hid (And.intro ho1 hb1)
 clear ho1 hb1 hg1
 try simp only [Nat.zero_add]
 go_wp2
 go_ret
 exact ⟨A1, c1, rfl, H1.out.1, H1.out.2⟩
set_option maxHeartbeats 3200000 in
theorem copyVillage_any (A : Option Addr) (c : Nat) (R : Option Addr) (d : Nat) (v : Vg) (w : World) (h : RdT w w.heap.size A c v.book.evs) (h' : RdT w w.heap.size R d v.rights) (hs : v.book.evs.length ≤ 1048576) (hs' : v.rights.length ≤ 1048576) :
  Calls Tryz.prog 35 #[v.val A c R d] w fun e w' => ∃ A' c' R' d', e = .returned (v.val A' c' R' d') ∧ VgOwn v w.heap.size A' c' R' d' w' ∧ Below w.heap.size w w' := by
 have hB := Below.refl w.heap.size w
 have h1 := fun (W : World) (hb : Below w.heap.size w W) => copyBook_any A c v.book W (h.below hb) hs
 have h2 := fun (W : World) (hb : Below w.heap.size w W) => copyRights_any R d v.rights W (h'.below hb) hs'
 unfold Vg.val VgOwn
 unfold Bk.val at h1
 obtain ⟨⟨room, start, l, lv, ra, dr, lo⟩, rs⟩ := v
 simp only at h h' hs hs' h1 h2 ⊢
 have H1 := Lib.hid h1
 have H2 := Lib.hid h2
 clear h1 h2
 go_enter Tryz.func35, Tryz.ntmps35
 go_wp2_with fail
 first | refine name_world ?_ | refine name_wp ?_
 intro W hW
 replace hB : Below w.heap.size w W := by rw [hW]; exact tacT
 have hz_W : w.heap.size ≤ W.heap.size := by rw [hW]; exact sT
 replace kb_p : Blk W (w.heap.size) 35 #[.int .i64 room, .int .i64 start, .slice A l.length c, .int .i64 lv, .int .i64 ra, .int .i64 dr, .int .i64 lo, .slice R rs.length d] := by rw [hW]; exact blkT
 have hLW_p := kb_p.lt
 replace kb_r : Blk W (w.heap.size + 1) 35 #[.int .i64 0, .int .i64 0, .slice none 0 0, .int .i64 0, .int .i64 0, .int .i64 0, .int .i64 0, .slice none 0 0] := by rw [hW]; exact blkT
 have hLW_r := kb_r.lt
 try clear kc_p kf_p
 try clear kc_r kf_r
 clear hW
 have hne : w.heap.size ≠ w.heap.size + 1 := by omega
 go_region_held3 (fun w' => w'.cell? ⟨w.heap.size, 0, none⟩ = some (.int .i64 room) ∧ w'.cell? ⟨w.heap.size, 1, none⟩ = some (.int .i64 start) ∧ w'.cell? ⟨w.heap.size, 2, none⟩ = some (.slice A l.length c) ∧ w'.cell? ⟨w.heap.size, 3, none⟩ = some (.int .i64 lv) ∧ w'.cell? ⟨w.heap.size, 4, none⟩ = some (.int .i64 ra) ∧ w'.cell? ⟨w.heap.size, 5, none⟩ = some (.int .i64 dr) ∧ w'.cell? ⟨w.heap.size, 6, none⟩ = some (.int .i64 lo) ∧ w'.cell? ⟨w.heap.size, 7, none⟩ = some (.slice R rs.length d)) (first | (with_reducible exact ⟨kb_p.cell 0, kb_p.cell 1, kb_p.cell 2, kb_p.cell 3, kb_p.cell 4, kb_p.cell 5, kb_p.cell 6, kb_p.cell 7⟩) | (refine ⟨?_, ?_, ?_, ?_, ?_, ?_, ?_, ?_⟩ <;> simp [go_sem, kb_p.cell 0, kb_p.cell 1, kb_p.cell 2, kb_p.cell 3, kb_p.cell 4, kb_p.cell 5, kb_p.cell 6, kb_p.cell 7, hLW_p, hLW_r]; done) | (with_reducible exact ⟨y1_0, y1_1, y1_2, y1_3, y1_4, y1_5, y1_6, y1_7⟩) | (refine ⟨?_, ?_, ?_, ?_, ?_, ?_, ?_, ?_⟩ <;> simp [go_sem, y1_0, y1_1, y1_2, y1_3, y1_4, y1_5, y1_6, y1_7, hLW_p, hLW_r, n1_0, l1_0, n1_1, l1_1, n1_2, l1_2, n1_3, l1_3, n1_4, l1_4, n1_5, l1_5, n1_6, l1_6, n1_7, l1_7]; done) | (with_reducible exact ⟨y2_0, y2_1, y2_2, y2_3, y2_4, y2_5, y2_6, y2_7⟩) | (refine ⟨?_, ?_, ?_, ?_, ?_, ?_, ?_, ?_⟩ <;> simp [go_sem, y2_0, y2_1, y2_2, y2_3, y2_4, y2_5, y2_6, y2_7, hLW_p, hLW_r, n2_0, l2_0, n2_1, l2_1, n2_2, l2_2, n2_3, l2_3, n2_4, l2_4, n2_5, l2_5, n2_6, l2_6, n2_7, l2_7]; done) | exact ⟨kb_p.cell 0, kb_p.cell 1, kb_p.cell 2, kb_p.cell 3, kb_p.cell 4, kb_p.cell 5, kb_p.cell 6, kb_p.cell 7⟩)
  ((first | (go_at_call 60; refine (H1.out _ (by exact tacT)).mono ?_; rintro e w1 ⟨A1, c1, rfl, ho1, hb1⟩; have hB1 : Below w.heap.size w w1 := (by exact tacT); have hz1 : W.heap.size ≤ w1.heap.size := (by have hzz := Below.size hb1; first | omega | (simp at hzz; omega)); have l1_0 : w.heap.size < w1.heap.size := (by omega); have n1_0 := Nat.ne_of_lt l1_0; have y1_0 : w1.cell? ⟨w.heap.size, 0, none⟩ = some (.int .i64 room) := (Below.cell hb1 (p := ⟨w.heap.size, 0, none⟩) (by first | (simp; done) | (simp; omega) | omega)).trans (by first | exact kb_p.cell 0 | exact y2_0 | (simp [go_sem, kb_p.cell 0, hLW_p, hLW_r]; done)); have l1_1 : w.heap.size < w1.heap.size := (by omega); have n1_1 := Nat.ne_of_lt l1_1; have y1_1 : w1.cell? ⟨w.heap.size, 1, none⟩ = some (.int .i64 start) := (Below.cell hb1 (p := ⟨w.heap.size, 1, none⟩) (by first | (simp; done) | (simp; omega) | omega)).trans (by first | exact kb_p.cell 1 | exact y2_1 | (simp [go_sem, kb_p.cell 1, hLW_p, hLW_r]; done)); have l1_2 : w.heap.size < w1.heap.size := (by omega); have n1_2 := Nat.ne_of_lt l1_2; have y1_2 : w1.cell? ⟨w.heap.size, 2, none⟩ = some (.slice A l.length c) := (Below.cell hb1 (p := ⟨w.heap.size, 2, none⟩) (by first | (simp; done) | (simp; omega) | omega)).trans (by first | exact kb_p.cell 2 | exact y2_2 | (simp [go_sem, kb_p.cell 2, hLW_p, hLW_r]; done)); have l1_3 : w.heap.size < w1.heap.size := (by omega); have n1_3 := Nat.ne_of_lt l1_3; have y1_3 : w1.cell? ⟨w.heap.size, 3, none⟩ = some (.int .i64 lv) := (Below.cell hb1 (p := ⟨w.heap.size, 3, none⟩) (by first | (simp; done) | (simp; omega) | omega)).trans (by first | exact kb_p.cell 3 | exact y2_3 | (simp [go_sem, kb_p.cell 3, hLW_p, hLW_r]; done)); have l1_4 : w.heap.size < w1.heap.size := (by omega); have n1_4 := Nat.ne_of_lt l1_4; have y1_4 : w1.cell? ⟨w.heap.size, 4, none⟩ = some (.int .i64 ra) := (Below.cell hb1 (p := ⟨w.heap.size, 4, none⟩) (by first | (simp; done) | (simp; omega) | omega)).trans (by first | exact kb_p.cell 4 | exact y2_4 | (simp [go_sem, kb_p.cell 4, hLW_p, hLW_r]; done)); have l1_5 : w.heap.size < w1.heap.size := (by omega); have n1_5 := Nat.ne_of_lt l1_5; have y1_5 : w1.cell? ⟨w.heap.size, 5, none⟩ = some (.int .i64 dr) := (Below.cell hb1 (p := ⟨w.heap.size, 5, none⟩) (by first | (simp; done) | (simp; omega) | omega)).trans (by first | exact kb_p.cell 5 | exact y2_5 | (simp [go_sem, kb_p.cell 5, hLW_p, hLW_r]; done)); have l1_6 : w.heap.size < w1.heap.size := (by omega); have n1_6 := Nat.ne_of_lt l1_6; have y1_6 : w1.cell? ⟨w.heap.size, 6, none⟩ = some (.int .i64 lo) := (Below.cell hb1 (p := ⟨w.heap.size, 6, none⟩) (by first | (simp; done) | (simp; omega) | omega)).trans (by first | exact kb_p.cell 6 | exact y2_6 | (simp [go_sem, kb_p.cell 6, hLW_p, hLW_r]; done)); have l1_7 : w.heap.size < w1.heap.size := (by omega); have n1_7 := Nat.ne_of_lt l1_7; have y1_7 : w1.cell? ⟨w.heap.size, 7, none⟩ = some (.slice R rs.length d) := (Below.cell hb1 (p := ⟨w.heap.size, 7, none⟩) (by first | (simp; done) | (simp; omega) | omega)).trans (by first | exact kb_p.cell 7 | exact y2_7 | (simp [go_sem, kb_p.cell 7, hLW_p, hLW_r]; done)); have kb1_r : Blk w1 (w.heap.size + 1) 35 #[.int .i64 0, .int .i64 0, .slice none 0 0, .int .i64 0, .int .i64 0, .int .i64 0, .int .i64 0, .slice none 0 0] := Blk.below (by exact blkT) hb1 (by first | (simp; done) | (simp; omega) | omega); have kc1_r := kb1_r.cells; have kf1_r := kb1_r.frozens; have hl1_r := kb1_r.lt; have hn1_r := Nat.ne_of_lt hl1_r) | (go_at_call 61; refine (H2.out _ (by exact tacT)).mono ?_; rintro e w2 ⟨R2, d2, rfl, ho2, hb2⟩; have hB2 : Below w.heap.size w w2 := (by exact tacT); have hz2 : W.heap.size ≤ w2.heap.size := (by have hzz := Below.size hb2; first | omega | (simp at hzz; omega)); have l2_0 : w.heap.size < w2.heap.size := (by omega); have n2_0 := Nat.ne_of_lt l2_0; have y2_0 : w2.cell? ⟨w.heap.size, 0, none⟩ = some (.int .i64 room) := (Below.cell hb2 (p := ⟨w.heap.size, 0, none⟩) (by first | (simp; done) | (simp; omega) | omega)).trans (by first | exact kb_p.cell 0 | exact y1_0 | (simp [go_sem, kb_p.cell 0, hLW_p, hLW_r]; done)); have l2_1 : w.heap.size < w2.heap.size := (by omega); have n2_1 := Nat.ne_of_lt l2_1; have y2_1 : w2.cell? ⟨w.heap.size, 1, none⟩ = some (.int .i64 start) := (Below.cell hb2 (p := ⟨w.heap.size, 1, none⟩) (by first | (simp; done) | (simp; omega) | omega)).trans (by first | exact kb_p.cell 1 | exact y1_1 | (simp [go_sem, kb_p.cell 1, hLW_p, hLW_r]; done)); have l2_2 : w.heap.size < w2.heap.size := (by omega); have n2_2 := Nat.ne_of_lt l2_2; have y2_2 : w2.cell? ⟨w.heap.size, 2, none⟩ = some (.slice A l.length c) := (Below.cell hb2 (p := ⟨w.heap.size, 2, none⟩) (by first | (simp; done) | (simp; omega) | omega)).trans (by first | exact kb_p.cell 2 | exact y1_2 | (simp [go_sem, kb_p.cell 2, hLW_p, hLW_r]; done)); have l2_3 : w.heap.size < w2.heap.size := (by omega); have n2_3 := Nat.ne_of_lt l2_3; have y2_3 : w2.cell? ⟨w.heap.size, 3, none⟩ = some (.int .i64 lv) := (Below.cell hb2 (p := ⟨w.heap.size, 3, none⟩) (by first | (simp; done) | (simp; omega) | omega)).trans (by first | exact kb_p.cell 3 | exact y1_3 | (simp [go_sem, kb_p.cell 3, hLW_p, hLW_r]; done)); have l2_4 : w.heap.size < w2.heap.size := (by omega); have n2_4 := Nat.ne_of_lt l2_4; have y2_4 : w2.cell? ⟨w.heap.size, 4, none⟩ = some (.int .i64 ra) := (Below.cell hb2 (p := ⟨w.heap.size, 4, none⟩) (by first | (simp; done) | (simp; omega) | omega)).trans (by first | exact kb_p.cell 4 | exact y1_4 | (simp [go_sem, kb_p.cell 4, hLW_p, hLW_r]; done)); have l2_5 : w.heap.size < w2.heap.size := (by omega); have n2_5 := Nat.ne_of_lt l2_5; have y2_5 : w2.cell? ⟨w.heap.size, 5, none⟩ = some (.int .i64 dr) := (Below.cell hb2 (p := ⟨w.heap.size, 5, none⟩) (by first | (simp; done) | (simp; omega) | omega)).trans (by first | exact kb_p.cell 5 | exact y1_5 | (simp [go_sem, kb_p.cell 5, hLW_p, hLW_r]; done)); have l2_6 : w.heap.size < w2.heap.size := (by omega); have n2_6 := Nat.ne_of_lt l2_6; have y2_6 : w2.cell? ⟨w.heap.size, 6, none⟩ = some (.int .i64 lo) := (Below.cell hb2 (p := ⟨w.heap.size, 6, none⟩) (by first | (simp; done) | (simp; omega) | omega)).trans (by first | exact kb_p.cell 6 | exact y1_6 | (simp [go_sem, kb_p.cell 6, hLW_p, hLW_r]; done)); have l2_7 : w.heap.size < w2.heap.size := (by omega); have n2_7 := Nat.ne_of_lt l2_7; have y2_7 : w2.cell? ⟨w.heap.size, 7, none⟩ = some (.slice R rs.length d) := (Below.cell hb2 (p := ⟨w.heap.size, 7, none⟩) (by first | (simp; done) | (simp; omega) | omega)).trans (by first | exact kb_p.cell 7 | exact y1_7 | (simp [go_sem, kb_p.cell 7, hLW_p, hLW_r]; done)); have kb2_r : Blk w2 (w.heap.size + 1) 35 #[.int .i64 0, .int .i64 0, .slice none 0 0, .int .i64 0, .int .i64 0, .int .i64 0, .int .i64 0, .slice none 0 0] := Blk.below (by exact blkT) hb2 (by first | (simp; done) | (simp; omega) | omega); have kc2_r := kb2_r.cells; have kf2_r := kb2_r.frozens; have hl2_r := kb2_r.lt; have hn2_r := Nat.ne_of_lt hl2_r)))
 all_goals
  go_wp2_with fail
  have hdr : W.drew.heap.size = W.heap.size := rfl
  obtain ⟨lo1, hi1, lo2, hi2, q1, q2, hr_e, hr_s⟩ : ∃ lo1 hi1 lo2 hi2, w.heap.size + 1 < lo1 ∧ w.heap.size + 1 < lo2 ∧ Row2 _ lo1 hi1 120 3 A1 l.length c1 (t3s l) ∧ Row2 _ lo2 hi2 69 3 R2 rs.length d2 (t3s rs) := by first | exact ⟨_, _, _, _, by omega, by omega, Row2.below (Row2.born ho1) hb2 (Nat.le_refl _), Row2.born ho2⟩ | exact ⟨_, _, _, _, by omega, by omega, Row2.born ho1, Row2.below (Row2.born ho2) hb1 (Nat.le_refl _)⟩
  refine bodyPost_ret (v := .agg #[.int .i64 room, .int .i64 start, .slice A1 l.length c1, .int .i64 lv, .int .i64 ra, .int .i64 dr, .int .i64 lo, .slice R2 rs.length d2]) ?_ rfl ?_
  ·simp [results, Tryz.results35, go_sem, kc1_r, kc2_r]
  ·exact ⟨A1, c1, R2, d2, rfl, ⟨(Row2.mono (lo := lo1) (hi := hi1) (hi' := hi1) (by exact rowT) (by omega) (Nat.le_refl _)).1, (Row2.mono (lo := lo2) (hi := hi2) (hi' := hi2) (by exact rowT) (by omega) (Nat.le_refl _)).1⟩, by exact tacT⟩
theorem Row2.grown {w w' : World} {lo hi G : Nat} {e : TypeId} {sz n c : Nat} {A : Option Addr} {xs : List Value} (h : Row2 w lo hi e sz A n c xs) (hg : w.grownBy w' (some G)) (hG : G < lo ∨ hi ≤ G) : Row2 w' lo hi e sz A n c xs :=
 h.same fun g hgg => hg.block g (h.1.lt g hgg).2 fun he => by
  have h1 := h.2 g hgg
  have h2 := (h.1.lt g hgg).1
  have : g = G := Option.some.inj he
  omega
end
end Go.Proofs.YtpmmjhpmheooeaaGreatDoor
