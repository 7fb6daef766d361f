/- Texts of the proof, joined: VillOpen. -/
import Derived.Test.YtpmmjhpmheooeaaGreatDoorP10
namespace Go.Proofs.YtpmmjhpmheooeaaGreatDoor
set_option linter.unusedSimpArgs false
set_option linter.unusedVariables false
section
open Go.RowKit
set_option maxRecDepth 20000
def VgRet (r : Vg × Bool) (w : World) (e : Ending) (w' : World) : Prop := ∃ A c R d, e = .returned (.tuple #[r.1.val A c R d, .bool r.2]) ∧ w'.ownsRow w.heap.size 120 3 (.slice A r.1.book.evs.length c) r.1.book.evs.length (t3s r.1.book.evs) ∧ w'.ownsRow w.heap.size 69 3 (.slice R r.1.rights.length d) r.1.rights.length (t3s r.1.rights) ∧ Below w.heap.size w w'
def vg0 : Vg := ⟨⟨0, 0, [], 0, 0, 0, 0⟩, []⟩
def newV (room start owner : Int) : Vg := ⟨⟨room, start, [], start, 0, 0, 0⟩, [⟨owner, 1, 1⟩]⟩
def openV (room start owner : Int) : Vg × Bool := if villageOk (newV room start owner) then (newV room start owner, true) else (vg0, false)
theorem row_one (w : World) (base : Nat) (x y z : Int) (hb : base ≤ w.heap.size) : (w.alloc (.cells #[.int .i64 x, .int .i64 y, .int .i64 z] 69)).ownsRow base 69 3 (.slice (some ⟨w.heap.size, 0, none⟩) 1 1) 1 (t3s [⟨x, y, z⟩]) :=
 ⟨rfl, .inr ⟨w.heap.size, 1, #[.int .i64 x, .int .i64 y, .int .i64 z], rfl, hb, heap_alloc_new w _, Nat.le_refl _, by unfold maxLen; omega, rfl, rfl⟩⟩
theorem row_one' (w : World) (base : Nat) (x y z : Int) (H : Nat) (hH : w.heap.size = H) (hb : base ≤ w.heap.size) : (w.alloc (.cells #[.int .i64 x, .int .i64 y, .int .i64 z] 69)).ownsRow base 69 3 (.slice (some ⟨H, 0, none⟩) 1 1) 1 (t3s [⟨x, y, z⟩]) := by
 subst hH
 exact row_one w base x y z hb
set_option maxHeartbeats 1600000 in
theorem OpenVillage_any (room start owner : Int) (w : World) : Calls Tryz.prog 38 #[.int .i64 room, .int .i64 start, .int .i64 owner] w (VgRet (openV room start owner) w) := by
 have hB := Below.refl w.heap.size w
 have h1 := fun (R : Option Addr) (d : Nat) (W : World) (h' : RdT W W.heap.size R d [⟨owner, 1, 1⟩]) => VillageOk_any none 0 R d (newV room start owner) W (Rd.nil_ _ _ _) h' (by simp [newV])
 unfold VgRet
 unfold Vg.val at h1 ⊢
 simp only [newV, List.length_nil, List.length_cons, Nat.zero_add] at h1
 cases hv : villageOk (newV room start owner)
 ·have ho : openV room start owner = (vg0, false) := by unfold openV; rw [hv]; rfl
  rw [ho]
  simp only [newV] at hv
  rw [hv] at h1
  have H1 := Lib.hid h1
  clear h1 hv ho
  simp only [vg0, List.length_nil]
  go_enter Tryz.func38, Tryz.ntmps38
  go_wp2_with fail
  refine name_world ?_
  intro W hW
  replace hB : Below w.heap.size w W := by rw [hW]; exact tacT
  have ho : W.ownsRow (w.heap.size + 1) 69 3 (.slice (some ⟨w.heap.size + 1, 0, none⟩) 1 1) 1 (t3s [⟨owner, 1, 1⟩]) := by
   rw [hW]; first | exact (row_one' (w.alloc _) (w.heap.size + 1) owner 1 1 _ (by simp) (by simp)).alloc _ | exact row_one' (w.alloc _) (w.heap.size + 1) owner 1 1 _ (by simp) (by simp)
  have kb_r : Blk W w.heap.size 35 #[.int .i64 0, .int .i64 0, .slice none 0 0, .int .i64 0, .int .i64 0, .int .i64 0, .int .i64 0, .slice none 0 0] := by rw [hW]; exact blkT
  clear hW
  have hr := Rd.of_own ho
  have HR := Lib.hid hr
  clear hr ho
  refine (H1.out _ _ _ HR.out).mono ?_
  rintro e w1 ⟨rfl, hb⟩
  replace hB := hB.trans (Below.mono hb hB.size)
  have hz_w1 : W.heap.size ≤ w1.heap.size := Below.size hb
  replace kb_r := kb_r.mv hb; obtain ⟨kb_r, kc_r, kf_r, hl_r, hn_r⟩ := kb_r
  clear hb
  go_wp2_with fail
  refine bodyPost_ret (v := .tuple #[.agg #[.int .i64 0, .int .i64 0, .slice none 0 0, .int .i64 0, .int .i64 0, .int .i64 0, .int .i64 0, .slice none 0 0], .bool false]) ?_ rfl ?_
  ·simp [results, Tryz.results38, go_sem, kc_r]
  ·exact ⟨none, 0, none, 0, rfl, World.ownsRow_nil _ _ _ _, World.ownsRow_nil _ _ _ _, by exact tacT⟩
 ·have ho : openV room start owner = (newV room start owner, true) := by unfold openV; rw [hv]; rfl
  rw [ho]
  simp only [newV] at hv
  rw [hv] at h1
  have H1 := Lib.hid h1
  clear h1 hv ho
  simp only [newV, List.length_nil, List.length_cons, Nat.zero_add]
  go_enter Tryz.func38, Tryz.ntmps38
  go_wp2_with fail
  refine name_world ?_
  intro W hW
  replace hB : Below w.heap.size w W := by rw [hW]; exact tacT
  have ho : W.ownsRow (w.heap.size + 1) 69 3 (.slice (some ⟨w.heap.size + 1, 0, none⟩) 1 1) 1 (t3s [⟨owner, 1, 1⟩]) := by
   rw [hW]; first | exact (row_one' (w.alloc _) (w.heap.size + 1) owner 1 1 _ (by simp) (by simp)).alloc _ | exact row_one' (w.alloc _) (w.heap.size + 1) owner 1 1 _ (by simp) (by simp)
  have kb_r : Blk W w.heap.size 35 #[.int .i64 0, .int .i64 0, .slice none 0 0, .int .i64 0, .int .i64 0, .int .i64 0, .int .i64 0, .slice none 0 0] := by rw [hW]; exact blkT
  have kb_v : Blk W (w.heap.size + 2) 35 #[.int .i64 room, .int .i64 start, .slice none 0 0, .int .i64 start, .int .i64 0, .int .i64 0, .int .i64 0, .slice (some ⟨w.heap.size + 1, 0, none⟩) 1 1] := by rw [hW]; exact blkT
  clear hW
  have hr := Rd.of_own ho
  have hr_s := Row2.born ho
  have HR := Lib.hid hr
  clear hr ho
  refine (H1.out _ _ _ HR.out).mono ?_
  rintro e w1 ⟨rfl, hb⟩
  replace hB := hB.trans (Below.mono hb hB.size)
  have hz_w1 : W.heap.size ≤ w1.heap.size := Below.size hb
  replace kb_r := kb_r.mv hb; obtain ⟨kb_r, kc_r, kf_r, hl_r, hn_r⟩ := kb_r
  replace kb_v := kb_v.mv hb; obtain ⟨kb_v, kc_v, kf_v, hl_v, hn_v⟩ := kb_v
  replace hr_s := Row2.below hr_s hb (by omega)
  clear hb
  go_wp2_with fail
  refine bodyPost_ret (v := .tuple #[.agg #[.int .i64 room, .int .i64 start, .slice none 0 0, .int .i64 start, .int .i64 0, .int .i64 0, .int .i64 0, .slice (some ⟨w.heap.size + 1, 0, none⟩) 1 1], .bool true]) ?_ rfl ?_
  ·simp [results, Tryz.results38, go_sem, kc_r, kc_v]
  ·exact ⟨none, 0, _, _, rfl, World.ownsRow_nil _ _ _ _, (Row2.mono (lo := w.heap.size + 1) (hi := W.heap.size) (hi' := W.heap.size) (by exact rowT) (by omega) (Nat.le_refl _)).1, by exact tacT⟩
set_option maxHeartbeats 1600000 in
theorem OpenVillageS_any (room start owner : Int) (w : World) : Calls Tryz.prog 49 #[.int .i64 room, .int .i64 start, .int .i64 owner] w (VgRet (openV room start owner) w) := by
 have hB := Below.refl w.heap.size w
 have h1 := fun (R : Option Addr) (d : Nat) (W : World) (h' : RdT W W.heap.size R d [⟨owner, 1, 1⟩]) => VillageOkS_any none 0 R d (newV room start owner) W (Rd.nil_ _ _ _) h' (by simp [newV])
 unfold VgRet
 unfold Vg.val at h1 ⊢
 simp only [newV, List.length_nil, List.length_cons, Nat.zero_add] at h1
 cases hv : villageOk (newV room start owner)
 ·have ho : openV room start owner = (vg0, false) := by unfold openV; rw [hv]; rfl
  rw [ho]
  simp only [newV] at hv
  rw [hv] at h1
  have H1 := Lib.hid h1
  clear h1 hv ho
  simp only [vg0, List.length_nil]
  go_enter Tryz.func49, Tryz.ntmps49
  go_wp2_with fail
  refine name_world ?_
  intro W hW
  replace hB : Below w.heap.size w W := by rw [hW]; exact tacT
  have ho : W.ownsRow (w.heap.size + 1) 69 3 (.slice (some ⟨w.heap.size + 1, 0, none⟩) 1 1) 1 (t3s [⟨owner, 1, 1⟩]) := by
   rw [hW]; first | exact (row_one' (w.alloc _) (w.heap.size + 1) owner 1 1 _ (by simp) (by simp)).alloc _ | exact row_one' (w.alloc _) (w.heap.size + 1) owner 1 1 _ (by simp) (by simp)
  have kb_r : Blk W w.heap.size 35 #[.int .i64 0, .int .i64 0, .slice none 0 0, .int .i64 0, .int .i64 0, .int .i64 0, .int .i64 0, .slice none 0 0] := by rw [hW]; exact blkT
  clear hW
  have hr := Rd.of_own ho
  have HR := Lib.hid hr
  clear hr ho
  refine (H1.out _ _ _ HR.out).mono ?_
  rintro e w1 ⟨rfl, hb⟩
  replace hB := hB.trans (Below.mono hb hB.size)
  have hz_w1 : W.heap.size ≤ w1.heap.size := Below.size hb
  replace kb_r := kb_r.mv hb; obtain ⟨kb_r, kc_r, kf_r, hl_r, hn_r⟩ := kb_r
  clear hb
  go_wp2_with fail
  refine bodyPost_ret (v := .tuple #[.agg #[.int .i64 0, .int .i64 0, .slice none 0 0, .int .i64 0, .int .i64 0, .int .i64 0, .int .i64 0, .slice none 0 0], .bool false]) ?_ rfl ?_
  ·simp [results, Tryz.results49, go_sem, kc_r]
  ·exact ⟨none, 0, none, 0, rfl, World.ownsRow_nil _ _ _ _, World.ownsRow_nil _ _ _ _, by exact tacT⟩
 ·have ho : openV room start owner = (newV room start owner, true) := by unfold openV; rw [hv]; rfl
  rw [ho]
  simp only [newV] at hv
  rw [hv] at h1
  have H1 := Lib.hid h1
  clear h1 hv ho
  simp only [newV, List.length_nil, List.length_cons, Nat.zero_add]
  go_enter Tryz.func49, Tryz.ntmps49
  go_wp2_with fail
  refine name_world ?_
  intro W hW
  replace hB : Below w.heap.size w W := by rw [hW]; exact tacT
  have ho : W.ownsRow (w.heap.size + 1) 69 3 (.slice (some ⟨w.heap.size + 1, 0, none⟩) 1 1) 1 (t3s [⟨owner, 1, 1⟩]) := by
   rw [hW]; first | exact (row_one' (w.alloc _) (w.heap.size + 1) owner 1 1 _ (by simp) (by simp)).alloc _ | exact row_one' (w.alloc _) (w.heap.size + 1) owner 1 1 _ (by simp) (by simp)
  have kb_r : Blk W w.heap.size 35 #[.int .i64 0, .int .i64 0, .slice none 0 0, .int .i64 0, .int .i64 0, .int .i64 0, .int .i64 0, .slice none 0 0] := by rw [hW]; exact blkT
  have kb_v : Blk W (w.heap.size + 2) 35 #[.int .i64 room, .int .i64 start, .slice none 0 0, .int .i64 start, .int .i64 0, .int .i64 0, .int .i64 0, .slice (some ⟨w.heap.size + 1, 0, none⟩) 1 1] := by rw [hW]; exact blkT
  clear hW
  have hr := Rd.of_own ho
  have hr_s := Row2.born ho
  have HR := Lib.hid hr
  clear hr ho
  refine (H1.out _ _ _ HR.out).mono ?_
  rintro e w1 ⟨rfl, hb⟩
  replace hB := hB.trans (Below.mono hb hB.size)
  have hz_w1 : W.heap.size ≤ w1.heap.size := Below.size hb
  replace kb_r := kb_r.mv hb; obtain ⟨kb_r, kc_r, kf_r, hl_r, hn_r⟩ := kb_r
  replace kb_v := kb_v.mv hb; obtain ⟨kb_v, kc_v, kf_v, hl_v, hn_v⟩ := kb_v
  replace hr_s := Row2.below hr_s hb (by omega)
  clear hb
  go_wp2_with fail
  refine bodyPost_ret (v := .tuple #[.agg #[.int .i64 room, .int .i64 start, .slice none 0 0, .int .i64 start, .int .i64 0, .int .i64 0, .int .i64 0, .slice (some ⟨w.heap.size + 1, 0, none⟩) 1 1], .bool true]) ?_ rfl ?_
  ·simp [results, Tryz.results49, go_sem, kc_r, kc_v]
  ·exact ⟨none, 0, _, _, rfl, World.ownsRow_nil _ _ _ _, (Row2.mono (lo := w.heap.size + 1) (hi := W.heap.size) (hi' := W.heap.size) (by exact rowT) (by omega) (Nat.le_refl _)).1, by exact tacT⟩
theorem open_sample : openV 200 100 1 = (newV 200 100 1, true) := by
 unfold openV
 rw [if_pos (by decide +kernel)]
def VgOne (r : Vg) (w : World) (e : Ending) (w' : World) : Prop := ∃ A c R d, e = .returned (r.val A c R d) ∧ w'.ownsRow w.heap.size 120 3 (.slice A r.book.evs.length c) r.book.evs.length (t3s r.book.evs) ∧ w'.ownsRow w.heap.size 69 3 (.slice R r.rights.length d) r.rights.length (t3s r.rights) ∧ Below w.heap.size w w'
set_option maxHeartbeats 1600000 in
theorem SampleVillage_any (w : World) : Calls Tryz.prog 15 #[] w (VgOne (newV 200 100 1) w) := by
 have hB := Below.refl w.heap.size w
 have h1 := fun (W : World) => OpenVillage_any 200 100 1 W
 rw [open_sample] at h1
 unfold VgRet at h1
 unfold VgOne
 unfold Vg.val at h1 ⊢
 simp only [newV, List.length_nil, List.length_cons, Nat.zero_add] at h1 ⊢
 have H1 := Lib.hid h1
 clear h1
 go_enter Tryz.func15, Tryz.ntmps15
 go_wp2_with fail
 first | refine name_world ?_ | refine name_wp ?_
 intro W hW
 replace hB : Below w.heap.size w W := by rw [hW]; exact tacT
 have hz_W : w.heap.size ≤ W.heap.size := by rw [hW]; exact sT
 replace kb_r : Blk W (w.heap.size) 35 #[.int .i64 0, .int .i64 0, .slice none 0 0, .int .i64 0, .int .i64 0, .int .i64 0, .int .i64 0, .slice none 0 0] := by rw [hW]; exact blkT
 have hLW_r := kb_r.lt
 try clear kc_r kf_r
 clear hW
 refine (H1.out W).mono ?_
 rintro e w1 ⟨A, c, R, d, rfl, ho0, ho1, hb⟩
 have hr_e := Row2.born ho0
 have hr_s := Row2.born ho1
 clear ho0 ho1
 replace hB := hB.trans (Below.mono hb hB.size)
 have hz_w1 : W.heap.size ≤ w1.heap.size := Below.size hb
 replace kb_r := kb_r.mv hb; obtain ⟨kb_r, kc_r, kf_r, hl_r, hn_r⟩ := kb_r
 clear hb
 go_wp2_with fail
 refine bodyPost_ret (v := .agg #[.int .i64 200, .int .i64 100, .slice A 0 c, .int .i64 100, .int .i64 0, .int .i64 0, .int .i64 0, .slice R 1 d]) ?_ rfl ?_
 ·simp [results, Tryz.results15, go_sem, kc_r, hn_r, hl_r]
 ·exact ⟨A, c, R, d, rfl, (Row2.mono (lo := W.heap.size) (hi := w1.heap.size) (hi' := w1.heap.size) (by exact rowT) (by omega) (Nat.le_refl _)).1, (Row2.mono (lo := W.heap.size) (hi := w1.heap.size) (hi' := w1.heap.size) (by exact rowT) (by omega) (Nat.le_refl _)).1, by exact tacT⟩
set_option maxHeartbeats 1600000 in
theorem SampleVillageS_any (w : World) : Calls Tryz.prog 24 #[] w (VgOne (newV 200 100 1) w) := by
 have hB := Below.refl w.heap.size w
 have h1 := fun (W : World) => OpenVillageS_any 200 100 1 W
 rw [open_sample] at h1
 unfold VgRet at h1
 unfold VgOne
 unfold Vg.val at h1 ⊢
 simp only [newV, List.length_nil, List.length_cons, Nat.zero_add] at h1 ⊢
 have H1 := Lib.hid h1
 clear h1
 go_enter Tryz.func24, Tryz.ntmps24
 go_wp2_with fail
 first | refine name_world ?_ | refine name_wp ?_
 intro W hW
 replace hB : Below w.heap.size w W := by rw [hW]; exact tacT
 have hz_W : w.heap.size ≤ W.heap.size := by rw [hW]; exact sT
 replace kb_r : Blk W (w.heap.size) 35 #[.int .i64 0, .int .i64 0, .slice none 0 0, .int .i64 0, .int .i64 0, .int .i64 0, .int .i64 0, .slice none 0 0] := by rw [hW]; exact blkT
 have hLW_r := kb_r.lt
 try clear kc_r kf_r
 clear hW
 refine (H1.out W).mono ?_
 rintro e w1 ⟨A, c, R, d, rfl, ho0, ho1, hb⟩
 have hr_e := Row2.born ho0
 have hr_s := Row2.born ho1
 clear ho0 ho1
 replace hB := hB.trans (Below.mono hb hB.size)
 have hz_w1 : W.heap.size ≤ w1.heap.size := Below.size hb
 replace kb_r := kb_r.mv hb; obtain ⟨kb_r, kc_r, kf_r, hl_r, hn_r⟩ := kb_r
 clear hb
 go_wp2_with fail
 refine bodyPost_ret (v := .agg #[.int .i64 200, .int .i64 100, .slice A 0 c, .int .i64 100, .int .i64 0, .int .i64 0, .int .i64 0, .slice R 1 d]) ?_ rfl ?_
 ·simp [results, Tryz.results24, go_sem, kc_r, hn_r, hl_r]
 ·exact ⟨A, c, R, d, rfl, (Row2.mono (lo := W.heap.size) (hi := w1.heap.size) (hi' := w1.heap.size) (by exact rowT) (by omega) (Nat.le_refl _)).1, (Row2.mono (lo := W.heap.size) (hi := w1.heap.size) (hi' := w1.heap.size) (by exact rowT) (by omega) (Nat.le_refl _)).1, by exact tacT⟩
end
end Go.Proofs.YtpmmjhpmheooeaaGreatDoor
