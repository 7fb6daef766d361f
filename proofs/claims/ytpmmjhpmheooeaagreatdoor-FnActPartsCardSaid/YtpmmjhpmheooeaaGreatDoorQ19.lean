/- Texts of the proof, joined: VillOpen, VillDraw. -/
import Derived.Test.YtpmmjhpmheooeaaGreatDoorQ16
import Derived.Test.YtpmmjhpmheooeaaGreatDoorQ9
import Derived.Test.YtpmmjhpmheooeaaGreatDoorQ12
import Derived.Test.YtpmmjhpmheooeaaGreatDoorQ18
import Derived.Deep.RegionHeld3
namespace Go.Proofs.YtpmmjhpmheooeaaGreatDoor
set_option linter.unusedSimpArgs false
set_option linter.unusedVariables false
section
open Go.RowKit
set_option maxRecDepth 20000
def VgRet (r : Vg × Bool) (w : World) (e : Ending) (w' : World) : Prop := ∃ A c R d, e = .returned (.tuple #[r.1.val A c R d, .bool r.2]) ∧ w'.ownsRow w.heap.size 120 3 (.slice A r.1.book.evs.length c) r.1.book.evs.length (t3s r.1.book.evs) ∧ w'.ownsRow w.heap.size 69 3 (.slice R r.1.rights.length d) r.1.rights.length (t3s r.1.rights) ∧ Below w.heap.size w w'
def vg0 : Vg := ⟨⟨0, 0, [], 0, 0, 0, 0⟩, []⟩
def newV (room start owner : Int) : Vg := ⟨⟨room, start, [], start, 0, 0, 0⟩, [⟨owner, 1, 1⟩]⟩
def openV (room start owner : Int) : Vg × Bool := if villageOk (newV room start owner) then (newV room start owner, true) else (vg0, false)
theorem row_one (w : World) (base : Nat) (x y z : Int) (hb : base ≤ w.heap.size) : (w.alloc (.cells #[.int .i64 x, .int .i64 y, .int .i64 z] 69)).ownsRow base 69 3 (.slice (some ⟨w.heap.size, 0, none⟩) 1 1) 1 (t3s [⟨x, y, z⟩]) :=
 ⟨rfl, .inr ⟨w.heap.size, 1, #[.int .i64 x, .int .i64 y, .int .i64 z], rfl, hb, heap_alloc_new w _, Nat.le_refl _, by unfold maxLen; omega, rfl, rfl⟩⟩
theorem row_one' (w : World) (base : Nat) (x y z : Int) (H : Nat) (hH : w.heap.size = H) (hb : base ≤ w.heap.size) : (w.alloc (.cells #[.int .i64 x, .int .i64 y, .int .i64 z] 69)).ownsRow base 69 3 (.slice (some ⟨H, 0, none⟩) 1 1) 1 (t3s [⟨x, y, z⟩]) := by
 subst hH
 exact row_one w base x y z hb
set_option maxHeartbeats 1600000 in
theorem OpenVillage_any (room start owner : Int) (w : World) : Calls Tryz.prog 38 #[.int .i64 room, .int .i64 start, .int .i64 owner] w (VgRet (openV room start owner) w) := by
 have hB := Below.refl w.heap.size w
 have h1 := fun (R : Option Addr) (d : Nat) (W : World) (h' : RdT W W.heap.size R d [⟨owner, 1, 1⟩]) => VillageOk_any none 0 R d (newV room start owner) W (Rd.nil_ _ _ _) h' (by simp [newV])
 unfold VgRet
 unfold Vg.val at h1 ⊢
 simp only [newV, List.length_nil, List.length_cons, Nat.zero_add] at h1
 cases hv : villageOk (newV room start owner)
 ·have ho : openV room start owner = (vg0, false) := by unfold openV; rw [hv]; rfl
  rw [ho]
  simp only [newV] at hv
  rw [hv] at h1
  have H1 := Lib.hid h1
  clear h1 hv ho
  simp only [vg0, List.length_nil]
  go_enter Tryz.func38, Tryz.ntmps38
  go_wp2_with fail
  refine name_world ?_
  intro W hW
  replace hB : Below w.heap.size w W := by rw [hW]; exact tacT
  have ho : W.ownsRow (w.heap.size + 1) 69 3 (.slice (some ⟨w.heap.size + 1, 0, none⟩) 1 1) 1 (t3s [⟨owner, 1, 1⟩]) := by
   rw [hW]; first | exact (row_one' (w.alloc _) (w.heap.size + 1) owner 1 1 _ (by simp) (by simp)).alloc _ | exact row_one' (w.alloc _) (w.heap.size + 1) owner 1 1 _ (by simp) (by simp)
  have kb_r : Blk W w.heap.size 35 #[.int .i64 0, .int .i64 0, .slice none 0 0, .int .i64 0, .int .i64 0, .int .i64 0, .int .i64 0, .slice none 0 0] := by rw [hW]; exact blkT
  clear hW
  have hr := Rd.of_own ho
  have HR := Lib.hid hr
  clear hr ho
  refine (H1.out _ _ _ HR.out).mono ?_
  rintro e w1 ⟨rfl, hb⟩
  replace hB := hB.trans (Below.mono hb hB.size)
  have hz_w1 : W.heap.size ≤ w1.heap.size := Below.size hb
  replace kb_r := kb_r.mv hb; obtain ⟨kb_r, kc_r, kf_r, hl_r, hn_r⟩ := kb_r
  clear hb
  go_wp2_with fail
  refine bodyPost_ret (v := .tuple #[.agg #[.int .i64 0, .int .i64 0, .slice none 0 0, .int .i64 0, .int .i64 0, .int .i64 0, .int .i64 0, .slice none 0 0], .bool false]) ?_ rfl ?_
  ·simp [results, Tryz.results38, go_sem, kc_r]
  ·exact ⟨none, 0, none, 0, rfl, World.ownsRow_nil _ _ _ _, World.ownsRow_nil _ _ _ _, by exact tacT⟩
 ·have ho : openV room start owner = (newV room start owner, true) := by unfold openV; rw [hv]; rfl
  rw [ho]
  simp only [newV] at hv
  rw [hv] at h1
  have H1 := Lib.hid h1
  clear h1 hv ho
  simp only [newV, List.length_nil, List.length_cons, Nat.zero_add]
  go_enter Tryz.func38, Tryz.ntmps38
  go_wp2_with fail
  refine name_world ?_
  intro W hW
  replace hB : Below w.heap.size w W := by rw [hW]; exact tacT
  have ho : W.ownsRow (w.heap.size + 1) 69 3 (.slice (some ⟨w.heap.size + 1, 0, none⟩) 1 1) 1 (t3s [⟨owner, 1, 1⟩]) := by
   rw [hW]; first | exact (row_one' (w.alloc _) (w.heap.size + 1) owner 1 1 _ (by simp) (by simp)).alloc _ | exact row_one' (w.alloc _) (w.heap.size + 1) owner 1 1 _ (by simp) (by simp)
  have kb_r : Blk W w.heap.size 35 #[.int .i64 0, .int .i64 0, .slice none 0 0, .int .i64 0, .int .i64 0, .int .i64 0, .int .i64 0, .slice none 0 0] := by rw [hW]; exact blkT
  have kb_v : Blk W (w.heap.size + 2) 35 #[.int .i64 room, .int .i64 start, .slice none 0 0, .int .i64 start, .int .i64 0, .int .i64 0, .int .i64 0, .slice (some ⟨w.heap.size + 1, 0, none⟩) 1 1] := by rw [hW]; exact blkT
  clear hW
  have hr := Rd.of_own ho
  have hr_s := Row2.born ho
  have HR := Lib.hid hr
  clear hr ho
  refine (H1.out _ _ _ HR.out).mono ?_
  rintro e w1 ⟨rfl, hb⟩
  replace hB := hB.trans (Below.mono hb hB.size)
  have hz_w1 : W.heap.size ≤ w1.heap.size := Below.size hb
  replace kb_r := kb_r.mv hb; obtain ⟨kb_r, kc_r, kf_r, hl_r, hn_r⟩ := kb_r
  replace kb_v := kb_v.mv hb; obtain ⟨kb_v, kc_v, kf_v, hl_v, hn_v⟩ := kb_v
  replace hr_s := Row2.below hr_s hb (by omega)
  clear hb
  go_wp2_with fail
  refine bodyPost_ret (v := .tuple #[.agg #[.int .i64 room, .int .i64 start, .slice none 0 0, .int .i64 start, .int .i64 0, .int .i64 0, .int .i64 0, .slice (some ⟨w.heap.size + 1, 0, none⟩) 1 1], .bool true]) ?_ rfl ?_
  ·simp [results, Tryz.results38, go_sem, kc_r, kc_v]
  ·exact ⟨none, 0, _, _, rfl, World.ownsRow_nil _ _ _ _, (Row2.mono (lo := w.heap.size + 1) (hi := W.heap.size) (hi' := W.heap.size) (by exact rowT) (by omega) (Nat.le_refl _)).1, by exact tacT⟩
set_option maxHeartbeats 1600000 in
theorem OpenVillageS_any (room start owner : Int) (w : World) : Calls Tryz.prog 49 #[.int .i64 room, .int .i64 start, .int .i64 owner] w (VgRet (openV room start owner) w) := by
 have hB := Below.refl w.heap.size w
 have h1 := fun (R : Option Addr) (d : Nat) (W : World) (h' : RdT W W.heap.size R d [⟨owner, 1, 1⟩]) => VillageOkS_any none 0 R d (newV room start owner) W (Rd.nil_ _ _ _) h' (by simp [newV])
 unfold VgRet
 unfold Vg.val at h1 ⊢
 simp only [newV, List.length_nil, List.length_cons, Nat.zero_add] at h1
 cases hv : villageOk (newV room start owner)
 ·have ho : openV room start owner = (vg0, false) := by unfold openV; rw [hv]; rfl
  rw [ho]
  simp only [newV] at hv
  rw [hv] at h1
  have H1 := Lib.hid h1
  clear h1 hv ho
  simp only [vg0, List.length_nil]
  go_enter Tryz.func49, Tryz.ntmps49
  go_wp2_with fail
  refine name_world ?_
  intro W hW
  replace hB : Below w.heap.size w W := by rw [hW]; exact tacT
  have ho : W.ownsRow (w.heap.size + 1) 69 3 (.slice (some ⟨w.heap.size + 1, 0, none⟩) 1 1) 1 (t3s [⟨owner, 1, 1⟩]) := by
   rw [hW]; first | exact (row_one' (w.alloc _) (w.heap.size + 1) owner 1 1 _ (by simp) (by simp)).alloc _ | exact row_one' (w.alloc _) (w.heap.size + 1) owner 1 1 _ (by simp) (by simp)
  have kb_r : Blk W w.heap.size 35 #[.int .i64 0, .int .i64 0, .slice none 0 0, .int .i64 0, .int .i64 0, .int .i64 0, .int .i64 0, .slice none 0 0] := by rw [hW]; exact blkT
  clear hW
  have hr := Rd.of_own ho
  have HR := Lib.hid hr
  clear hr ho
  refine (H1.out _ _ _ HR.out).mono ?_
  rintro e w1 ⟨rfl, hb⟩
  replace hB := hB.trans (Below.mono hb hB.size)
  have hz_w1 : W.heap.size ≤ w1.heap.size := Below.size hb
  replace kb_r := kb_r.mv hb; obtain ⟨kb_r, kc_r, kf_r, hl_r, hn_r⟩ := kb_r
  clear hb
  go_wp2_with fail
  refine bodyPost_ret (v := .tuple #[.agg #[.int .i64 0, .int .i64 0, .slice none 0 0, .int .i64 0, .int .i64 0, .int .i64 0, .int .i64 0, .slice none 0 0], .bool false]) ?_ rfl ?_
  ·simp [results, Tryz.results49, go_sem, kc_r]
  ·exact ⟨none, 0, none, 0, rfl, World.ownsRow_nil _ _ _ _, World.ownsRow_nil _ _ _ _, by exact tacT⟩
 ·have ho : openV room start owner = (newV room start owner, true) := by unfold openV; rw [hv]; rfl
  rw [ho]
  simp only [newV] at hv
  rw [hv] at h1
  have H1 := Lib.hid h1
  clear h1 hv ho
  simp only [newV, List.length_nil, List.length_cons, Nat.zero_add]
  go_enter Tryz.func49, Tryz.ntmps49
  go_wp2_with fail
  refine name_world ?_
  intro W hW
  replace hB : Below w.heap.size w W := by rw [hW]; exact tacT
  have ho : W.ownsRow (w.heap.size + 1) 69 3 (.slice (some ⟨w.heap.size + 1, 0, none⟩) 1 1) 1 (t3s [⟨owner, 1, 1⟩]) := by
   rw [hW]; first | exact (row_one' (w.alloc _) (w.heap.size + 1) owner 1 1 _ (by simp) (by simp)).alloc _ | exact row_one' (w.alloc _) (w.heap.size + 1) owner 1 1 _ (by simp) (by simp)
  have kb_r : Blk W w.heap.size 35 #[.int .i64 0, .int .i64 0, .slice none 0 0, .int .i64 0, .int .i64 0, .int .i64 0, .int .i64 0, .slice none 0 0] := by rw [hW]; exact blkT
  have kb_v : Blk W (w.heap.size + 2) 35 #[.int .i64 room, .int .i64 start, .slice none 0 0, .int .i64 start, .int .i64 0, .int .i64 0, .int .i64 0, .slice (some ⟨w.heap.size + 1, 0, none⟩) 1 1] := by rw [hW]; exact blkT
  clear hW
  have hr := Rd.of_own ho
  have hr_s := Row2.born ho
  have HR := Lib.hid hr
  clear hr ho
  refine (H1.out _ _ _ HR.out).mono ?_
  rintro e w1 ⟨rfl, hb⟩
  replace hB := hB.trans (Below.mono hb hB.size)
  have hz_w1 : W.heap.size ≤ w1.heap.size := Below.size hb
  replace kb_r := kb_r.mv hb; obtain ⟨kb_r, kc_r, kf_r, hl_r, hn_r⟩ := kb_r
  replace kb_v := kb_v.mv hb; obtain ⟨kb_v, kc_v, kf_v, hl_v, hn_v⟩ := kb_v
  replace hr_s := Row2.below hr_s hb (by omega)
  clear hb
  go_wp2_with fail
  refine bodyPost_ret (v := .tuple #[.agg #[.int .i64 room, .int .i64 start, .slice none 0 0, .int .i64 start, .int .i64 0, .int .i64 0, .int .i64 0, .slice (some ⟨w.heap.size + 1, 0, none⟩) 1 1], .bool true]) ?_ rfl ?_
  ·simp [results, Tryz.results49, go_sem, kc_r, kc_v]
  ·exact ⟨none, 0, _, _, rfl, World.ownsRow_nil _ _ _ _, (Row2.mono (lo := w.heap.size + 1) (hi := W.heap.size) (hi' := W.heap.size) (by exact rowT) (by omega) (Nat.le_refl _)).1, by exact tacT⟩
theorem open_sample : openV 200 100 1 = (newV 200 100 1, true) := by
 unfold openV
 rw [if_pos (by decide +kernel)]
def VgOne (r : Vg) (w : World) (e : Ending) (w' : World) : Prop := ∃ A c R d, e = .returned (r.val A c R d) ∧ w'.ownsRow w.heap.size 120 3 (.slice A r.book.evs.length c) r.book.evs.length (t3s r.book.evs) ∧ w'.ownsRow w.heap.size 69 3 (.slice R r.rights.length d) r.rights.length (t3s r.rights) ∧ Below w.heap.size w w'
set_option maxHeartbeats 1600000 in
theorem SampleVillage_any (w : World) : Calls Tryz.prog 15 #[] w (VgOne (newV 200 100 1) w) := by
 have hB := Below.refl w.heap.size w
 have h1 := fun (W : World) => OpenVillage_any 200 100 1 W
 rw [open_sample] at h1
 unfold VgRet at h1
 unfold VgOne
 unfold Vg.val at h1 ⊢
 simp only [newV, List.length_nil, List.length_cons, Nat.zero_add] at h1 ⊢
 have H1 := Lib.hid h1
 clear h1
 go_enter Tryz.func15, Tryz.ntmps15
 go_wp2_with fail
 first | refine name_world ?_ | refine name_wp ?_
 intro W hW
 replace hB : Below w.heap.size w W := by rw [hW]; exact tacT
 have hz_W : w.heap.size ≤ W.heap.size := by rw [hW]; exact sT
 replace kb_r : Blk W (w.heap.size) 35 #[.int .i64 0, .int .i64 0, .slice none 0 0, .int .i64 0, .int .i64 0, .int .i64 0, .int .i64 0, .slice none 0 0] := by rw [hW]; exact blkT
 have hLW_r := kb_r.lt
 try clear kc_r kf_r
 clear hW
 refine (H1.out W).mono ?_
 rintro e w1 ⟨A, c, R, d, rfl, ho0, ho1, hb⟩
 have hr_e := Row2.born ho0
 have hr_s := Row2.born ho1
 clear ho0 ho1
 replace hB := hB.trans (Below.mono hb hB.size)
 have hz_w1 : W.heap.size ≤ w1.heap.size := Below.size hb
 replace kb_r := kb_r.mv hb; obtain ⟨kb_r, kc_r, kf_r, hl_r, hn_r⟩ := kb_r
 clear hb
 go_wp2_with fail
 refine bodyPost_ret (v := .agg #[.int .i64 200, .int .i64 100, .slice A 0 c, .int .i64 100, .int .i64 0, .int .i64 0, .int .i64 0, .slice R 1 d]) ?_ rfl ?_
 ·simp [results, Tryz.results15, go_sem, kc_r, hn_r, hl_r]
 ·exact ⟨A, c, R, d, rfl, (Row2.mono (lo := W.heap.size) (hi := w1.heap.size) (hi' := w1.heap.size) (by exact rowT) (by omega) (Nat.le_refl _)).1, (Row2.mono (lo := W.heap.size) (hi := w1.heap.size) (hi' := w1.heap.size) (by exact rowT) (by omega) (Nat.le_refl _)).1, by exact tacT⟩
set_option maxHeartbeats 1600000 in
theorem SampleVillageS_any (w : World) : Calls Tryz.prog 24 #[] w (VgOne (newV 200 100 1) w) := by
 have hB := Below.refl w.heap.size w
 have h1 := fun (W : World) => OpenVillageS_any 200 100 1 W
 rw [open_sample] at h1
 unfold VgRet at h1
 unfold VgOne
 unfold Vg.val at h1 ⊢
 simp only [newV, List.length_nil, List.length_cons, Nat.zero_add] at h1 ⊢
 have H1 := Lib.hid h1
 clear h1
 go_enter Tryz.func24, Tryz.ntmps24
 go_wp2_with fail
 first | refine name_world ?_ | refine name_wp ?_
 intro W hW
 replace hB : Below w.heap.size w W := by rw [hW]; exact tacT
 have hz_W : w.heap.size ≤ W.heap.size := by rw [hW]; exact sT
 replace kb_r : Blk W (w.heap.size) 35 #[.int .i64 0, .int .i64 0, .slice none 0 0, .int .i64 0, .int .i64 0, .int .i64 0, .int .i64 0, .slice none 0 0] := by rw [hW]; exact blkT
 have hLW_r := kb_r.lt
 try clear kc_r kf_r
 clear hW
 refine (H1.out W).mono ?_
 rintro e w1 ⟨A, c, R, d, rfl, ho0, ho1, hb⟩
 have hr_e := Row2.born ho0
 have hr_s := Row2.born ho1
 clear ho0 ho1
 replace hB := hB.trans (Below.mono hb hB.size)
 have hz_w1 : W.heap.size ≤ w1.heap.size := Below.size hb
 replace kb_r := kb_r.mv hb; obtain ⟨kb_r, kc_r, kf_r, hl_r, hn_r⟩ := kb_r
 clear hb
 go_wp2_with fail
 refine bodyPost_ret (v := .agg #[.int .i64 200, .int .i64 100, .slice A 0 c, .int .i64 100, .int .i64 0, .int .i64 0, .int .i64 0, .slice R 1 d]) ?_ rfl ?_
 ·simp [results, Tryz.results24, go_sem, kc_r, hn_r, hl_r]
 ·exact ⟨A, c, R, d, rfl, (Row2.mono (lo := W.heap.size) (hi := w1.heap.size) (hi' := w1.heap.size) (by exact rowT) (by omega) (Nat.le_refl _)).1, (Row2.mono (lo := W.heap.size) (hi := w1.heap.size) (hi' := w1.heap.size) (by exact rowT) (by omega) (Nat.le_refl _)).1, by exact tacT⟩
end
section
open Go.RowKit
set_option maxRecDepth 20000
set_option maxHeartbeats 6400000 in
theorem l12Rights_any (p : Nat) (w : World) (h : Cur w p) :
  Calls Tryz.prog 96 #[.pointer (some ⟨p, 0, none⟩)] w fun e w' => ∃ (A : Option Addr) (c : Nat) (l : List T3), e = .returned (.slice A l.length c) ∧ RtD l ∧ w'.ownsRow w.heap.size 69 3 (.slice A l.length c) l.length (t3s l) ∧ Drew p w w' := by
 have hpl := h.lt
 have HC0 := Lib.hid h
 go_enter Tryz.func96, Tryz.ntmps96
 go_wp2_with fail
 refine (l01Below_any p 9 _ HC0.out (by omega)).mono ?_
 rintro e w1 ⟨x, rfl, x0, x1, _, hd⟩
 replace x1 := x1 (by omega)
 have D1 := Lib.hid hd
 clear hd
 go_wp2_with fail
 first | refine name_world ?_ | refine name_wp ?_
 intro W1 hW
 have D1' : Drew p w W1 := by rw [hW]; exact D1.out.alloc _
 have ho0 : W1.ownsRow w.heap.size 69 3 (.slice (some ⟨w1.heap.size, 0, none⟩) 1 1) 1 (t3s [⟨1 + x, 1, 1⟩]) := by rw [hW]; exact row_one' w1 w.heap.size (1 + x) 1 1 w1.heap.size rfl D1.out.size
 clear hW
 refine (l01Below_any p 6 W1 D1'.1 (by omega)).mono ?_
 rintro e w2 ⟨m, rfl, m0, m1, _, hd⟩
 replace m1 := m1 (by omega)
 have S0 : Hid (RtD [⟨1 + x, 1, 1⟩] ∧ w2.ownsRow w.heap.size 69 3 (.slice (some ⟨w1.heap.size, 0, none⟩) 1 1) 1 (t3s [⟨1 + x, 1, 1⟩]) ∧ Drew p w w2) := ⟨rt_one (by omega) (by omega), hd.rd ho0 hpl, D1'.trans hd⟩
 clear hd D1' ho0 D1
 obtain ⟨mn, rfl⟩ := Int.eq_ofNat_of_zero_le m0
 go_wp2_with fail
 go_loopw [3, 4] (fun v i wr => ∃ (k : Nat) (A : Option Addr) (c : Nat) (l : List T3), k ≤ mn ∧ i = .int .i64 k ∧ v = .slice A l.length c ∧ Hid (RtD l ∧ wr.ownsRow w.heap.size 69 3 (.slice A l.length c) l.length (t3s l) ∧ Drew p w wr)) (fun _ i _ => (intOf i).toNat)
 case atStart => exact ⟨mn, some ⟨w1.heap.size, 0, none⟩, 1, [⟨1 + x, 1, 1⟩], Nat.le_refl _, rfl, rfl, S0⟩
 case round =>
  clear S0
  obtain ⟨k, A, c, l, hk, rfl, rfl, HS⟩ := hrel
  cases k with
  |zero =>
   go_wp2_with fail
   go_ret
   exact ⟨A, c, l, rfl, HS.out.1, HS.out.2.1, HS.out.2.2⟩
  |succ k =>
   have hk1 : (0 : Int) < ((k + 1 : Nat) : Int) := by omega
   have hll := (rights_facts HS.out.1.1).1
   have hll1 := (rights_facts HS.out.1.1).2.1
   go_wp2_with fail
   refine (l01Below_any p l.length wr HS.out.2.2.1 (by omega)).mono ?_
   rintro e w3 ⟨j, rfl, j0, j1, _, hd⟩
   replace j1 := j1 (by omega)
   obtain ⟨jn, rfl⟩ := Int.eq_ofNat_of_zero_le j0
   have hjn : jn < l.length := by omega
   have D3 := Lib.hid hd
   clear hd
   go_wp2_with fail
   refine (l01Below_any p 3 w3 D3.out.1 (by omega)).mono ?_
   rintro e w4 ⟨y, rfl, y0, y1, _, hd⟩
   replace y1 := y1 (by omega)
   have D4 := Lib.hid (D3.out.trans hd)
   clear hd D3
   go_wp2_with fail
   obtain ⟨⟨p1, q1, ok1⟩, hmf⟩ : ∃ r, makeF (1 + y) 4 = r := ⟨_, rfl⟩
   have HM := Lib.hid (MakeFractionS_any (1 + y) 4 w4)
   rw [hmf] at HM
   clear hmf
   unfold frRet at HM
   refine HM.out.mono ?_
   rintro e w5 ⟨rfl, hb⟩
   have D5 : Hid (Drew p wr w5) := D4.out.below hb (Nat.le_refl _)
   clear HM hb D4
   go_upto_region 7 with fail
   first | refine name_world ?_ | refine name_wp ?_
   intro W6 hW
   have D6 : Hid (Drew p wr W6) := by show Drew p wr W6; rw [hW]; repeat' (first | exact D5.out | (refine Drew.store ?_ (by have := HS.out.2.2.1.lt; omega) (by have := D5.out.size; omega) _ _) | (refine Drew.alloc ?_ _))
   have kb : Blk W6 w5.heap.size 67 #[.int .i64 p1, .int .i64 q1] := by show Blk _ _ _ _; rw [hW]; exact blkT
   have hz5 : wr.heap.size ≤ w5.heap.size := D5.out.size
   have hzr : w.heap.size ≤ wr.heap.size := HS.out.2.2.size
   clear hW D5
   have hlj : l[jn]? = some l[jn] := List.getElem?_eq_getElem hjn
   obtain ⟨e1, he1⟩ : ∃ e1, e1 = l[jn] := ⟨_, rfl⟩
   rw [← he1] at hlj
   have ho6 := D6.out.rd HS.out.2.1 hpl
   obtain ⟨g, rfl, hgb, hgl, -, c0, -, -, -⟩ := own_setS ho6 hlj
   have HSP : Hid (∀ W, Drew p W6 W → (W.cell? ⟨g, jn * 3, none⟩ = some (.int .i64 e1.x) ∧ W.cell? ⟨w5.heap.size, 0, none⟩ = some (.int .i64 p1) ∧ W.cell? ⟨w5.heap.size, 1, none⟩ = some (.int .i64 q1)) ∧ RdT W W.heap.size (some ⟨g, 0, none⟩) c l ∧ Drew p w W) := fun W hd => by
    have hbk := hd.blk kb (by omega)
    exact ⟨⟨(World.cell?_of_block (hd.2.block g hgl (fun e => by have := Option.some.inj e; omega))).trans c0, hbk.cell 0, hbk.cell 1⟩, Rd.of_own (hd.rd ho6 hpl), HS.out.2.2.trans (D6.out.trans hd)⟩
   have f0 := c0
   have f1 : W6.cell? ⟨w5.heap.size, 0, none⟩ = some (.int .i64 p1) := kb.cell 0
   have f2 : W6.cell? ⟨w5.heap.size, 1, none⟩ = some (.int .i64 q1) := kb.cell 1
   have HC := Lib.hid D6.out.1
   have HX : Hid (∀ z : Int, z < 12 → RtD (sellF l e1.x (1 + z) p1 q1).1) := fun z hz => rtD_sell HS.out.1 (by omega)
   have hlen : l.length ≤ 1048576 := by omega
   have jlt : (jn : Int) < (l.length : Int) := by omega
   have hl5 := kb.lt
   clear hlj he1 ho6 c0 kb
   go_region_held3 (fun w' => w'.cell? ⟨g, jn * 3, none⟩ = some (.int .i64 e1.x) ∧ w'.cell? ⟨w5.heap.size, 0, none⟩ = some (.int .i64 p1) ∧ w'.cell? ⟨w5.heap.size, 1, none⟩ = some (.int .i64 q1)) (first | (with_reducible exact ⟨f0, f1, f2⟩) | (with_reducible exact ⟨y7_0, y7_1, y7_2⟩) | (with_reducible exact ⟨y8_0, y8_1, y8_2⟩) | (exact ⟨f0, f1, f2⟩))
    ((first | (go_at_call 42; refine (l01Below_any p 12 W6.drew HC.out.drew (by omega)).mono ?_; rintro e w7 ⟨z, rfl, z0, z1, _, hd⟩; have H7 := Lib.hid (HSP.out w7 hd.of_drew); have D7 := Lib.hid hd.of_drew; have HZ := Lib.hid (z1 (by omega)); have hw7 : IntKind.i64.wrap (1 + z) = 1 + z := IntWalk.i64_in _ (by have := HZ.out; omega); clear hd z1; have y7_0 := H7.out.1.1; have y7_1 := H7.out.1.2.1; have y7_2 := H7.out.1.2.2) | (go_at_call 111; (try rw [hw7]); refine (SellShareS_any (some ⟨g, 0, none⟩) c l e1.x (1 + z) p1 q1 w7 H7.out.2.1 hlen).mono ?_; rintro e w8 ⟨A8, c8, rfl, ho8, hb8⟩; have H8 := Lib.hid (And.intro ho8 hb8); have hs7 := D7.out.size; have y8_0 := (Below.cell H8.out.2 (p := ⟨g, jn * 3, none⟩) (by show g < w7.heap.size; omega)).trans y7_0; have y8_1 := (Below.cell H8.out.2 (p := ⟨w5.heap.size, 0, none⟩) (by show w5.heap.size < w7.heap.size; omega)).trans y7_1; have y8_2 := (Below.cell H8.out.2 (p := ⟨w5.heap.size, 1, none⟩) (by show w5.heap.size < w7.heap.size; omega)).trans y7_2; clear ho8 hb8)))
   all_goals
    have HF := Lib.hid (H7.out.2.2.below H8.out.2 (Nat.le_refl _))
    have HO : Hid (w8.ownsRow w.heap.size 69 3 (.slice A8 (sellF l e1.x (1 + z) p1 q1).1.length c8) (sellF l e1.x (1 + z) p1 q1).1.length (t3s (sellF l e1.x (1 + z) p1 q1).1)) := own_mono H8.out.1 (by have := H7.out.2.2.size; omega)
    have HR9 := Lib.hid (HX.out z HZ.out)
    obtain ⟨l8, hl8⟩ : ∃ l8, l8 = (sellF l e1.x (1 + z) p1 q1).1 := ⟨_, rfl⟩
    rw [← hl8] at HO HR9 ⊢
    clear hl8 HX
    go_wp2_with fail
    go_roundw
    case rel => exact ⟨k, A8, c8, l8, by omega, by go_num, rfl, HR9.out, HO.out, HF.out⟩
    case measure => simp [intOf]
set_option maxHeartbeats 6400000 in
theorem l38Village_any (p : Nat) (w : World) (h : Cur w p) :
  Calls Tryz.prog 57 #[.pointer (some ⟨p, 0, none⟩)] w fun e w' => ∃ (A : Option Addr) (c : Nat) (R : Option Addr) (d : Nat) (v : Vg), e = .returned (v.val A c R d) ∧ (BkD v.book 7 ∧ RtD v.rights) ∧ w'.ownsRow w.heap.size 120 3 (.slice A v.book.evs.length c) v.book.evs.length (t3s v.book.evs) ∧ w'.ownsRow w.heap.size 69 3 (.slice R v.rights.length d) v.rights.length (t3s v.rights) ∧ Drew p w w' := by
 have hpl := h.lt
 have D0 : Hid (Drew p w (w.alloc (.cells #[.int .i64 0, .int .i64 0, .slice none 0 0, .int .i64 0, .int .i64 0, .int .i64 0, .int .i64 0, .slice none 0 0] 35))) := (Drew.here h).alloc _
 have K0 := Lib.hid (Blk.new w 35 #[.int .i64 0, .int .i64 0, .slice none 0 0, .int .i64 0, .int .i64 0, .int .i64 0, .int .i64 0, .slice none 0 0])
 have hne : w.heap.size ≠ p := by omega
 go_enter Tryz.func57, Tryz.ntmps57
 go_wp2_with fail
 refine (l37Book_any p _ D0.out.1).mono ?_
 rintro e w1 ⟨A, c, ⟨room, start, l, lv, ra, dr, lo⟩, rfl, hq, ho, hd⟩
 have K1 := Lib.hid (hd.blk K0.out hne)
 have D1 := Lib.hid (D0.out.trans hd)
 have HQ := Lib.hid hq
 have HO := Lib.hid (own_mono ho (show w.heap.size + 1 ≤ _ by simp))
 have hs1 : w.heap.size < w1.heap.size := K1.out.lt
 clear hd hq ho K0 D0
 unfold Bk.val
 simp only at HQ HO ⊢
 go_upto_region 2 with fail
 first | refine name_world ?_ | refine name_wp ?_
 intro W2 hW
 have D2 : Hid (Drew p w W2) := by show Drew p w W2; rw [hW]; repeat' (first | exact D1.out | (refine Drew.store ?_ hpl (by omega) _ _) | (refine Drew.alloc ?_ _))
 have K2 : Hid (Blk W2 w.heap.size 35 #[.int .i64 0, .int .i64 0, .slice none 0 0, .int .i64 0, .int .i64 0, .int .i64 0, .int .i64 0, .slice none 0 0]) := by have := K1.out; show Blk _ _ _ _; rw [hW]; exact blkT
 have kb : Blk W2 w1.heap.size 32 #[.int .i64 room, .int .i64 start, .slice A l.length c, .int .i64 lv, .int .i64 ra, .int .i64 dr, .int .i64 lo] := by rw [hW]; exact blkT
 have hr2 : Row2 W2 (w.heap.size + 1) w1.heap.size 120 3 A l.length c (t3s l) := by have hr_1 := Row2.born HO.out; rw [hW]; exact rowT
 clear hW D1 K1 HO
 have HR := Lib.hid hr2
 have HSP : Hid (∀ W, Drew p W2 W → Blk W w.heap.size 35 #[.int .i64 0, .int .i64 0, .slice none 0 0, .int .i64 0, .int .i64 0, .int .i64 0, .int .i64 0, .slice none 0 0] ∧ Blk W w1.heap.size 32 #[.int .i64 room, .int .i64 start, .slice A l.length c, .int .i64 lv, .int .i64 ra, .int .i64 dr, .int .i64 lo] ∧ Row2 W (w.heap.size + 1) w1.heap.size 120 3 A l.length c (t3s l) ∧ Drew p w W) := fun W hd =>
  ⟨hd.blk K2.out hne, hd.blk kb (by omega), Row2.same HR.out (fun g hg => hd.2.block g (HR.out.1.lt g hg).2 (fun e => by have h9 := (HR.out.1.lt g hg).1; have := Option.some.inj e; omega)), D2.out.trans hd⟩
 have hl2 := kb.lt
 have f0 : W2.cell? ⟨w1.heap.size, 0, none⟩ = some (.int .i64 room) := kb.cell 0
 have f1 : W2.cell? ⟨w1.heap.size, 1, none⟩ = some (.int .i64 start) := kb.cell 1
 have f2 : W2.cell? ⟨w1.heap.size, 2, none⟩ = some (.slice A l.length c) := kb.cell 2
 have f3 : W2.cell? ⟨w1.heap.size, 3, none⟩ = some (.int .i64 lv) := kb.cell 3
 have f4 : W2.cell? ⟨w1.heap.size, 4, none⟩ = some (.int .i64 ra) := kb.cell 4
 have f5 : W2.cell? ⟨w1.heap.size, 5, none⟩ = some (.int .i64 dr) := kb.cell 5
 have f6 : W2.cell? ⟨w1.heap.size, 6, none⟩ = some (.int .i64 lo) := kb.cell 6
 have HC := Lib.hid D2.out.1
 have hn1 : w1.heap.size ≠ w.heap.size := by omega
 have hn2 : w.heap.size ≠ w1.heap.size := by omega
 clear kb hr2
 go_region_held3 (fun w' => w'.cell? ⟨w1.heap.size, 0, none⟩ = some (.int .i64 room) ∧ w'.cell? ⟨w1.heap.size, 1, none⟩ = some (.int .i64 start) ∧ w'.cell? ⟨w1.heap.size, 2, none⟩ = some (.slice A l.length c) ∧ w'.cell? ⟨w1.heap.size, 3, none⟩ = some (.int .i64 lv) ∧ w'.cell? ⟨w1.heap.size, 4, none⟩ = some (.int .i64 ra) ∧ w'.cell? ⟨w1.heap.size, 5, none⟩ = some (.int .i64 dr) ∧ w'.cell? ⟨w1.heap.size, 6, none⟩ = some (.int .i64 lo)) (first | (with_reducible exact ⟨f0, f1, f2, f3, f4, f5, f6⟩) | (refine ⟨?_, ?_, ?_, ?_, ?_, ?_, ?_⟩ <;> simp [go_sem, f0, f1, f2, f3, f4, f5, f6]; done) | (with_reducible exact ⟨y0, y1, y2, y3, y4, y5, y6⟩) | (refine ⟨?_, ?_, ?_, ?_, ?_, ?_, ?_⟩ <;> simp [go_sem, y0, y1, y2, y3, y4, y5, y6, hn1, hn2, hl3]; done))
  ((go_at_call 96; refine (l12Rights_any p W2.drew HC.out.drew).mono ?_; rintro e w3 ⟨R, d, rs, rfl, hrq, hor, hd⟩; have H3 := Lib.hid (HSP.out w3 hd.of_drew); have HQ3 := Lib.hid (And.intro hrq hor); clear hd hrq hor; have y0 : w3.cell? ⟨w1.heap.size, 0, none⟩ = some (.int .i64 room) := H3.out.2.1.cell 0; have y1 : w3.cell? ⟨w1.heap.size, 1, none⟩ = some (.int .i64 start) := H3.out.2.1.cell 1; have y2 : w3.cell? ⟨w1.heap.size, 2, none⟩ = some (.slice A l.length c) := H3.out.2.1.cell 2; have y3 : w3.cell? ⟨w1.heap.size, 3, none⟩ = some (.int .i64 lv) := H3.out.2.1.cell 3; have y4 : w3.cell? ⟨w1.heap.size, 4, none⟩ = some (.int .i64 ra) := H3.out.2.1.cell 4; have y5 : w3.cell? ⟨w1.heap.size, 5, none⟩ = some (.int .i64 dr) := H3.out.2.1.cell 5; have y6 : w3.cell? ⟨w1.heap.size, 6, none⟩ = some (.int .i64 lo) := H3.out.2.1.cell 6; have hl3 := H3.out.2.1.lt; have kb_r := H3.out.1; have kc_r := kb_r.cells; have kf_r := kb_r.frozens; have hl_r := kb_r.lt))
 all_goals
  have hr_e := H3.out.2.2.1
  have hr_s : Row2 w3 W2.heap.size w3.heap.size 69 3 R rs.length d (t3s rs) := Row2.born HQ3.out.2
  have hz2 : w.heap.size < W2.heap.size := K2.out.lt
  go_wp2_with fail
  refine bodyPost_ret (v := .agg #[.int .i64 room, .int .i64 start, .slice A l.length c, .int .i64 lv, .int .i64 ra, .int .i64 dr, .int .i64 lo, .slice R rs.length d]) ?_ rfl ?_
  ·simp [results, Tryz.results57, go_sem, kc_r, hl_r]
  ·refine ⟨A, c, R, d, ⟨⟨room, start, l, lv, ra, dr, lo⟩, rs⟩, rfl, ⟨HQ.out, HQ3.out.1⟩, ?_, ?_, ?_⟩
   ·exact (Row2.mono (lo := w.heap.size + 1) (hi := w1.heap.size) (hi' := w1.heap.size) (by exact rowT) (by omega) (Nat.le_refl _)).1
   ·exact (Row2.mono (lo := W2.heap.size) (hi := w3.heap.size) (hi' := w3.heap.size) (by exact rowT) (by omega) (Nat.le_refl _)).1
   ·repeat' (first | (with_reducible exact H3.out.2.2.2) | (with_reducible refine Drew.store ?_ hpl (Nat.le_refl _) _ _))
end
end Go.Proofs.YtpmmjhpmheooeaaGreatDoor
