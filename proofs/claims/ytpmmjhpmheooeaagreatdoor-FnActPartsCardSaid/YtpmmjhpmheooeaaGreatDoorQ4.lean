/- Texts of the proof, joined: Count. -/
import Derived.Test.YtpmmjhpmheooeaaGreatDoorQ3
import Derived.Deep.RegionHeld3
import Derived.Deep.DeepCutAuto
import Derived.StillTailTactics
namespace Go.Proofs.YtpmmjhpmheooeaaGreatDoor
set_option linter.unusedSimpArgs false
set_option linter.unusedVariables false
section
open Go.RowKit
set_option maxHeartbeats 3200000 in
theorem l37Count_any (A : Option Addr) (c : Nat) (room start lv0 r0 d0 l0 : Int) (l : List T3) (w : World) (h : RdT w w.heap.size A c l) (hs : l.length ≤ 1048576) :
  Calls Tryz.prog 108 #[.agg #[.int .i64 room, .int .i64 start, .slice A l.length c, .int .i64 lv0, .int .i64 r0, .int .i64 d0, .int .i64 l0]] w fun e w' => ∃ A' c', e = .returned (.tuple #[.agg #[.int .i64 room, .int .i64 start, .slice A' l.length c', .int .i64 (countBk room start l).1, .int .i64 (countBk room start l).2.1, .int .i64 (countBk room start l).2.2.1, .int .i64 (countBk room start l).2.2.2.1], .bool (countBk room start l).2.2.2.2]) ∧ w'.ownsRow w.heap.size 120 3 (.slice A' l.length c') l.length (t3s l) ∧ Below w.heap.size w w' := by
 obtain ⟨hl, hm⟩ := h.le
 obtain ⟨R, hR⟩ : ∃ R, R = countBk room start l := ⟨_, rfl⟩
 rw [← hR]
 have HR := Lib.hid hR; clear hR
 have hin : ∀ W : World, Below w.heap.size w W → RdT W W.heap.size A c l := fun W hb => h.below hb
 have HIN := Lib.hid hin; clear hin
 go_enter Tryz.func108, Tryz.ntmps108
 go_upto_region 1 with fail
 go_cut [4] (fun s4 wx => ∃ (G : Nat) (A1 : Option Addr) (c1 : Nat), s4 = .pointer (some ⟨G, 0, none⟩) ∧ w.heap.size + 2 ≤ G ∧
  Blk wx G 32 #[.int .i64 room, .int .i64 start, .slice A1 l.length c1, .int .i64 start, .int .i64 0, .int .i64 0, .int .i64 0] ∧
  Blk wx w.heap.size 32 #[.int .i64 room, .int .i64 start, .slice A l.length c, .int .i64 lv0, .int .i64 r0, .int .i64 d0, .int .i64 l0] ∧
  Blk wx (w.heap.size + 1) 32 #[.int .i64 0, .int .i64 0, .slice none 0 0, .int .i64 0, .int .i64 0, .int .i64 0, .int .i64 0] ∧
  wx.ownsRow w.heap.size 120 3 (.slice A1 l.length c1) l.length (t3s l) ∧ Below w.heap.size w wx)
 case first =>
  go_region_held3 (fun w' => w'.cell? ⟨w.heap.size, 0, none⟩ = some (.int .i64 room) ∧ w'.cell? ⟨w.heap.size, 1, none⟩ = some (.int .i64 start) ∧ w'.cell? ⟨w.heap.size, 2, none⟩ = some (.slice A l.length c)) (first | (simp [go_sem, World.cell?_alloc_past]; done) | (with_reducible exact ⟨s0, s1, s2⟩) | (have s4 : w1.heap.size ≠ w.heap.size := (by omega); have s5 : w.heap.size + 1 + 1 + 1 ≠ w.heap.size := (by omega); have s6 : w.heap.size + 1 + 1 ≠ w.heap.size := (by omega); simp only [World.cell?_alloc_past, World.cell?_alloc_some, World.cell?_setCell_far, Option.isSome_some, s0, s1, s2, s3, s4, s5, s6, ne_eq, not_false_eq_true, and_self]; done))
   (first | go_loud (refine step_appAll rfl _ _ 30 rfl w.heap.size 120 (.agg #[.int .i64 0, .int .i64 0, .int .i64 0]) 3 24 Tryz.underlying30 infoEv rfl (Nat.le_of_ble_eq_true rfl) (.slice (some ⟨w.heap.size + 1 + 1, 0, none⟩) 0 0) 0 [] rfl ?_ w.heap.size A l.length c (t3s l) rfl ?_ (t3s_one l) ?_ ?_ ?_ ?_; (first | exact (ownEmpty' _ _ _ _ _ (by simp) (by exact ooT)).drew | exact ((ownEmpty' _ _ _ _ _ (by simp) (by exact ooT)).alloc _).drew); (focus (refine Rd.keep h (fun p hp => Below.cell (B := w.heap.size) ?_ hp); repeat' (first | (with_reducible exact Below.refl _ _) | (with_reducible assumption) | (with_reducible refine Below.alloc ?_ ?_ _) | (with_reducible refine Below.setCell ?_ ?_ _) | (with_reducible refine Below.drew ?_) | (with_reducible refine below_drewN ?_ _) | (refine Below.trans ?_ (Below.mono (by with_reducible assumption) ?_)) | omega | (simp; done) | (simp; omega)))); omega; omega; (first | omega | (simp; done) | (simp; omega)); intro A1 c1 w1 ho1 hg1; obtain ⟨hc1, hf1⟩ := gcell hg1; have hz1 := hg1.size; have s0 : w1.cell? ⟨w.heap.size, 0, none⟩ = some (.int .i64 room) := (by rw [hc1 _ _ (by simp <;> omega) (by simp <;> omega)]; simp [go_sem]); have s1 : w1.cell? ⟨w.heap.size, 1, none⟩ = some (.int .i64 start) := (by rw [hc1 _ _ (by simp <;> omega) (by simp <;> omega)]; simp [go_sem]); have s2 : w1.cell? ⟨w.heap.size, 2, none⟩ = some (.slice A l.length c) := (by rw [hc1 _ _ (by simp <;> omega) (by simp <;> omega)]; simp [go_sem]); have s3 : w.heap.size < w1.heap.size := (by simp at hz1; omega)) | (refine step_appAll rfl _ _ 30 rfl w.heap.size 120 (.agg #[.int .i64 0, .int .i64 0, .int .i64 0]) 3 24 Tryz.underlying30 infoEv rfl (Nat.le_of_ble_eq_true rfl) (.slice (some ⟨w.heap.size + 2, 0, none⟩) 0 0) 0 [] rfl ?_ w.heap.size A l.length c (t3s l) rfl ?_ (t3s_one l) ?_ ?_ ?_ ?_; (first | exact (ownEmpty' _ _ _ _ _ (by simp) (by exact ooT)).drew | exact ((ownEmpty' _ _ _ _ _ (by simp) (by exact ooT)).alloc _).drew); (focus (refine Rd.keep h (fun p hp => Below.cell (B := w.heap.size) ?_ hp); repeat' (first | (with_reducible exact Below.refl _ _) | (with_reducible assumption) | (with_reducible refine Below.alloc ?_ ?_ _) | (with_reducible refine Below.setCell ?_ ?_ _) | (with_reducible refine Below.drew ?_) | (with_reducible refine below_drewN ?_ _) | (refine Below.trans ?_ (Below.mono (by with_reducible assumption) ?_)) | omega | (simp; done) | (simp; omega)))); omega; omega; (first | omega | (simp; done) | (simp; omega)); intro A1 c1 w1 ho1 hg1; obtain ⟨hc1, hf1⟩ := gcell hg1; have hz1 := hg1.size; have s0 : w1.cell? ⟨w.heap.size, 0, none⟩ = some (.int .i64 room) := (by rw [hc1 _ _ (by simp <;> omega) (by simp <;> omega)]; simp [go_sem]); have s1 : w1.cell? ⟨w.heap.size, 1, none⟩ = some (.int .i64 start) := (by rw [hc1 _ _ (by simp <;> omega) (by simp <;> omega)]; simp [go_sem]); have s2 : w1.cell? ⟨w.heap.size, 2, none⟩ = some (.slice A l.length c) := (by rw [hc1 _ _ (by simp <;> omega) (by simp <;> omega)]; simp [go_sem]); have s3 : w.heap.size < w1.heap.size := (by simp at hz1; omega)) | (refine step_appAll rfl _ _ 30 rfl w.heap.size 120 (.agg #[.int .i64 0, .int .i64 0, .int .i64 0]) 3 24 Tryz.underlying30 infoEv rfl (Nat.le_of_ble_eq_true rfl) (.slice (some ⟨w.heap.size + 1 + 1 + 1, 0, none⟩) 0 0) 0 [] rfl ?_ w.heap.size A l.length c (t3s l) rfl ?_ (t3s_one l) ?_ ?_ ?_ ?_; (first | exact (ownEmpty' _ _ _ _ _ (by simp) (by exact ooT)).drew | exact ((ownEmpty' _ _ _ _ _ (by simp) (by exact ooT)).alloc _).drew); (focus (refine Rd.keep h (fun p hp => Below.cell (B := w.heap.size) ?_ hp); repeat' (first | (with_reducible exact Below.refl _ _) | (with_reducible assumption) | (with_reducible refine Below.alloc ?_ ?_ _) | (with_reducible refine Below.setCell ?_ ?_ _) | (with_reducible refine Below.drew ?_) | (with_reducible refine below_drewN ?_ _) | (refine Below.trans ?_ (Below.mono (by with_reducible assumption) ?_)) | omega | (simp; done) | (simp; omega)))); omega; omega; (first | omega | (simp; done) | (simp; omega)); intro A1 c1 w1 ho1 hg1; obtain ⟨hc1, hf1⟩ := gcell hg1; have hz1 := hg1.size; have s0 : w1.cell? ⟨w.heap.size, 0, none⟩ = some (.int .i64 room) := (by rw [hc1 _ _ (by simp <;> omega) (by simp <;> omega)]; simp [go_sem]); have s1 : w1.cell? ⟨w.heap.size, 1, none⟩ = some (.int .i64 start) := (by rw [hc1 _ _ (by simp <;> omega) (by simp <;> omega)]; simp [go_sem]); have s2 : w1.cell? ⟨w.heap.size, 2, none⟩ = some (.slice A l.length c) := (by rw [hc1 _ _ (by simp <;> omega) (by simp <;> omega)]; simp [go_sem]); have s3 : w.heap.size < w1.heap.size := (by simp at hz1; omega)))
  all_goals
   have hbox : Blk w1 w.heap.size 32 #[.int .i64 room, .int .i64 start, .slice A l.length c, .int .i64 lv0, .int .i64 r0, .int .i64 d0, .int .i64 l0] := Blk.grown (by exact blkT) hg1 (by simp [Value.ownBlock] <;> omega)
   have hres : Blk w1 (w.heap.size + 1) 32 #[.int .i64 0, .int .i64 0, .slice none 0 0, .int .i64 0, .int .i64 0, .int .i64 0, .int .i64 0] := Blk.grown (by exact blkT) hg1 (by simp [Value.ownBlock] <;> omega)
   have hB1 : Below w.heap.size w w1 := Below.grown (by exact tacT) hg1 (by simp <;> omega) (by intro k hk; simp [Value.ownBlock] at hk; omega)
   have hz9 : w.heap.size + 3 ≤ w1.heap.size := by have := hg1.size; simp at this; omega
   simp only [List.nil_append, Nat.zero_add] at ho1
  ·go_wp2_with fail
   go_meet
   refine ⟨w1.heap.size, A1, c1, rfl, by omega, ?_, ?_, ?_, (ho1.alloc _), ?_⟩
   ·repeat' (first | (with_reducible assumption) | (with_reducible refine Blk.drew ?_) | (with_reducible refine Blk.drewN ?_ _) | (with_reducible refine Blk.new' _ _ _ _ ?_; (first | rfl | omega | (simp; done))) | (with_reducible exact Blk.new _ _ _) | (with_reducible refine Blk.alloc ?_ _) | (with_reducible apply Blk.set8) | (with_reducible apply Blk.set7of8) | (with_reducible apply Blk.setlast8) | (with_reducible apply Blk.set7) | (with_reducible apply Blk.set2) | (with_reducible apply Blk.set3) | (with_reducible refine Blk.far ?_ ?_ _) | (simp; done) | (simp; omega) | (dsimp only; omega))
   ·repeat' (first | (with_reducible assumption) | (with_reducible refine Blk.drew ?_) | (with_reducible refine Blk.drewN ?_ _) | (with_reducible refine Blk.new' _ _ _ _ ?_; (first | rfl | omega | (simp; done))) | (with_reducible exact Blk.new _ _ _) | (with_reducible refine Blk.alloc ?_ _) | (with_reducible apply Blk.set8) | (with_reducible apply Blk.set7of8) | (with_reducible apply Blk.setlast8) | (with_reducible apply Blk.set7) | (with_reducible apply Blk.set2) | (with_reducible apply Blk.set3) | (with_reducible refine Blk.far ?_ ?_ _) | (simp; done) | (simp; omega) | (dsimp only; omega))
   ·repeat' (first | (with_reducible assumption) | (with_reducible refine Blk.drew ?_) | (with_reducible refine Blk.drewN ?_ _) | (with_reducible refine Blk.new' _ _ _ _ ?_; (first | rfl | omega | (simp; done))) | (with_reducible exact Blk.new _ _ _) | (with_reducible refine Blk.alloc ?_ _) | (with_reducible apply Blk.set8) | (with_reducible apply Blk.set7of8) | (with_reducible apply Blk.setlast8) | (with_reducible apply Blk.set7) | (with_reducible apply Blk.set2) | (with_reducible apply Blk.set3) | (with_reducible refine Blk.far ?_ ?_ _) | (simp; done) | (simp; omega) | (dsimp only; omega))
   ·repeat' (first | (with_reducible exact Below.refl _ _) | (with_reducible assumption) | (with_reducible refine Below.alloc ?_ ?_ _) | (with_reducible refine Below.setCell ?_ ?_ _) | (with_reducible refine Below.drew ?_) | (with_reducible refine below_drewN ?_ _) | (refine Below.trans ?_ (Below.mono (by with_reducible assumption) ?_)) | omega | (simp; done) | (simp; omega))
  ·have hG : Blk w1 (w.heap.size + 3) 32 #[.int .i64 0, .int .i64 0, .slice none 0 0, .int .i64 0, .int .i64 0, .int .i64 0, .int .i64 0] := Blk.grown (by exact blkT) hg1 (by simp [Value.ownBlock] <;> omega)
   go_wp2_with fail
   go_meet
   refine ⟨w.heap.size + 3, A1, c1, rfl, by omega, ?_, ?_, ?_, ?_, ?_⟩
   ·with_reducible exact blk_set7 hG _ _ _ _ _ _ _
   ·repeat' (first | (with_reducible assumption) | (with_reducible refine Blk.drew ?_) | (with_reducible refine Blk.drewN ?_ _) | (with_reducible refine Blk.new' _ _ _ _ ?_; (first | rfl | omega | (simp; done))) | (with_reducible exact Blk.new _ _ _) | (with_reducible refine Blk.alloc ?_ _) | (with_reducible apply Blk.set8) | (with_reducible apply Blk.set7of8) | (with_reducible apply Blk.setlast8) | (with_reducible apply Blk.set7) | (with_reducible apply Blk.set2) | (with_reducible apply Blk.set3) | (with_reducible refine Blk.far ?_ ?_ _) | (simp; done) | (simp; omega) | (dsimp only; omega))
   ·repeat' (first | (with_reducible assumption) | (with_reducible refine Blk.drew ?_) | (with_reducible refine Blk.drewN ?_ _) | (with_reducible refine Blk.new' _ _ _ _ ?_; (first | rfl | omega | (simp; done))) | (with_reducible exact Blk.new _ _ _) | (with_reducible refine Blk.alloc ?_ _) | (with_reducible apply Blk.set8) | (with_reducible apply Blk.set7of8) | (with_reducible apply Blk.setlast8) | (with_reducible apply Blk.set7) | (with_reducible apply Blk.set2) | (with_reducible apply Blk.set3) | (with_reducible refine Blk.far ?_ ?_ _) | (simp; done) | (simp; omega) | (dsimp only; omega))
   ·with_reducible exact own_set7 ho1 hG (by decide) _ _ _ _ _ _ _
   ·repeat' (first | (with_reducible exact Below.refl _ _) | (with_reducible assumption) | (with_reducible refine Below.alloc ?_ ?_ _) | (with_reducible refine Below.setCell ?_ ?_ _) | (with_reducible refine Below.drew ?_) | (with_reducible refine below_drewN ?_ _) | (refine Below.trans ?_ (Below.mono (by with_reducible assumption) ?_)) | omega | (simp; done) | (simp; omega))
  ·have hG : Blk w1 (w.heap.size + 2) 32 #[.int .i64 0, .int .i64 0, .slice none 0 0, .int .i64 0, .int .i64 0, .int .i64 0, .int .i64 0] := Blk.grown (by exact blkT) hg1 (by simp [Value.ownBlock] <;> omega)
   go_wp2_with fail
   go_meet
   refine ⟨w.heap.size + 2, A1, c1, rfl, by omega, ?_, ?_, ?_, ?_, ?_⟩
   ·with_reducible exact blk_set7 hG _ _ _ _ _ _ _
   ·repeat' (first | (with_reducible assumption) | (with_reducible refine Blk.drew ?_) | (with_reducible refine Blk.drewN ?_ _) | (with_reducible refine Blk.new' _ _ _ _ ?_; (first | rfl | omega | (simp; done))) | (with_reducible exact Blk.new _ _ _) | (with_reducible refine Blk.alloc ?_ _) | (with_reducible apply Blk.set8) | (with_reducible apply Blk.set7of8) | (with_reducible apply Blk.setlast8) | (with_reducible apply Blk.set7) | (with_reducible apply Blk.set2) | (with_reducible apply Blk.set3) | (with_reducible refine Blk.far ?_ ?_ _) | (simp; done) | (simp; omega) | (dsimp only; omega))
   ·repeat' (first | (with_reducible assumption) | (with_reducible refine Blk.drew ?_) | (with_reducible refine Blk.drewN ?_ _) | (with_reducible refine Blk.new' _ _ _ _ ?_; (first | rfl | omega | (simp; done))) | (with_reducible exact Blk.new _ _ _) | (with_reducible refine Blk.alloc ?_ _) | (with_reducible apply Blk.set8) | (with_reducible apply Blk.set7of8) | (with_reducible apply Blk.setlast8) | (with_reducible apply Blk.set7) | (with_reducible apply Blk.set2) | (with_reducible apply Blk.set3) | (with_reducible refine Blk.far ?_ ?_ _) | (simp; done) | (simp; omega) | (dsimp only; omega))
   ·with_reducible exact own_set7 ho1 hG (by decide) _ _ _ _ _ _ _
   ·repeat' (first | (with_reducible exact Below.refl _ _) | (with_reducible assumption) | (with_reducible refine Below.alloc ?_ ?_ _) | (with_reducible refine Below.setCell ?_ ?_ _) | (with_reducible refine Below.drew ?_) | (with_reducible refine below_drewN ?_ _) | (refine Below.trans ?_ (Below.mono (by with_reducible assumption) ?_)) | omega | (simp; done) | (simp; omega))
 case rest =>
  obtain ⟨G, A1, c1, rfl, hG2, hkG, hkB, hkR, ho, hB⟩ := hcut
  have hGlt := hkG.lt
  have g0 : wc.cell? ⟨G, 0, none⟩ = some (.int .i64 room) := hkG.cell 0
  have g1 : wc.cell? ⟨G, 1, none⟩ = some (.int .i64 start) := hkG.cell 1
  have g2 : wc.cell? ⟨G, 2, none⟩ = some (.slice A1 l.length c1) := hkG.cell 2
  have g3 : wc.cell? ⟨G, 3, none⟩ = some (.int .i64 start) := hkG.cell 3
  have g4 : wc.cell? ⟨G, 4, none⟩ = some (.int .i64 0) := hkG.cell 4
  have g5 : wc.cell? ⟨G, 5, none⟩ = some (.int .i64 0) := hkG.cell 5
  have g6 : wc.cell? ⟨G, 6, none⟩ = some (.int .i64 0) := hkG.cell 6
  have b0 : wc.cell? ⟨w.heap.size, 0, none⟩ = some (.int .i64 room) := hkB.cell 0
  have b1 : wc.cell? ⟨w.heap.size, 1, none⟩ = some (.int .i64 start) := hkB.cell 1
  have b2 : wc.cell? ⟨w.heap.size, 2, none⟩ = some (.slice A l.length c) := hkB.cell 2
  have b3 : wc.cell? ⟨w.heap.size, 3, none⟩ = some (.int .i64 lv0) := hkB.cell 3
  have b4 : wc.cell? ⟨w.heap.size, 4, none⟩ = some (.int .i64 r0) := hkB.cell 4
  have b5 : wc.cell? ⟨w.heap.size, 5, none⟩ = some (.int .i64 d0) := hkB.cell 5
  have b6 : wc.cell? ⟨w.heap.size, 6, none⟩ = some (.int .i64 l0) := hkB.cell 6
  have z0 : wc.cell? ⟨w.heap.size + 1, 0, none⟩ = some (.int .i64 0) := hkR.cell 0
  have zf0 : wc.frozen? ⟨w.heap.size + 1, 0, none⟩ = false := hkR.frozen 0
  have z1 : wc.cell? ⟨w.heap.size + 1, 1, none⟩ = some (.int .i64 0) := hkR.cell 1
  have zf1 : wc.frozen? ⟨w.heap.size + 1, 1, none⟩ = false := hkR.frozen 1
  have z2 : wc.cell? ⟨w.heap.size + 1, 2, none⟩ = some (.slice none 0 0) := hkR.cell 2
  have zf2 : wc.frozen? ⟨w.heap.size + 1, 2, none⟩ = false := hkR.frozen 2
  have z3 : wc.cell? ⟨w.heap.size + 1, 3, none⟩ = some (.int .i64 0) := hkR.cell 3
  have zf3 : wc.frozen? ⟨w.heap.size + 1, 3, none⟩ = false := hkR.frozen 3
  have z4 : wc.cell? ⟨w.heap.size + 1, 4, none⟩ = some (.int .i64 0) := hkR.cell 4
  have zf4 : wc.frozen? ⟨w.heap.size + 1, 4, none⟩ = false := hkR.frozen 4
  have z5 : wc.cell? ⟨w.heap.size + 1, 5, none⟩ = some (.int .i64 0) := hkR.cell 5
  have zf5 : wc.frozen? ⟨w.heap.size + 1, 5, none⟩ = false := hkR.frozen 5
  have z6 : wc.cell? ⟨w.heap.size + 1, 6, none⟩ = some (.int .i64 0) := hkR.cell 6
  have zf6 : wc.frozen? ⟨w.heap.size + 1, 6, none⟩ = false := hkR.frozen 6
  have HC := Lib.hid (And.intro hkG (And.intro hkB (And.intro hkR (And.intro ho hB))))
  clear hkG hkB hkR ho hB
  cases h1 : inB room 1 1000000
  ·have e1 : countBk room start l = (start, 0, 0, 0, false) := by unfold countBk; rw [h1]; rfl
   have E1 := Lib.hid e1; clear e1
   go_wp2_with (first | (go_at_call 43; refine (l01In_any _ _ _ _).mono ?_; rintro e w' ⟨rfl, rfl⟩))
   rw [HR.out, E1.out]
   have ho := HC.out.2.2.2.1
   have hB := HC.out.2.2.2.2
   refine bodyPost_ret (v := .tuple #[.agg #[.int .i64 room, .int .i64 start, .slice A1 l.length c1, .int .i64 start, .int .i64 0, .int .i64 0, .int .i64 0], .bool false]) ?_ rfl ?_
   ·simp [results, Tryz.results108, go_sem, z0, z1, z2, z3, z4, z5, z6]
   ·refine ⟨A1, c1, rfl, ?_, ?_⟩
    ·with_reducible exact own_set7 ho HC.out.2.2.1 (by decide) _ _ _ _ _ _ _
    ·repeat' (first | (with_reducible exact Below.refl _ _) | (with_reducible assumption) | (with_reducible refine Below.alloc ?_ ?_ _) | (with_reducible refine Below.setCell ?_ ?_ _) | (with_reducible refine Below.drew ?_) | (with_reducible refine below_drewN ?_ _) | (refine Below.trans ?_ (Below.mono (by with_reducible assumption) ?_)) | omega | (simp; done) | (simp; omega))
  cases h2 : inB start 0 room
  ·have e1 : countBk room start l = (start, 0, 0, 0, false) := by unfold countBk; rw [h1, h2]; rfl
   have E1 := Lib.hid e1; clear e1
   go_wp2_with (first | (go_at_call 43; refine (l01In_any _ _ _ _).mono ?_; rintro e w' ⟨rfl, rfl⟩))
   rw [HR.out, E1.out]
   have ho := HC.out.2.2.2.1
   have hB := HC.out.2.2.2.2
   refine bodyPost_ret (v := .tuple #[.agg #[.int .i64 room, .int .i64 start, .slice A1 l.length c1, .int .i64 start, .int .i64 0, .int .i64 0, .int .i64 0], .bool false]) ?_ rfl ?_
   ·simp [results, Tryz.results108, go_sem, z0, z1, z2, z3, z4, z5, z6]
   ·refine ⟨A1, c1, rfl, ?_, ?_⟩
    ·with_reducible exact own_set7 ho HC.out.2.2.1 (by decide) _ _ _ _ _ _ _
    ·repeat' (first | (with_reducible exact Below.refl _ _) | (with_reducible assumption) | (with_reducible refine Below.alloc ?_ ?_ _) | (with_reducible refine Below.setCell ?_ ?_ _) | (with_reducible refine Below.drew ?_) | (with_reducible refine below_drewN ?_ _) | (refine Below.trans ?_ (Below.mono (by with_reducible assumption) ?_)) | omega | (simp; done) | (simp; omega))
  by_cases h40 : (40 : Int) < l.length
  ·have e1 : countBk room start l = (start, 0, 0, 0, false) := by unfold countBk; rw [h1, h2]; simp; intro; omega
   have E1 := Lib.hid e1; clear e1
   go_wp2_with (first | (go_at_call 43; refine (l01In_any _ _ _ _).mono ?_; rintro e w' ⟨rfl, rfl⟩))
   rw [HR.out, E1.out]
   have ho := HC.out.2.2.2.1
   have hB := HC.out.2.2.2.2
   refine bodyPost_ret (v := .tuple #[.agg #[.int .i64 room, .int .i64 start, .slice A1 l.length c1, .int .i64 start, .int .i64 0, .int .i64 0, .int .i64 0], .bool false]) ?_ rfl ?_
   ·simp [results, Tryz.results108, go_sem, z0, z1, z2, z3, z4, z5, z6]
   ·refine ⟨A1, c1, rfl, ?_, ?_⟩
    ·with_reducible exact own_set7 ho HC.out.2.2.1 (by decide) _ _ _ _ _ _ _
    ·repeat' (first | (with_reducible exact Below.refl _ _) | (with_reducible assumption) | (with_reducible refine Below.alloc ?_ ?_ _) | (with_reducible refine Below.setCell ?_ ?_ _) | (with_reducible refine Below.drew ?_) | (with_reducible refine below_drewN ?_ _) | (refine Below.trans ?_ (Below.mono (by with_reducible assumption) ?_)) | omega | (simp; done) | (simp; omega))
  have e1 : countBk room start l = runEv room l start 0 0 0 := by unfold countBk; rw [h1, h2]; simp; omega
  have E1 := Lib.hid e1; clear e1
  go_wp2_with (first | (go_at_call 43; refine (l01In_any _ _ _ _).mono ?_; rintro e w' ⟨rfl, rfl⟩))
  go_loopw [5] (fun i wr => ∃ (k : Nat) (v r d lo : Int), k ≤ l.length ∧ i = .int .i64 k ∧ Blk wr G 32 #[.int .i64 room, .int .i64 start, .slice A1 l.length c1, .int .i64 v, .int .i64 r, .int .i64 d, .int .i64 lo] ∧ Blk wr w.heap.size 32 #[.int .i64 room, .int .i64 start, .slice A l.length c, .int .i64 lv0, .int .i64 r0, .int .i64 d0, .int .i64 l0] ∧ Blk wr (w.heap.size + 1) 32 #[.int .i64 0, .int .i64 0, .slice none 0 0, .int .i64 0, .int .i64 0, .int .i64 0, .int .i64 0] ∧ wr.ownsRow w.heap.size 120 3 (.slice A1 l.length c1) l.length (t3s l) ∧ Below w.heap.size w wr ∧ runEv room (l.drop k) v r d lo = R ∧ 0 ≤ r ∧ r ≤ 1000000 * k ∧ 0 ≤ d ∧ d ≤ 1000000 * k ∧ 0 ≤ lo ∧ lo ≤ 1000000 * k) (fun i _ => l.length - (intOf i).toNat)
  case atStart => exact ⟨0, start, 0, 0, 0, Nat.zero_le _, rfl, HC.out.1, HC.out.2.1, HC.out.2.2.1, HC.out.2.2.2.1, HC.out.2.2.2.2, (HR.out.trans E1.out).symm, by omega, by omega, by omega, by omega, by omega, by omega⟩
  case round =>
   obtain ⟨k, v, r, d, lo, hk, rfl, hkG, hkB, hkR, ho, hB, hrun, q0, q1, q2, q3, q4, q5⟩ := hrel
   clear g0 g1 g2 g3 g4 g5 g6 b0 b1 b2 b3 b4 b5 b6 z0 z1 z2 z3 z4 z5 z6 zf0 zf1 zf2 zf3 zf4 zf5 zf6 hGlt
   have hGlt := hkG.lt
   have g0 : wr.cell? ⟨G, 0, none⟩ = some (.int .i64 room) := hkG.cell 0
   have g1 : wr.cell? ⟨G, 1, none⟩ = some (.int .i64 start) := hkG.cell 1
   have g2 : wr.cell? ⟨G, 2, none⟩ = some (.slice A1 l.length c1) := hkG.cell 2
   have g3 : wr.cell? ⟨G, 3, none⟩ = some (.int .i64 v) := hkG.cell 3
   have g4 : wr.cell? ⟨G, 4, none⟩ = some (.int .i64 r) := hkG.cell 4
   have g5 : wr.cell? ⟨G, 5, none⟩ = some (.int .i64 d) := hkG.cell 5
   have g6 : wr.cell? ⟨G, 6, none⟩ = some (.int .i64 lo) := hkG.cell 6
   have b0 : wr.cell? ⟨w.heap.size, 0, none⟩ = some (.int .i64 room) := hkB.cell 0
   have b2 : wr.cell? ⟨w.heap.size, 2, none⟩ = some (.slice A l.length c) := hkB.cell 2
   by_cases hlt : k < l.length
   ·obtain ⟨b, o, t, rfl, hbb, hx, e0, e1, e2⟩ := h.at_ hlt
    have f0 : wr.cell? ⟨b, o + k * 3, none⟩ = some (.int .i64 t.x) := (hB.cell (p := ⟨b, _, none⟩) hbb).trans e0
    have f1 : wr.cell? ⟨b, o + k * 3 + 1, none⟩ = some (.int .i64 t.y) := (hB.cell (p := ⟨b, _, none⟩) hbb).trans e1
    have f2 : wr.cell? ⟨b, o + k * 3 + 2, none⟩ = some (.int .i64 t.z) := (hB.cell (p := ⟨b, _, none⟩) hbb).trans e2
    clear e0 e1 e2
    have hk0 : (0 : Int) ≤ (k : Int) := by omega
    have hk1 : (k : Int) < (l.length : Int) := by omega
    have HX := Lib.hid (And.intro hx (And.intro hkG (And.intro hkB (And.intro hkR (And.intro ho (And.intro hB hrun))))))
    clear hx hkG hkB hkR ho hB hrun
    obtain ⟨v', r', d', l', ok, he⟩ : ∃ v' r' d' l' ok, evOn v room t.x t.y t.z = (v', r', d', l', ok) := ⟨_, _, _, _, _, rfl⟩
    have hcall : ∀ W : World, Calls Tryz.prog 139 #[.int .i64 v, .int .i64 room, .agg #[.int .i64 t.x, .int .i64 t.y, .int .i64 t.z]] W fun e w' => e = .returned (.tuple #[.int .i64 v', .int .i64 r', .int .i64 d', .int .i64 l', .bool ok]) ∧ Below W.heap.size W w' := by
     intro W
     have := EventOnS_any v room t.x t.y t.z W
     rw [he] at this
     exact this
    have HCALL := Lib.hid hcall; clear hcall
    have hbd := evOn_bounds v room t.x t.y t.z
    rw [he] at hbd
    have HE := Lib.hid he; clear he
    have hbwr : b < wr.heap.size := by omega
    go_wp2
    go_region_held3 (fun w' => w'.cell? ⟨G, 3, none⟩ = some (.int .i64 v) ∧ w'.cell? ⟨w.heap.size, 0, none⟩ = some (.int .i64 room) ∧ w'.cell? ⟨w.heap.size, 2, none⟩ = some (.slice (some ⟨b, o, none⟩) l.length c) ∧ w'.cell? ⟨b, o + k * 3, none⟩ = some (.int .i64 t.x) ∧ w'.cell? ⟨b, o + k * 3 + 1, none⟩ = some (.int .i64 t.y) ∧ w'.cell? ⟨b, o + k * 3 + 2, none⟩ = some (.int .i64 t.z)) (first | (simp [*]; done) | exact ⟨y0, y1, y2, y3, y4, y5⟩)
     ((go_at_call 139; refine (HCALL.out _).mono ?_; rintro e w2 ⟨rfl, hb2⟩; obtain ⟨hc2, hf2⟩ := bcell hb2; have hz2 : wr.heap.size ≤ w2.heap.size := hb2.size; have y0 := (hc2 G 3 hGlt).trans g3; have y1 := (hc2 w.heap.size 0 (by show _ < wr.heap.size; omega)).trans b0; have y2 := (hc2 w.heap.size 2 (by show _ < wr.heap.size; omega)).trans b2; have y3 := (hc2 b _ hbwr).trans f0; have y4 := (hc2 b _ hbwr).trans f1; have y5 := (hc2 b _ hbwr).trans f2))
    clear g0 g1 g2 g3 g4 g5 g6 b0 b2 f0 f1 f2 y0 y1 y2 y3 y4 y5 hc2 hf2
    have hkG2 := HX.out.2.1.drew.below hb2 hGlt
    have hkB2 := HX.out.2.2.1.drew.below hb2 (HX.out.2.2.1.lt)
    have hkR2 := HX.out.2.2.2.1.drew.below hb2 (HX.out.2.2.2.1.lt)
    have ho2 := own_below HX.out.2.2.2.2.1.drew hb2 (Nat.le_refl _)
    have hB2 := HX.out.2.2.2.2.2.1.drew.trans (hb2.mono HX.out.2.2.2.2.2.1.size)
    have hGlt2 : G < w2.heap.size := hkG2.lt
    have hrun := HX.out.2.2.2.2.2.2
    rw [drop_cons HX.out.1, runEv_cons, HE.out] at hrun
    have g0 : w2.cell? ⟨G, 0, none⟩ = some (.int .i64 room) := hkG2.cell 0
    have gf0 : w2.frozen? ⟨G, 0, none⟩ = false := hkG2.frozen 0
    have g1 : w2.cell? ⟨G, 1, none⟩ = some (.int .i64 start) := hkG2.cell 1
    have gf1 : w2.frozen? ⟨G, 1, none⟩ = false := hkG2.frozen 1
    have g2 : w2.cell? ⟨G, 2, none⟩ = some (.slice A1 l.length c1) := hkG2.cell 2
    have gf2 : w2.frozen? ⟨G, 2, none⟩ = false := hkG2.frozen 2
    have g3 : w2.cell? ⟨G, 3, none⟩ = some (.int .i64 v) := hkG2.cell 3
    have gf3 : w2.frozen? ⟨G, 3, none⟩ = false := hkG2.frozen 3
    have g4 : w2.cell? ⟨G, 4, none⟩ = some (.int .i64 r) := hkG2.cell 4
    have gf4 : w2.frozen? ⟨G, 4, none⟩ = false := hkG2.frozen 4
    have g5 : w2.cell? ⟨G, 5, none⟩ = some (.int .i64 d) := hkG2.cell 5
    have gf5 : w2.frozen? ⟨G, 5, none⟩ = false := hkG2.frozen 5
    have g6 : w2.cell? ⟨G, 6, none⟩ = some (.int .i64 lo) := hkG2.cell 6
    have gf6 : w2.frozen? ⟨G, 6, none⟩ = false := hkG2.frozen 6
    have HR2 := Lib.hid (And.intro hkG2 (And.intro hkB2 (And.intro ho2 (And.intro hB2 hrun))))
    clear hb2 hkG2 hkB2 ho2 hB2 hrun
    cases ok
    ·have e1 : R = (v, r, d, lo, false) := HR2.out.2.2.2.2.symm
     have E2 := Lib.hid e1; clear e1
     have z0 : w2.cell? ⟨w.heap.size + 1, 0, none⟩ = some (.int .i64 0) := hkR2.cell 0
     have zf0 : w2.frozen? ⟨w.heap.size + 1, 0, none⟩ = false := hkR2.frozen 0
     have z1 : w2.cell? ⟨w.heap.size + 1, 1, none⟩ = some (.int .i64 0) := hkR2.cell 1
     have zf1 : w2.frozen? ⟨w.heap.size + 1, 1, none⟩ = false := hkR2.frozen 1
     have z2 : w2.cell? ⟨w.heap.size + 1, 2, none⟩ = some (.slice none 0 0) := hkR2.cell 2
     have zf2 : w2.frozen? ⟨w.heap.size + 1, 2, none⟩ = false := hkR2.frozen 2
     have z3 : w2.cell? ⟨w.heap.size + 1, 3, none⟩ = some (.int .i64 0) := hkR2.cell 3
     have zf3 : w2.frozen? ⟨w.heap.size + 1, 3, none⟩ = false := hkR2.frozen 3
     have z4 : w2.cell? ⟨w.heap.size + 1, 4, none⟩ = some (.int .i64 0) := hkR2.cell 4
     have zf4 : w2.frozen? ⟨w.heap.size + 1, 4, none⟩ = false := hkR2.frozen 4
     have z5 : w2.cell? ⟨w.heap.size + 1, 5, none⟩ = some (.int .i64 0) := hkR2.cell 5
     have zf5 : w2.frozen? ⟨w.heap.size + 1, 5, none⟩ = false := hkR2.frozen 5
     have z6 : w2.cell? ⟨w.heap.size + 1, 6, none⟩ = some (.int .i64 0) := hkR2.cell 6
     have zf6 : w2.frozen? ⟨w.heap.size + 1, 6, none⟩ = false := hkR2.frozen 6
     have HK := Lib.hid hkR2; clear hkR2
     go_wp2
     rw [E2.out]
     have hkRF := HK.out
     have hoF := HR2.out.2.2.1
     have hB := HR2.out.2.2.2.1
     refine bodyPost_ret (v := .tuple #[.agg #[.int .i64 room, .int .i64 start, .slice A1 l.length c1, .int .i64 v, .int .i64 r, .int .i64 d, .int .i64 lo], .bool false]) ?_ rfl ?_
     ·simp [results, Tryz.results108, go_sem, z0, z1, z2, z3, z4, z5, z6]
     ·refine ⟨A1, c1, rfl, ?_, ?_⟩
      ·with_reducible exact own_set7 hoF hkRF (by decide) _ _ _ _ _ _ _
      ·repeat' (first | (with_reducible exact Below.refl _ _) | (with_reducible assumption) | (with_reducible refine Below.alloc ?_ ?_ _) | (with_reducible refine Below.setCell ?_ ?_ _) | (with_reducible refine Below.drew ?_) | (with_reducible refine below_drewN ?_ _) | (refine Below.trans ?_ (Below.mono (by with_reducible assumption) ?_)) | omega | (simp; done) | (simp; omega))
    ·have HK := Lib.hid hkR2; clear hkR2
     have hbd' := hbd rfl
     try simp only at hbd'
     obtain ⟨b1, b2, b3, b4, b5, b6⟩ := hbd'
     clear hbd
     go_wp2
     go_roundw
     case rel =>
      have hB := HR2.out.2.2.2.1
      have k0 := HR2.out.1.set_ 3 (.int .i64 v')
      have k1 := k0.set_ 4 (.int .i64 (r + r'))
      have k2 := k1.set_ 5 (.int .i64 (d + d'))
      refine ⟨k + 1, v', r + r', d + d', lo + l', by omega, by go_num, ?_, ?_, ?_, ?_, ?_, HR2.out.2.2.2.2, by omega, by omega, by omega, by omega, by omega, by omega⟩
      ·exact k2.set_ 6 (.int .i64 (lo + l'))
      ·exact (((HR2.out.2.1.far (p := ⟨G, 3, none⟩) (by simp; omega) _).far (p := ⟨G, 4, none⟩) (by simp; omega) _).far (p := ⟨G, 5, none⟩) (by simp; omega) _).far (p := ⟨G, 6, none⟩) (by simp; omega) _
      ·exact (((HK.out.far (p := ⟨G, 3, none⟩) (by simp; omega) _).far (p := ⟨G, 4, none⟩) (by simp; omega) _).far (p := ⟨G, 5, none⟩) (by simp; omega) _).far (p := ⟨G, 6, none⟩) (by simp; omega) _
      ·have o0 := own_set_blk HR2.out.2.2.1 HR2.out.1 (by decide) 3 (.int .i64 v')
       have o1 := own_set_blk o0 k0 (by decide) 4 (.int .i64 (r + r'))
       have o2 := own_set_blk o1 k1 (by decide) 5 (.int .i64 (d + d'))
       exact own_set_blk o2 k2 (by decide) 6 (.int .i64 (lo + l'))
      ·repeat' (first | (with_reducible exact Below.refl _ _) | (with_reducible assumption) | (with_reducible refine Below.alloc ?_ ?_ _) | (with_reducible refine Below.setCell ?_ ?_ _) | (with_reducible refine Below.drew ?_) | (with_reducible refine below_drewN ?_ _) | (refine Below.trans ?_ (Below.mono (by with_reducible assumption) ?_)) | omega | (simp; done) | (simp; omega))
     case measure => simp [intOf]; omega
   ·have e1 : R = (v, r, d, lo, true) := by rw [← hrun, drop_end hlt]; rfl
    have E2 := Lib.hid e1; clear e1 hrun
    have z0 : wr.cell? ⟨w.heap.size + 1, 0, none⟩ = some (.int .i64 0) := hkR.cell 0
    have zf0 : wr.frozen? ⟨w.heap.size + 1, 0, none⟩ = false := hkR.frozen 0
    have z1 : wr.cell? ⟨w.heap.size + 1, 1, none⟩ = some (.int .i64 0) := hkR.cell 1
    have zf1 : wr.frozen? ⟨w.heap.size + 1, 1, none⟩ = false := hkR.frozen 1
    have z2 : wr.cell? ⟨w.heap.size + 1, 2, none⟩ = some (.slice none 0 0) := hkR.cell 2
    have zf2 : wr.frozen? ⟨w.heap.size + 1, 2, none⟩ = false := hkR.frozen 2
    have z3 : wr.cell? ⟨w.heap.size + 1, 3, none⟩ = some (.int .i64 0) := hkR.cell 3
    have zf3 : wr.frozen? ⟨w.heap.size + 1, 3, none⟩ = false := hkR.frozen 3
    have z4 : wr.cell? ⟨w.heap.size + 1, 4, none⟩ = some (.int .i64 0) := hkR.cell 4
    have zf4 : wr.frozen? ⟨w.heap.size + 1, 4, none⟩ = false := hkR.frozen 4
    have z5 : wr.cell? ⟨w.heap.size + 1, 5, none⟩ = some (.int .i64 0) := hkR.cell 5
    have zf5 : wr.frozen? ⟨w.heap.size + 1, 5, none⟩ = false := hkR.frozen 5
    have z6 : wr.cell? ⟨w.heap.size + 1, 6, none⟩ = some (.int .i64 0) := hkR.cell 6
    have zf6 : wr.frozen? ⟨w.heap.size + 1, 6, none⟩ = false := hkR.frozen 6
    have HK := Lib.hid (And.intro hkR (And.intro ho hB)); clear hkR ho hB hkG hkB
    go_wp2
    rw [E2.out]
    have hkRF := HK.out.1
    have hoF := HK.out.2.1
    have hB := HK.out.2.2
    refine bodyPost_ret (v := .tuple #[.agg #[.int .i64 room, .int .i64 start, .slice A1 l.length c1, .int .i64 v, .int .i64 r, .int .i64 d, .int .i64 lo], .bool true]) ?_ rfl ?_
    ·simp [results, Tryz.results108, go_sem, z0, z1, z2, z3, z4, z5, z6]
    ·refine ⟨A1, c1, rfl, ?_, ?_⟩
     ·with_reducible exact own_set7 hoF hkRF (by decide) _ _ _ _ _ _ _
     ·repeat' (first | (with_reducible exact Below.refl _ _) | (with_reducible assumption) | (with_reducible refine Below.alloc ?_ ?_ _) | (with_reducible refine Below.setCell ?_ ?_ _) | (with_reducible refine Below.drew ?_) | (with_reducible refine below_drewN ?_ _) | (refine Below.trans ?_ (Below.mono (by with_reducible assumption) ?_)) | omega | (simp; done) | (simp; omega))
end
end Go.Proofs.YtpmmjhpmheooeaaGreatDoor
