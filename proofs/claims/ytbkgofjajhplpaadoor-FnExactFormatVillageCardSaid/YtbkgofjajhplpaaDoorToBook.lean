/- The law side's own helpers on books: copy, compare, count. -/
import Derived.Test.YtbkgofjajhplpaaDoorTo3
import Derived.Test.YtbkgofjajhplpaaDoorBook
namespace Go.Proofs.YtbkgofjajhplpaaDoor
set_option linter.unusedSimpArgs false
set_option linter.unusedVariables false
open Go.RowKit
set_option maxHeartbeats 400000 in
theorem szEventS_ok (A : Option Addr) (n c : Nat) (left : Int) (w : World) (h : (n : Int) ≤ left) (h2 : left ≤ 1048576) :
    Calls Tryd.prog 86 #[.slice A n c, .int .i64 left] w fun e w' => e = .returned (.int .i64 (left - n)) ∧ w = w' := by
  go_enter Tryd.func86, Tryd.ntmps86
  go_wp2
  go_ret
  exact ⟨rfl, rfl⟩
set_option maxHeartbeats 400000 in
theorem szEventS_big (A : Option Addr) (n c : Nat) (left : Int) (w : World) (h : left < n) (h1 : 0 ≤ left) (h2 : n ≤ 9223372036854775807) :
    Calls Tryd.prog 86 #[.slice A n c, .int .i64 left] w fun e w' => e = .returned (.int .i64 (-1)) ∧ w = w' := by
  go_enter Tryd.func86, Tryd.ntmps86
  go_wp2
  go_ret
  exact ⟨rfl, rfl⟩
set_option maxHeartbeats 400000 in
theorem szBook_ok (A : Option Addr) (c : Nat) (b : Bk) (left : Int) (w : World) (h : (b.evs.length : Int) ≤ left) (h2 : left ≤ 1048576) :
    Calls Tryd.prog 45 #[b.val A c, .int .i64 left] w fun e w' => e = .returned (.int .i64 (left - b.evs.length)) ∧ Below w.heap.size w w' := by
  unfold Bk.val
  go_enter Tryd.func45, Tryd.ntmps45
  go_wp2_with (go_at_call 86; refine (szEventS_ok _ _ _ _ _ h h2).mono ?_; rintro e w1 ⟨rfl, rfl⟩)
  go_ret
  exact ⟨rfl, by repeat' (first | (with_reducible exact Below.refl _ _) | (with_reducible assumption) | (with_reducible refine Below.alloc ?_ ?_ _) | (with_reducible refine Below.setCell ?_ ?_ _) | (with_reducible refine Below.drew ?_) | (with_reducible refine below_drewN ?_ _) | (refine Below.trans ?_ (Below.mono (by with_reducible assumption) ?_)) | omega | (simp; done) | (simp; omega))⟩
set_option maxHeartbeats 400000 in
theorem szBook_big (A : Option Addr) (c : Nat) (b : Bk) (left : Int) (w : World) (h : left < b.evs.length) (h1 : 0 ≤ left) (h2 : b.evs.length ≤ 9223372036854775807) :
    Calls Tryd.prog 45 #[b.val A c, .int .i64 left] w fun e w' => e = .returned (.int .i64 (-1)) ∧ Below w.heap.size w w' := by
  unfold Bk.val
  go_enter Tryd.func45, Tryd.ntmps45
  go_wp2_with (go_at_call 86; refine (szEventS_big _ _ _ _ _ h h1 h2).mono ?_; rintro e w1 ⟨rfl, rfl⟩)
  go_ret
  exact ⟨rfl, by repeat' (first | (with_reducible exact Below.refl _ _) | (with_reducible assumption) | (with_reducible refine Below.alloc ?_ ?_ _) | (with_reducible refine Below.setCell ?_ ?_ _) | (with_reducible refine Below.drew ?_) | (with_reducible refine below_drewN ?_ _) | (refine Below.trans ?_ (Below.mono (by with_reducible assumption) ?_)) | omega | (simp; done) | (simp; omega))⟩
set_option maxHeartbeats 1600000 in
theorem toBook_any (A : Option Addr) (c : Nat) (b : Bk) (w : World) (h : RdT w w.heap.size A c b.evs) (hs : b.evs.length ≤ 1048576) :
    Calls Tryd.prog 50 #[b.val A c] w fun e w' => ∃ A' c', e = .returned (b.val A' c') ∧ w'.ownsRow w.heap.size 139 3 (.slice A' b.evs.length c') b.evs.length (t3s b.evs) ∧ Below w.heap.size w w' := by
  obtain ⟨room, start, l, lv, ra, dr, lo⟩ := b
  unfold Bk.val
  simp only at h hs ⊢
  have hcall := fun (W : World) (hb : Below w.heap.size w W) => toEventS_any A c l W (h.below hb) hs
  have HCALL := Lib.hid hcall; clear hcall
  go_enter Tryd.func50, Tryd.ntmps50
  go_wp2_with fail
  refine name_world ?_
  intro W hW
  have hbox : Blk W w.heap.size 30 #[.int .i64 room, .int .i64 start, .slice A l.length c, .int .i64 lv, .int .i64 ra, .int .i64 dr, .int .i64 lo] := by rw [hW]; repeat' (first | (with_reducible assumption) | (with_reducible refine Blk.drew ?_) | (with_reducible refine Blk.drewN ?_ _) | (with_reducible refine Blk.new' _ _ _ _ ?_; (first | rfl | omega | (simp; done))) | (with_reducible exact Blk.new _ _ _) | (with_reducible refine Blk.alloc ?_ _) | (with_reducible apply Blk.set8) | (with_reducible apply Blk.set7of8) | (with_reducible apply Blk.setlast8) | (with_reducible apply Blk.set7) | (with_reducible apply Blk.set2) | (with_reducible apply Blk.set3) | (with_reducible refine Blk.far ?_ ?_ _) | (simp; done) | (simp; omega) | (dsimp only; omega))
  have hres : Blk W (w.heap.size + 1) 39 #[.int .i64 0, .int .i64 0, .slice none 0 0, .int .i64 0, .int .i64 0, .int .i64 0, .int .i64 0] := by rw [hW]; repeat' (first | (with_reducible assumption) | (with_reducible refine Blk.drew ?_) | (with_reducible refine Blk.drewN ?_ _) | (with_reducible refine Blk.new' _ _ _ _ ?_; (first | rfl | omega | (simp; done))) | (with_reducible exact Blk.new _ _ _) | (with_reducible refine Blk.alloc ?_ _) | (with_reducible apply Blk.set8) | (with_reducible apply Blk.set7of8) | (with_reducible apply Blk.setlast8) | (with_reducible apply Blk.set7) | (with_reducible apply Blk.set2) | (with_reducible apply Blk.set3) | (with_reducible refine Blk.far ?_ ?_ _) | (simp; done) | (simp; omega) | (dsimp only; omega))
  have hout : Blk W (w.heap.size + 2) 39 #[.int .i64 room, .int .i64 start, .slice none 0 0, .int .i64 0, .int .i64 0, .int .i64 0, .int .i64 0] := by rw [hW]; repeat' (first | (with_reducible assumption) | (with_reducible refine Blk.drew ?_) | (with_reducible refine Blk.drewN ?_ _) | (with_reducible refine Blk.new' _ _ _ _ ?_; (first | rfl | omega | (simp; done))) | (with_reducible exact Blk.new _ _ _) | (with_reducible refine Blk.alloc ?_ _) | (with_reducible apply Blk.set8) | (with_reducible apply Blk.set7of8) | (with_reducible apply Blk.setlast8) | (with_reducible apply Blk.set7) | (with_reducible apply Blk.set2) | (with_reducible apply Blk.set3) | (with_reducible refine Blk.far ?_ ?_ _) | (simp; done) | (simp; omega) | (dsimp only; omega))
  have hB : Below w.heap.size w W := by rw [hW]; repeat' (first | (with_reducible exact Below.refl _ _) | (with_reducible assumption) | (with_reducible refine Below.alloc ?_ ?_ _) | (with_reducible refine Below.setCell ?_ ?_ _) | (with_reducible refine Below.drew ?_) | (with_reducible refine below_drewN ?_ _) | (refine Below.trans ?_ (Below.mono (by with_reducible assumption) ?_)) | omega | (simp; done) | (simp; omega))
  have hz : W.heap.size = w.heap.size + 3 := by rw [hW]; simp
  have HZ := Lib.hid hz
  have HW := Lib.hid hW; clear hW hz
  refine (HCALL.out _ hB).mono ?_
  rintro e w1 ⟨A1, c1, rfl, ho1, hb1⟩
  have hr1 : Row2 w1 (w.heap.size + 3) w1.heap.size 139 3 A1 l.length c1 (t3s l) := by have := Row2.born ho1; rwa [HZ.out] at this
  have hz0 := HZ.out
  have hbox1 := hbox.below hb1 (by omega)
  have hres1 := hres.below hb1 (by omega)
  have hout1 := hout.below hb1 (by omega)
  have hB1 := hB.trans (hb1.mono (by omega))
  have hlt1 : w.heap.size + 3 ≤ w1.heap.size := by have := hb1.size; omega
  have b0 : w1.cell? ⟨w.heap.size, 0, none⟩ = some (.int .i64 room) := hbox1.cell 0
  have b1 : w1.cell? ⟨w.heap.size, 1, none⟩ = some (.int .i64 start) := hbox1.cell 1
  have b2 : w1.cell? ⟨w.heap.size, 2, none⟩ = some (.slice A l.length c) := hbox1.cell 2
  have b3 : w1.cell? ⟨w.heap.size, 3, none⟩ = some (.int .i64 lv) := hbox1.cell 3
  have b4 : w1.cell? ⟨w.heap.size, 4, none⟩ = some (.int .i64 ra) := hbox1.cell 4
  have b5 : w1.cell? ⟨w.heap.size, 5, none⟩ = some (.int .i64 dr) := hbox1.cell 5
  have b6 : w1.cell? ⟨w.heap.size, 6, none⟩ = some (.int .i64 lo) := hbox1.cell 6
  have z0 : w1.cell? ⟨w.heap.size + 1, 0, none⟩ = some (.int .i64 0) := hres1.cell 0
  have zf0 : w1.frozen? ⟨w.heap.size + 1, 0, none⟩ = false := hres1.frozen 0
  have z1 : w1.cell? ⟨w.heap.size + 1, 1, none⟩ = some (.int .i64 0) := hres1.cell 1
  have zf1 : w1.frozen? ⟨w.heap.size + 1, 1, none⟩ = false := hres1.frozen 1
  have z2 : w1.cell? ⟨w.heap.size + 1, 2, none⟩ = some (.slice none 0 0) := hres1.cell 2
  have zf2 : w1.frozen? ⟨w.heap.size + 1, 2, none⟩ = false := hres1.frozen 2
  have z3 : w1.cell? ⟨w.heap.size + 1, 3, none⟩ = some (.int .i64 0) := hres1.cell 3
  have zf3 : w1.frozen? ⟨w.heap.size + 1, 3, none⟩ = false := hres1.frozen 3
  have z4 : w1.cell? ⟨w.heap.size + 1, 4, none⟩ = some (.int .i64 0) := hres1.cell 4
  have zf4 : w1.frozen? ⟨w.heap.size + 1, 4, none⟩ = false := hres1.frozen 4
  have z5 : w1.cell? ⟨w.heap.size + 1, 5, none⟩ = some (.int .i64 0) := hres1.cell 5
  have zf5 : w1.frozen? ⟨w.heap.size + 1, 5, none⟩ = false := hres1.frozen 5
  have z6 : w1.cell? ⟨w.heap.size + 1, 6, none⟩ = some (.int .i64 0) := hres1.cell 6
  have zf6 : w1.frozen? ⟨w.heap.size + 1, 6, none⟩ = false := hres1.frozen 6
  have y0 : w1.cell? ⟨w.heap.size + 2, 0, none⟩ = some (.int .i64 room) := hout1.cell 0
  have yf0 : w1.frozen? ⟨w.heap.size + 2, 0, none⟩ = false := hout1.frozen 0
  have y1 : w1.cell? ⟨w.heap.size + 2, 1, none⟩ = some (.int .i64 start) := hout1.cell 1
  have yf1 : w1.frozen? ⟨w.heap.size + 2, 1, none⟩ = false := hout1.frozen 1
  have y2 : w1.cell? ⟨w.heap.size + 2, 2, none⟩ = some (.slice none 0 0) := hout1.cell 2
  have yf2 : w1.frozen? ⟨w.heap.size + 2, 2, none⟩ = false := hout1.frozen 2
  have y3 : w1.cell? ⟨w.heap.size + 2, 3, none⟩ = some (.int .i64 0) := hout1.cell 3
  have yf3 : w1.frozen? ⟨w.heap.size + 2, 3, none⟩ = false := hout1.frozen 3
  have y4 : w1.cell? ⟨w.heap.size + 2, 4, none⟩ = some (.int .i64 0) := hout1.cell 4
  have yf4 : w1.frozen? ⟨w.heap.size + 2, 4, none⟩ = false := hout1.frozen 4
  have y5 : w1.cell? ⟨w.heap.size + 2, 5, none⟩ = some (.int .i64 0) := hout1.cell 5
  have yf5 : w1.frozen? ⟨w.heap.size + 2, 5, none⟩ = false := hout1.frozen 5
  have y6 : w1.cell? ⟨w.heap.size + 2, 6, none⟩ = some (.int .i64 0) := hout1.cell 6
  have yf6 : w1.frozen? ⟨w.heap.size + 2, 6, none⟩ = false := hout1.frozen 6
  have HH := Lib.hid (And.intro hr1 (And.intro hres1 (And.intro hout1 hB1)))
  clear hbox hres hout hB hz0 hbox1 hres1 hout1 hB1 hb1 ho1 hr1
  go_wp2
  have hr := HH.out.1
  have hB := HH.out.2.2.2
  refine bodyPost_ret (v := .agg #[.int .i64 room, .int .i64 start, .slice A1 l.length c1, .int .i64 lv, .int .i64 ra, .int .i64 dr, .int .i64 lo]) ?_ rfl ?_
  · simp [results, Tryd.results50, go_sem, z0, z1, z2, z3, z4, z5, z6]
  · refine ⟨A1, c1, rfl, ?_, ?_⟩
    · refine (Row2.mono (lo := w.heap.size + 3) (lo' := w.heap.size) (hi := w1.heap.size) (hi' := w1.heap.size) ?_ (by omega) (Nat.le_refl _)).1
      repeat' (first | (with_reducible assumption) | (with_reducible refine Row2.far ?_ ?_ _) | (with_reducible refine Row2.alloc ?_ _) | (with_reducible refine Row2.drewN ?_ _) | (with_reducible refine Row2.drew ?_) | (left; dsimp only; omega) | (right; dsimp only; omega))
    · repeat' (first | (with_reducible exact Below.refl _ _) | (with_reducible assumption) | (with_reducible refine Below.alloc ?_ ?_ _) | (with_reducible refine Below.setCell ?_ ?_ _) | (with_reducible refine Below.drew ?_) | (with_reducible refine below_drewN ?_ _) | (refine Below.trans ?_ (Below.mono (by with_reducible assumption) ?_)) | omega | (simp; done) | (simp; omega))
set_option maxHeartbeats 1600000 in
theorem eqBook_same (A : Option Addr) (c : Nat) (B : Option Addr) (d : Nat) (b : Bk) (w : World) (h : RdT w w.heap.size A c b.evs) (h' : RdT w w.heap.size B d b.evs) :
    Calls Tryd.prog 53 #[b.val A c, b.val B d] w fun e w' => e = .returned (.bool true) ∧ Below w.heap.size w w' := by
  obtain ⟨room, start, l, lv, ra, dr, lo⟩ := b
  unfold Bk.val
  simp only at h h' ⊢
  have hcall := fun (W : World) (hb : Below w.heap.size w W) => eqEventS_same A c B d l W (h.below hb) (h'.below hb)
  have HCALL := Lib.hid hcall; clear hcall
  have n0 : (room != room) = false := by simp
  have n1 : (start != start) = false := by simp
  have n3 : (lv != lv) = false := by simp
  have n4 : (ra != ra) = false := by simp
  have n5 : (dr != dr) = false := by simp
  have n6 : (lo != lo) = false := by simp
  go_enter Tryd.func53, Tryd.ntmps53
  go_wp2_with (go_at_call 94; refine (HCALL.out _ (by repeat' (first | (with_reducible exact Below.refl _ _) | (with_reducible assumption) | (with_reducible refine Below.alloc ?_ ?_ _) | (with_reducible refine Below.setCell ?_ ?_ _) | (with_reducible refine Below.drew ?_) | (with_reducible refine below_drewN ?_ _) | (refine Below.trans ?_ (Below.mono (by with_reducible assumption) ?_)) | omega | (simp; done) | (simp; omega)))).mono ?_; rintro e w1 ⟨rfl, hb1⟩; obtain ⟨hc1, hf1⟩ := bcell hb1; have hz1 := hb1.size)
  go_ret
  exact ⟨rfl, by repeat' (first | (with_reducible exact Below.refl _ _) | (with_reducible assumption) | (with_reducible refine Below.alloc ?_ ?_ _) | (with_reducible refine Below.setCell ?_ ?_ _) | (with_reducible refine Below.drew ?_) | (with_reducible refine below_drewN ?_ _) | (refine Below.trans ?_ (Below.mono (by with_reducible assumption) ?_)) | omega | (simp; done) | (simp; omega))⟩
end Go.Proofs.YtbkgofjajhplpaaDoor
