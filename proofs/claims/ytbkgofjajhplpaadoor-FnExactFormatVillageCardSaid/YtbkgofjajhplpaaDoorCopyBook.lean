/- Copies of a book. -/
import Derived.Test.YtbkgofjajhplpaaDoorBookOk
namespace Go.Proofs.YtbkgofjajhplpaaDoor
set_option linter.unusedSimpArgs false
set_option linter.unusedVariables false
open Go.RowKit
set_option maxHeartbeats 1600000 in
theorem l37Copy_any (A : Option Addr) (c : Nat) (b : Bk) (w : World) (h : RdT w w.heap.size A c b.evs) (hs : b.evs.length ≤ 1048576) :
    Calls Tryd.prog 149 #[b.val A c] w fun e w' => ∃ A' c', e = .returned (b.val A' c') ∧ w'.ownsRow w.heap.size 139 3 (.slice A' b.evs.length c') b.evs.length (t3s b.evs) ∧ Below w.heap.size w w' := by
  obtain ⟨hl, hm⟩ := h.le
  obtain ⟨room, start, l, lv, ra, dr, lo⟩ := b
  unfold Bk.val
  simp only at h hl hs ⊢
  go_enter Tryd.func149, Tryd.ntmps149
  go_wp2_with (at_builtin; refine wpList_appAll rfl _ _ 37 rfl w.heap.size 139 (.agg #[.int .i64 0, .int .i64 0, .int .i64 0]) 3 24 Tryd.underlying37 infoEv rfl (by decide) (.slice (some ⟨w.heap.size + 2, 0, none⟩) 0 0) 0 [] rfl (ownEmpty' _ _ _ _ _ (by simp) (by (first | omega | (simp; done) | (simp; omega)))) _ A l.length c (t3s l) rfl (h.below (by repeat' (first | (with_reducible exact Below.refl _ _) | (with_reducible assumption) | (with_reducible refine Below.alloc ?_ ?_ _) | (with_reducible refine Below.setCell ?_ ?_ _) | (with_reducible refine Below.drew ?_) | (with_reducible refine below_drewN ?_ _) | (refine Below.trans ?_ (Below.mono (by with_reducible assumption) ?_)) | omega | (simp; done) | (simp; omega)))) (t3s_one l) (by omega) (by omega) (by (first | omega | (simp; done) | (simp; omega))) ?_)
  intro A1 c1 w1 ho1 hg1
  try simp only [Nat.zero_add, List.nil_append] at ho1
  have hb1 : Below w.heap.size w w1 := Below.grown (by repeat' (first | (with_reducible exact Below.refl _ _) | (with_reducible assumption) | (with_reducible refine Below.alloc ?_ ?_ _) | (with_reducible refine Below.setCell ?_ ?_ _) | (with_reducible refine Below.drew ?_) | (with_reducible refine below_drewN ?_ _) | (refine Below.trans ?_ (Below.mono (by with_reducible assumption) ?_)) | omega | (simp; done) | (simp; omega))) hg1 (by simp <;> omega) (by intro k hk; simp [Value.ownBlock] at hk; omega)
  have hk0 : Blk w1 w.heap.size 39 #[.int .i64 room, .int .i64 start, .slice A l.length c, .int .i64 lv, .int .i64 ra, .int .i64 dr, .int .i64 lo] := Blk.grown (by repeat' (first | (with_reducible assumption) | (with_reducible refine Blk.drew ?_) | (with_reducible refine Blk.drewN ?_ _) | (with_reducible refine Blk.new' _ _ _ _ ?_; (first | rfl | omega | (simp; done))) | (with_reducible exact Blk.new _ _ _) | (with_reducible refine Blk.alloc ?_ _) | (with_reducible apply Blk.set8) | (with_reducible apply Blk.set7of8) | (with_reducible apply Blk.setlast8) | (with_reducible apply Blk.set7) | (with_reducible apply Blk.set2) | (with_reducible apply Blk.set3) | (with_reducible refine Blk.far ?_ ?_ _) | (simp; done) | (simp; omega) | (dsimp only; omega))) hg1 (by simp [Value.ownBlock])
  have hk1 : Blk w1 (w.heap.size + 1) 39 #[.int .i64 0, .int .i64 0, .slice none 0 0, .int .i64 0, .int .i64 0, .int .i64 0, .int .i64 0] := Blk.grown (by repeat' (first | (with_reducible assumption) | (with_reducible refine Blk.drew ?_) | (with_reducible refine Blk.drewN ?_ _) | (with_reducible refine Blk.new' _ _ _ _ ?_; (first | rfl | omega | (simp; done))) | (with_reducible exact Blk.new _ _ _) | (with_reducible refine Blk.alloc ?_ _) | (with_reducible apply Blk.set8) | (with_reducible apply Blk.set7of8) | (with_reducible apply Blk.setlast8) | (with_reducible apply Blk.set7) | (with_reducible apply Blk.set2) | (with_reducible apply Blk.set3) | (with_reducible refine Blk.far ?_ ?_ _) | (simp; done) | (simp; omega) | (dsimp only; omega))) hg1 (by simp [Value.ownBlock])
  have hz1 : w.heap.size + 1 < w1.heap.size := hk1.lt
  obtain ⟨z0, z1, z2, z3, z4, z5, z6⟩ : w1.cell? ⟨w.heap.size, 0, none⟩ = some (.int .i64 room) ∧ w1.cell? ⟨w.heap.size, 1, none⟩ = some (.int .i64 start) ∧ w1.cell? ⟨w.heap.size, 2, none⟩ = some (.slice A l.length c) ∧ w1.cell? ⟨w.heap.size, 3, none⟩ = some (.int .i64 lv) ∧ w1.cell? ⟨w.heap.size, 4, none⟩ = some (.int .i64 ra) ∧ w1.cell? ⟨w.heap.size, 5, none⟩ = some (.int .i64 dr) ∧ w1.cell? ⟨w.heap.size, 6, none⟩ = some (.int .i64 lo) := ⟨hk0.cell 0, hk0.cell 1, hk0.cell 2, hk0.cell 3, hk0.cell 4, hk0.cell 5, hk0.cell 6⟩
  have y2 : w1.frozen? ⟨w.heap.size, 2, none⟩ = false := hk0.frozen 2
  obtain ⟨x0, x1, x2, x3, x4, x5, x6⟩ : w1.cell? ⟨w.heap.size + 1, 0, none⟩ = some (.int .i64 0) ∧ w1.cell? ⟨w.heap.size + 1, 1, none⟩ = some (.int .i64 0) ∧ w1.cell? ⟨w.heap.size + 1, 2, none⟩ = some (.slice none 0 0) ∧ w1.cell? ⟨w.heap.size + 1, 3, none⟩ = some (.int .i64 0) ∧ w1.cell? ⟨w.heap.size + 1, 4, none⟩ = some (.int .i64 0) ∧ w1.cell? ⟨w.heap.size + 1, 5, none⟩ = some (.int .i64 0) ∧ w1.cell? ⟨w.heap.size + 1, 6, none⟩ = some (.int .i64 0) := ⟨hk1.cell 0, hk1.cell 1, hk1.cell 2, hk1.cell 3, hk1.cell 4, hk1.cell 5, hk1.cell 6⟩
  obtain ⟨y0, y1, y22, y3, y4, y5, y6⟩ : w1.frozen? ⟨w.heap.size + 1, 0, none⟩ = false ∧ w1.frozen? ⟨w.heap.size + 1, 1, none⟩ = false ∧ w1.frozen? ⟨w.heap.size + 1, 2, none⟩ = false ∧ w1.frozen? ⟨w.heap.size + 1, 3, none⟩ = false ∧ w1.frozen? ⟨w.heap.size + 1, 4, none⟩ = false ∧ w1.frozen? ⟨w.heap.size + 1, 5, none⟩ = false ∧ w1.frozen? ⟨w.heap.size + 1, 6, none⟩ = false := ⟨hk1.frozen 0, hk1.frozen 1, hk1.frozen 2, hk1.frozen 3, hk1.frozen 4, hk1.frozen 5, hk1.frozen 6⟩
  have H1 := Lib.hid (And.intro ho1 (And.intro hb1 (And.intro hk0 hk1)))
  clear ho1 hb1 hk0 hk1 hg1
  try simp only [Nat.zero_add]
  go_wp2
  refine bodyPost_ret (v := .agg #[.int .i64 room, .int .i64 start, .slice A1 l.length c1, .int .i64 lv, .int .i64 ra, .int .i64 dr, .int .i64 lo]) ?_ rfl ?_
  · simp [results, Tryd.results149, go_sem, z0, z1, z2, z3, z4, z5, z6, x0, x1, x2, x3, x4, x5, x6]
  · refine ⟨A1, c1, rfl, ?_, ?_⟩
    · exact own_set7 (own_set_blk H1.out.1 H1.out.2.2.1 (by decide) 2 _) (H1.out.2.2.2.far (p := ⟨w.heap.size, 2, none⟩) (by simp) _) (by decide) _ _ _ _ _ _ _
    · have hB := H1.out.2.1
      repeat' (first | (with_reducible exact Below.refl _ _) | (with_reducible assumption) | (with_reducible refine Below.alloc ?_ ?_ _) | (with_reducible refine Below.setCell ?_ ?_ _) | (with_reducible refine Below.drew ?_) | (with_reducible refine below_drewN ?_ _) | (refine Below.trans ?_ (Below.mono (by with_reducible assumption) ?_)) | omega | (simp; done) | (simp; omega))
end Go.Proofs.YtbkgofjajhplpaaDoor
