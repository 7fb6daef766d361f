/- BookOk. -/
import Derived.Test.YtbkgofjajhplpaaDoorCount
namespace Go.Proofs.YtbkgofjajhplpaaDoor
set_option linter.unusedSimpArgs false
set_option linter.unusedVariables false
open Go.RowKit
def bookOk (b : Bk) : Bool := (countBk b.room b.start b.evs).2.2.2.2 && ((countBk b.room b.start b.evs).1 == b.level) && ((countBk b.room b.start b.evs).2.1 == b.rained) && ((countBk b.room b.start b.evs).2.2.1 == b.drunk) && ((countBk b.room b.start b.evs).2.2.2.1 == b.lost)
theorem bookOk_eq {b : Bk} {v r d l : Int} {ok : Bool} (h : countBk b.room b.start b.evs = (v, r, d, l, ok)) : bookOk b = (ok && (v == b.level) && (r == b.rained) && (d == b.drunk) && (l == b.lost)) := by
  unfold bookOk; rw [h]
theorem countBk_no {room start : Int} {l : List T3} (h : inB room 1 1000000 = false ∨ inB start 0 room = false ∨ ¬ l.length ≤ 40) : countBk room start l = (start, 0, 0, 0, false) := by
  unfold countBk
  rcases h with h | h | h
  · rw [h]; rfl
  · rw [h]; simp
  · simp [h]
theorem countBk_yes {room start : Int} {l : List T3} (h1 : inB room 1 1000000 = true) (h2 : inB start 0 room = true) (h3 : l.length ≤ 40) : countBk room start l = runEv room l start 0 0 0 := by
  unfold countBk; rw [h1, h2]; simp [h3]
set_option maxHeartbeats 1600000 in
theorem BookOkS_any (A : Option Addr) (c : Nat) (b : Bk) (w : World) (h : RdT w w.heap.size A c b.evs) (hs : b.evs.length ≤ 1048576) :
    Calls Tryd.prog 87 #[b.val A c] w fun e w' => e = .returned (.bool (bookOk b)) ∧ Below w.heap.size w w' := by
  obtain ⟨room, start, l, lv, ra, dr, lo⟩ := b
  unfold Bk.val
  simp only at h hs ⊢
  obtain ⟨v, r, d, lt, ok, he⟩ : ∃ v r d lt ok, countBk room start l = (v, r, d, lt, ok) := ⟨_, _, _, _, _, rfl⟩
  have hbe := bookOk_eq (b := ⟨room, start, l, lv, ra, dr, lo⟩) he
  simp only at hbe
  have hcall := fun (W : World) (hb : Below w.heap.size w W) => l37Count_any A c room start lv ra dr lo l W (h.below hb) hs
  rw [he] at hcall
  have HCALL := Lib.hid hcall
  have HBE := Lib.hid hbe
  clear hcall he hbe
  cases ok
  · skip
    go_enter Tryd.func87, Tryd.ntmps87
    go_wp2_with (go_at_call 117; refine (HCALL.out _ (by repeat' (first | (with_reducible exact Below.refl _ _) | (with_reducible assumption) | (with_reducible refine Below.alloc ?_ ?_ _) | (with_reducible refine Below.setCell ?_ ?_ _) | (with_reducible refine Below.drew ?_) | (with_reducible refine below_drewN ?_ _) | (refine Below.trans ?_ (Below.mono (by with_reducible assumption) ?_)) | omega | (simp; done) | (simp; omega)))).mono ?_; rintro e w1 ⟨A1, c1, rfl, ho1, hb1⟩; have hz1 := hb1.size; have hz2 : w.heap.size < w1.heap.size := (by simp at hz1; omega); obtain ⟨hc1, hf1⟩ := bcell hb1; have k3 : w1.cell? ⟨w.heap.size, 3, none⟩ = some (.int .i64 lv) := (by rw [hc1 _ _ (by simp)]; simp [go_sem]); have k4 : w1.cell? ⟨w.heap.size, 4, none⟩ = some (.int .i64 ra) := (by rw [hc1 _ _ (by simp)]; simp [go_sem]); have k5 : w1.cell? ⟨w.heap.size, 5, none⟩ = some (.int .i64 dr) := (by rw [hc1 _ _ (by simp)]; simp [go_sem]); have k6 : w1.cell? ⟨w.heap.size, 6, none⟩ = some (.int .i64 lo) := (by rw [hc1 _ _ (by simp)]; simp [go_sem]); clear hc1 hf1 ho1)
    go_ret
    exact ⟨ret_bool (by rw [HBE.out]; rfl), by repeat' (first | (with_reducible exact Below.refl _ _) | (with_reducible assumption) | (with_reducible refine Below.alloc ?_ ?_ _) | (with_reducible refine Below.setCell ?_ ?_ _) | (with_reducible refine Below.drew ?_) | (with_reducible refine below_drewN ?_ _) | (refine Below.trans ?_ (Below.mono (by with_reducible assumption) ?_)) | omega | (simp; done) | (simp; omega))⟩
  by_cases e3 : v = lv
  case neg =>
    have q3 : (v == lv) = false := by simpa using e3
    go_enter Tryd.func87, Tryd.ntmps87
    go_wp2_with (go_at_call 117; refine (HCALL.out _ (by repeat' (first | (with_reducible exact Below.refl _ _) | (with_reducible assumption) | (with_reducible refine Below.alloc ?_ ?_ _) | (with_reducible refine Below.setCell ?_ ?_ _) | (with_reducible refine Below.drew ?_) | (with_reducible refine below_drewN ?_ _) | (refine Below.trans ?_ (Below.mono (by with_reducible assumption) ?_)) | omega | (simp; done) | (simp; omega)))).mono ?_; rintro e w1 ⟨A1, c1, rfl, ho1, hb1⟩; have hz1 := hb1.size; have hz2 : w.heap.size < w1.heap.size := (by simp at hz1; omega); obtain ⟨hc1, hf1⟩ := bcell hb1; have k3 : w1.cell? ⟨w.heap.size, 3, none⟩ = some (.int .i64 lv) := (by rw [hc1 _ _ (by simp)]; simp [go_sem]); have k4 : w1.cell? ⟨w.heap.size, 4, none⟩ = some (.int .i64 ra) := (by rw [hc1 _ _ (by simp)]; simp [go_sem]); have k5 : w1.cell? ⟨w.heap.size, 5, none⟩ = some (.int .i64 dr) := (by rw [hc1 _ _ (by simp)]; simp [go_sem]); have k6 : w1.cell? ⟨w.heap.size, 6, none⟩ = some (.int .i64 lo) := (by rw [hc1 _ _ (by simp)]; simp [go_sem]); clear hc1 hf1 ho1)
    go_ret
    exact ⟨ret_bool (by rw [HBE.out]; simp [e3]), by repeat' (first | (with_reducible exact Below.refl _ _) | (with_reducible assumption) | (with_reducible refine Below.alloc ?_ ?_ _) | (with_reducible refine Below.setCell ?_ ?_ _) | (with_reducible refine Below.drew ?_) | (with_reducible refine below_drewN ?_ _) | (refine Below.trans ?_ (Below.mono (by with_reducible assumption) ?_)) | omega | (simp; done) | (simp; omega))⟩
  by_cases e4 : r = ra
  case neg =>
    have q4 : (r == ra) = false := by simpa using e4
    have q3 : (v == lv) = true := by simpa using e3
    clear e3
    go_enter Tryd.func87, Tryd.ntmps87
    go_wp2_with (go_at_call 117; refine (HCALL.out _ (by repeat' (first | (with_reducible exact Below.refl _ _) | (with_reducible assumption) | (with_reducible refine Below.alloc ?_ ?_ _) | (with_reducible refine Below.setCell ?_ ?_ _) | (with_reducible refine Below.drew ?_) | (with_reducible refine below_drewN ?_ _) | (refine Below.trans ?_ (Below.mono (by with_reducible assumption) ?_)) | omega | (simp; done) | (simp; omega)))).mono ?_; rintro e w1 ⟨A1, c1, rfl, ho1, hb1⟩; have hz1 := hb1.size; have hz2 : w.heap.size < w1.heap.size := (by simp at hz1; omega); obtain ⟨hc1, hf1⟩ := bcell hb1; have k3 : w1.cell? ⟨w.heap.size, 3, none⟩ = some (.int .i64 lv) := (by rw [hc1 _ _ (by simp)]; simp [go_sem]); have k4 : w1.cell? ⟨w.heap.size, 4, none⟩ = some (.int .i64 ra) := (by rw [hc1 _ _ (by simp)]; simp [go_sem]); have k5 : w1.cell? ⟨w.heap.size, 5, none⟩ = some (.int .i64 dr) := (by rw [hc1 _ _ (by simp)]; simp [go_sem]); have k6 : w1.cell? ⟨w.heap.size, 6, none⟩ = some (.int .i64 lo) := (by rw [hc1 _ _ (by simp)]; simp [go_sem]); clear hc1 hf1 ho1)
    go_ret
    exact ⟨ret_bool (by rw [HBE.out]; simp [e4]), by repeat' (first | (with_reducible exact Below.refl _ _) | (with_reducible assumption) | (with_reducible refine Below.alloc ?_ ?_ _) | (with_reducible refine Below.setCell ?_ ?_ _) | (with_reducible refine Below.drew ?_) | (with_reducible refine below_drewN ?_ _) | (refine Below.trans ?_ (Below.mono (by with_reducible assumption) ?_)) | omega | (simp; done) | (simp; omega))⟩
  by_cases e5 : d = dr
  case neg =>
    have q5 : (d == dr) = false := by simpa using e5
    have q3 : (v == lv) = true := by simpa using e3
    have q4 : (r == ra) = true := by simpa using e4
    clear e3 e4
    go_enter Tryd.func87, Tryd.ntmps87
    go_wp2_with (go_at_call 117; refine (HCALL.out _ (by repeat' (first | (with_reducible exact Below.refl _ _) | (with_reducible assumption) | (with_reducible refine Below.alloc ?_ ?_ _) | (with_reducible refine Below.setCell ?_ ?_ _) | (with_reducible refine Below.drew ?_) | (with_reducible refine below_drewN ?_ _) | (refine Below.trans ?_ (Below.mono (by with_reducible assumption) ?_)) | omega | (simp; done) | (simp; omega)))).mono ?_; rintro e w1 ⟨A1, c1, rfl, ho1, hb1⟩; have hz1 := hb1.size; have hz2 : w.heap.size < w1.heap.size := (by simp at hz1; omega); obtain ⟨hc1, hf1⟩ := bcell hb1; have k3 : w1.cell? ⟨w.heap.size, 3, none⟩ = some (.int .i64 lv) := (by rw [hc1 _ _ (by simp)]; simp [go_sem]); have k4 : w1.cell? ⟨w.heap.size, 4, none⟩ = some (.int .i64 ra) := (by rw [hc1 _ _ (by simp)]; simp [go_sem]); have k5 : w1.cell? ⟨w.heap.size, 5, none⟩ = some (.int .i64 dr) := (by rw [hc1 _ _ (by simp)]; simp [go_sem]); have k6 : w1.cell? ⟨w.heap.size, 6, none⟩ = some (.int .i64 lo) := (by rw [hc1 _ _ (by simp)]; simp [go_sem]); clear hc1 hf1 ho1)
    go_ret
    exact ⟨ret_bool (by rw [HBE.out]; simp [e5]), by repeat' (first | (with_reducible exact Below.refl _ _) | (with_reducible assumption) | (with_reducible refine Below.alloc ?_ ?_ _) | (with_reducible refine Below.setCell ?_ ?_ _) | (with_reducible refine Below.drew ?_) | (with_reducible refine below_drewN ?_ _) | (refine Below.trans ?_ (Below.mono (by with_reducible assumption) ?_)) | omega | (simp; done) | (simp; omega))⟩
  have q3 : (v == lv) = true := by simpa using e3
  have q4 : (r == ra) = true := by simpa using e4
  have q5 : (d == dr) = true := by simpa using e5
  clear e3 e4 e5
  go_enter Tryd.func87, Tryd.ntmps87
  go_wp2_with (go_at_call 117; refine (HCALL.out _ (by repeat' (first | (with_reducible exact Below.refl _ _) | (with_reducible assumption) | (with_reducible refine Below.alloc ?_ ?_ _) | (with_reducible refine Below.setCell ?_ ?_ _) | (with_reducible refine Below.drew ?_) | (with_reducible refine below_drewN ?_ _) | (refine Below.trans ?_ (Below.mono (by with_reducible assumption) ?_)) | omega | (simp; done) | (simp; omega)))).mono ?_; rintro e w1 ⟨A1, c1, rfl, ho1, hb1⟩; have hz1 := hb1.size; have hz2 : w.heap.size < w1.heap.size := (by simp at hz1; omega); obtain ⟨hc1, hf1⟩ := bcell hb1; have k3 : w1.cell? ⟨w.heap.size, 3, none⟩ = some (.int .i64 lv) := (by rw [hc1 _ _ (by simp)]; simp [go_sem]); have k4 : w1.cell? ⟨w.heap.size, 4, none⟩ = some (.int .i64 ra) := (by rw [hc1 _ _ (by simp)]; simp [go_sem]); have k5 : w1.cell? ⟨w.heap.size, 5, none⟩ = some (.int .i64 dr) := (by rw [hc1 _ _ (by simp)]; simp [go_sem]); have k6 : w1.cell? ⟨w.heap.size, 6, none⟩ = some (.int .i64 lo) := (by rw [hc1 _ _ (by simp)]; simp [go_sem]); clear hc1 hf1 ho1)
  go_ret
  exact ⟨ret_bool (by rw [HBE.out]; simp [q3, q4, q5]), by repeat' (first | (with_reducible exact Below.refl _ _) | (with_reducible assumption) | (with_reducible refine Below.alloc ?_ ?_ _) | (with_reducible refine Below.setCell ?_ ?_ _) | (with_reducible refine Below.drew ?_) | (with_reducible refine below_drewN ?_ _) | (refine Below.trans ?_ (Below.mono (by with_reducible assumption) ?_)) | omega | (simp; done) | (simp; omega))⟩
set_option maxHeartbeats 1600000 in
theorem BookOk_any (A : Option Addr) (c : Nat) (b : Bk) (w : World) (h : RdT w w.heap.size A c b.evs) :
    Calls Tryd.prog 93 #[b.val A c] w fun e w' => e = .returned (.bool (bookOk b)) ∧ Below w.heap.size w w' := by
  obtain ⟨room, start, l, lv, ra, dr, lo⟩ := b
  unfold Bk.val
  simp only at h ⊢
  cases h1 : inB room 1 1000000
  · skip
    have hbe : bookOk ⟨room, start, l, lv, ra, dr, lo⟩ = false := by unfold bookOk; simp only; rw [countBk_no (.inl h1)]; rfl
    have HBE := Lib.hid hbe; clear hbe
    go_enter Tryd.func93, Tryd.ntmps93
    go_wp2_with (go_at_call 71; refine (within_any _ _ _ _).mono ?_; rintro e w' ⟨rfl, rfl⟩)
    go_ret
    exact ⟨ret_bool HBE.out.symm, by repeat' (first | (with_reducible exact Below.refl _ _) | (with_reducible assumption) | (with_reducible refine Below.alloc ?_ ?_ _) | (with_reducible refine Below.setCell ?_ ?_ _) | (with_reducible refine Below.drew ?_) | (with_reducible refine below_drewN ?_ _) | (refine Below.trans ?_ (Below.mono (by with_reducible assumption) ?_)) | omega | (simp; done) | (simp; omega))⟩
  cases h2 : inB start 0 room
  · skip
    have hbe : bookOk ⟨room, start, l, lv, ra, dr, lo⟩ = false := by unfold bookOk; simp only; rw [countBk_no (.inr (.inl h2))]; rfl
    have HBE := Lib.hid hbe; clear hbe
    go_enter Tryd.func93, Tryd.ntmps93
    go_wp2_with (go_at_call 71; refine (within_any _ _ _ _).mono ?_; rintro e w' ⟨rfl, rfl⟩)
    go_ret
    exact ⟨ret_bool HBE.out.symm, by repeat' (first | (with_reducible exact Below.refl _ _) | (with_reducible assumption) | (with_reducible refine Below.alloc ?_ ?_ _) | (with_reducible refine Below.setCell ?_ ?_ _) | (with_reducible refine Below.drew ?_) | (with_reducible refine below_drewN ?_ _) | (refine Below.trans ?_ (Below.mono (by with_reducible assumption) ?_)) | omega | (simp; done) | (simp; omega))⟩
  by_cases h40 : (40 : Int) < l.length
  · skip
    have hbe : bookOk ⟨room, start, l, lv, ra, dr, lo⟩ = false := by unfold bookOk; simp only; rw [countBk_no (.inr (.inr (by omega)))]; rfl
    have HBE := Lib.hid hbe; clear hbe
    go_enter Tryd.func93, Tryd.ntmps93
    go_wp2_with (go_at_call 71; refine (within_any _ _ _ _).mono ?_; rintro e w' ⟨rfl, rfl⟩)
    go_ret
    exact ⟨ret_bool HBE.out.symm, by repeat' (first | (with_reducible exact Below.refl _ _) | (with_reducible assumption) | (with_reducible refine Below.alloc ?_ ?_ _) | (with_reducible refine Below.setCell ?_ ?_ _) | (with_reducible refine Below.drew ?_) | (with_reducible refine below_drewN ?_ _) | (refine Below.trans ?_ (Below.mono (by with_reducible assumption) ?_)) | omega | (simp; done) | (simp; omega))⟩
  have h41 : l.length ≤ 40 := by omega
  obtain ⟨v, r, d, lt, ok, he⟩ : ∃ v r d lt ok, countBk room start l = (v, r, d, lt, ok) := ⟨_, _, _, _, _, rfl⟩
  have hbe := bookOk_eq (b := ⟨room, start, l, lv, ra, dr, lo⟩) he
  simp only at hbe
  rw [countBk_yes h1 h2 h41] at he
  have hcall := fun (W : World) (hb : Below w.heap.size w W) => counted_any room start A c l W (h.below hb) (by omega)
  rw [he] at hcall
  have HCALL := Lib.hid hcall
  have HBE := Lib.hid hbe
  clear hcall he hbe
  cases ok
  · skip
    go_enter Tryd.func93, Tryd.ntmps93
    go_wp2_with (first | (go_at_call 71; refine (within_any _ _ _ _).mono ?_; rintro e w' ⟨rfl, rfl⟩) | (go_at_call 120; refine (HCALL.out _ (by repeat' (first | (with_reducible exact Below.refl _ _) | (with_reducible assumption) | (with_reducible refine Below.alloc ?_ ?_ _) | (with_reducible refine Below.setCell ?_ ?_ _) | (with_reducible refine Below.drew ?_) | (with_reducible refine below_drewN ?_ _) | (refine Below.trans ?_ (Below.mono (by with_reducible assumption) ?_)) | omega | (simp; done) | (simp; omega)))).mono ?_; rintro e w1 ⟨A1, c1, rfl, ho1, hb1⟩; have hz1 := hb1.size; have hz2 : w.heap.size < w1.heap.size := (by simp at hz1; omega); obtain ⟨hc1, hf1⟩ := bcell hb1; have k3 : w1.cell? ⟨w.heap.size, 3, none⟩ = some (.int .i64 lv) := (by rw [hc1 _ _ (by simp)]; simp [go_sem]); have k4 : w1.cell? ⟨w.heap.size, 4, none⟩ = some (.int .i64 ra) := (by rw [hc1 _ _ (by simp)]; simp [go_sem]); have k5 : w1.cell? ⟨w.heap.size, 5, none⟩ = some (.int .i64 dr) := (by rw [hc1 _ _ (by simp)]; simp [go_sem]); have k6 : w1.cell? ⟨w.heap.size, 6, none⟩ = some (.int .i64 lo) := (by rw [hc1 _ _ (by simp)]; simp [go_sem]); clear hc1 hf1 ho1))
    go_ret
    exact ⟨ret_bool (by rw [HBE.out]; rfl), by repeat' (first | (with_reducible exact Below.refl _ _) | (with_reducible assumption) | (with_reducible refine Below.alloc ?_ ?_ _) | (with_reducible refine Below.setCell ?_ ?_ _) | (with_reducible refine Below.drew ?_) | (with_reducible refine below_drewN ?_ _) | (refine Below.trans ?_ (Below.mono (by with_reducible assumption) ?_)) | omega | (simp; done) | (simp; omega))⟩
  by_cases e3 : v = lv
  case neg =>
    have q3 : (v == lv) = false := by simpa using e3
    go_enter Tryd.func93, Tryd.ntmps93
    go_wp2_with (first | (go_at_call 71; refine (within_any _ _ _ _).mono ?_; rintro e w' ⟨rfl, rfl⟩) | (go_at_call 120; refine (HCALL.out _ (by repeat' (first | (with_reducible exact Below.refl _ _) | (with_reducible assumption) | (with_reducible refine Below.alloc ?_ ?_ _) | (with_reducible refine Below.setCell ?_ ?_ _) | (with_reducible refine Below.drew ?_) | (with_reducible refine below_drewN ?_ _) | (refine Below.trans ?_ (Below.mono (by with_reducible assumption) ?_)) | omega | (simp; done) | (simp; omega)))).mono ?_; rintro e w1 ⟨A1, c1, rfl, ho1, hb1⟩; have hz1 := hb1.size; have hz2 : w.heap.size < w1.heap.size := (by simp at hz1; omega); obtain ⟨hc1, hf1⟩ := bcell hb1; have k3 : w1.cell? ⟨w.heap.size, 3, none⟩ = some (.int .i64 lv) := (by rw [hc1 _ _ (by simp)]; simp [go_sem]); have k4 : w1.cell? ⟨w.heap.size, 4, none⟩ = some (.int .i64 ra) := (by rw [hc1 _ _ (by simp)]; simp [go_sem]); have k5 : w1.cell? ⟨w.heap.size, 5, none⟩ = some (.int .i64 dr) := (by rw [hc1 _ _ (by simp)]; simp [go_sem]); have k6 : w1.cell? ⟨w.heap.size, 6, none⟩ = some (.int .i64 lo) := (by rw [hc1 _ _ (by simp)]; simp [go_sem]); clear hc1 hf1 ho1))
    go_ret
    exact ⟨ret_bool (by rw [HBE.out]; simp [e3]), by repeat' (first | (with_reducible exact Below.refl _ _) | (with_reducible assumption) | (with_reducible refine Below.alloc ?_ ?_ _) | (with_reducible refine Below.setCell ?_ ?_ _) | (with_reducible refine Below.drew ?_) | (with_reducible refine below_drewN ?_ _) | (refine Below.trans ?_ (Below.mono (by with_reducible assumption) ?_)) | omega | (simp; done) | (simp; omega))⟩
  by_cases e4 : r = ra
  case neg =>
    have q4 : (r == ra) = false := by simpa using e4
    have q3 : (v == lv) = true := by simpa using e3
    clear e3
    go_enter Tryd.func93, Tryd.ntmps93
    go_wp2_with (first | (go_at_call 71; refine (within_any _ _ _ _).mono ?_; rintro e w' ⟨rfl, rfl⟩) | (go_at_call 120; refine (HCALL.out _ (by repeat' (first | (with_reducible exact Below.refl _ _) | (with_reducible assumption) | (with_reducible refine Below.alloc ?_ ?_ _) | (with_reducible refine Below.setCell ?_ ?_ _) | (with_reducible refine Below.drew ?_) | (with_reducible refine below_drewN ?_ _) | (refine Below.trans ?_ (Below.mono (by with_reducible assumption) ?_)) | omega | (simp; done) | (simp; omega)))).mono ?_; rintro e w1 ⟨A1, c1, rfl, ho1, hb1⟩; have hz1 := hb1.size; have hz2 : w.heap.size < w1.heap.size := (by simp at hz1; omega); obtain ⟨hc1, hf1⟩ := bcell hb1; have k3 : w1.cell? ⟨w.heap.size, 3, none⟩ = some (.int .i64 lv) := (by rw [hc1 _ _ (by simp)]; simp [go_sem]); have k4 : w1.cell? ⟨w.heap.size, 4, none⟩ = some (.int .i64 ra) := (by rw [hc1 _ _ (by simp)]; simp [go_sem]); have k5 : w1.cell? ⟨w.heap.size, 5, none⟩ = some (.int .i64 dr) := (by rw [hc1 _ _ (by simp)]; simp [go_sem]); have k6 : w1.cell? ⟨w.heap.size, 6, none⟩ = some (.int .i64 lo) := (by rw [hc1 _ _ (by simp)]; simp [go_sem]); clear hc1 hf1 ho1))
    go_ret
    exact ⟨ret_bool (by rw [HBE.out]; simp [e4]), by repeat' (first | (with_reducible exact Below.refl _ _) | (with_reducible assumption) | (with_reducible refine Below.alloc ?_ ?_ _) | (with_reducible refine Below.setCell ?_ ?_ _) | (with_reducible refine Below.drew ?_) | (with_reducible refine below_drewN ?_ _) | (refine Below.trans ?_ (Below.mono (by with_reducible assumption) ?_)) | omega | (simp; done) | (simp; omega))⟩
  by_cases e5 : d = dr
  case neg =>
    have q5 : (d == dr) = false := by simpa using e5
    have q3 : (v == lv) = true := by simpa using e3
    have q4 : (r == ra) = true := by simpa using e4
    clear e3 e4
    go_enter Tryd.func93, Tryd.ntmps93
    go_wp2_with (first | (go_at_call 71; refine (within_any _ _ _ _).mono ?_; rintro e w' ⟨rfl, rfl⟩) | (go_at_call 120; refine (HCALL.out _ (by repeat' (first | (with_reducible exact Below.refl _ _) | (with_reducible assumption) | (with_reducible refine Below.alloc ?_ ?_ _) | (with_reducible refine Below.setCell ?_ ?_ _) | (with_reducible refine Below.drew ?_) | (with_reducible refine below_drewN ?_ _) | (refine Below.trans ?_ (Below.mono (by with_reducible assumption) ?_)) | omega | (simp; done) | (simp; omega)))).mono ?_; rintro e w1 ⟨A1, c1, rfl, ho1, hb1⟩; have hz1 := hb1.size; have hz2 : w.heap.size < w1.heap.size := (by simp at hz1; omega); obtain ⟨hc1, hf1⟩ := bcell hb1; have k3 : w1.cell? ⟨w.heap.size, 3, none⟩ = some (.int .i64 lv) := (by rw [hc1 _ _ (by simp)]; simp [go_sem]); have k4 : w1.cell? ⟨w.heap.size, 4, none⟩ = some (.int .i64 ra) := (by rw [hc1 _ _ (by simp)]; simp [go_sem]); have k5 : w1.cell? ⟨w.heap.size, 5, none⟩ = some (.int .i64 dr) := (by rw [hc1 _ _ (by simp)]; simp [go_sem]); have k6 : w1.cell? ⟨w.heap.size, 6, none⟩ = some (.int .i64 lo) := (by rw [hc1 _ _ (by simp)]; simp [go_sem]); clear hc1 hf1 ho1))
    go_ret
    exact ⟨ret_bool (by rw [HBE.out]; simp [e5]), by repeat' (first | (with_reducible exact Below.refl _ _) | (with_reducible assumption) | (with_reducible refine Below.alloc ?_ ?_ _) | (with_reducible refine Below.setCell ?_ ?_ _) | (with_reducible refine Below.drew ?_) | (with_reducible refine below_drewN ?_ _) | (refine Below.trans ?_ (Below.mono (by with_reducible assumption) ?_)) | omega | (simp; done) | (simp; omega))⟩
  have q3 : (v == lv) = true := by simpa using e3
  have q4 : (r == ra) = true := by simpa using e4
  have q5 : (d == dr) = true := by simpa using e5
  clear e3 e4 e5
  go_enter Tryd.func93, Tryd.ntmps93
  go_wp2_with (first | (go_at_call 71; refine (within_any _ _ _ _).mono ?_; rintro e w' ⟨rfl, rfl⟩) | (go_at_call 120; refine (HCALL.out _ (by repeat' (first | (with_reducible exact Below.refl _ _) | (with_reducible assumption) | (with_reducible refine Below.alloc ?_ ?_ _) | (with_reducible refine Below.setCell ?_ ?_ _) | (with_reducible refine Below.drew ?_) | (with_reducible refine below_drewN ?_ _) | (refine Below.trans ?_ (Below.mono (by with_reducible assumption) ?_)) | omega | (simp; done) | (simp; omega)))).mono ?_; rintro e w1 ⟨A1, c1, rfl, ho1, hb1⟩; have hz1 := hb1.size; have hz2 : w.heap.size < w1.heap.size := (by simp at hz1; omega); obtain ⟨hc1, hf1⟩ := bcell hb1; have k3 : w1.cell? ⟨w.heap.size, 3, none⟩ = some (.int .i64 lv) := (by rw [hc1 _ _ (by simp)]; simp [go_sem]); have k4 : w1.cell? ⟨w.heap.size, 4, none⟩ = some (.int .i64 ra) := (by rw [hc1 _ _ (by simp)]; simp [go_sem]); have k5 : w1.cell? ⟨w.heap.size, 5, none⟩ = some (.int .i64 dr) := (by rw [hc1 _ _ (by simp)]; simp [go_sem]); have k6 : w1.cell? ⟨w.heap.size, 6, none⟩ = some (.int .i64 lo) := (by rw [hc1 _ _ (by simp)]; simp [go_sem]); clear hc1 hf1 ho1))
  go_ret
  exact ⟨ret_bool (by rw [HBE.out]; simp [q3, q4, q5]), by repeat' (first | (with_reducible exact Below.refl _ _) | (with_reducible assumption) | (with_reducible refine Below.alloc ?_ ?_ _) | (with_reducible refine Below.setCell ?_ ?_ _) | (with_reducible refine Below.drew ?_) | (with_reducible refine below_drewN ?_ _) | (refine Below.trans ?_ (Below.mono (by with_reducible assumption) ?_)) | omega | (simp; done) | (simp; omega))⟩
end Go.Proofs.YtbkgofjajhplpaaDoor
