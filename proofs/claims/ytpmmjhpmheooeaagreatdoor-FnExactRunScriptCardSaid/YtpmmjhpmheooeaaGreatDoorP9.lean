/- Texts of the proof, joined: BookOk, Drunk. -/
import Derived.Test.YtpmmjhpmheooeaaGreatDoorP8
namespace Go.Proofs.YtpmmjhpmheooeaaGreatDoor
set_option linter.unusedSimpArgs false
set_option linter.unusedVariables false
section
open Go.RowKit
def bookOk (b : Bk) : Bool := (countBk b.room b.start b.evs).2.2.2.2 && ((countBk b.room b.start b.evs).1 == b.level) && ((countBk b.room b.start b.evs).2.1 == b.rained) && ((countBk b.room b.start b.evs).2.2.1 == b.drunk) && ((countBk b.room b.start b.evs).2.2.2.1 == b.lost)
theorem bookOk_eq {b : Bk} {v r d l : Int} {ok : Bool} (h : countBk b.room b.start b.evs = (v, r, d, l, ok)) : bookOk b = (ok && (v == b.level) && (r == b.rained) && (d == b.drunk) && (l == b.lost)) := by
 unfold bookOk; rw [h]
theorem countBk_no {room start : Int} {l : List T3} (h : inB room 1 1000000 = false ∨ inB start 0 room = false ∨ ¬ l.length ≤ 40) : countBk room start l = (start, 0, 0, 0, false) := by
 unfold countBk
 rcases h with h | h | h
 ·rw [h]; rfl
 ·rw [h]; simp
 ·simp [h]
theorem countBk_yes {room start : Int} {l : List T3} (h1 : inB room 1 1000000 = true) (h2 : inB start 0 room = true) (h3 : l.length ≤ 40) : countBk room start l = runEv room l start 0 0 0 := by
 unfold countBk; rw [h1, h2]; simp [h3]
set_option maxHeartbeats 1600000 in
theorem BookOkS_any (A : Option Addr) (c : Nat) (b : Bk) (w : World) (h : RdT w w.heap.size A c b.evs) (hs : b.evs.length ≤ 1048576) :
  Calls Tryz.prog 78 #[b.val A c] w fun e w' => e = .returned (.bool (bookOk b)) ∧ Below w.heap.size w w' := by
 obtain ⟨room, start, l, lv, ra, dr, lo⟩ := b
 unfold Bk.val
 simp only at h hs ⊢
 obtain ⟨v, r, d, lt, ok, he⟩ : ∃ v r d lt ok, countBk room start l = (v, r, d, lt, ok) := ⟨_, _, _, _, _, rfl⟩
 have hbe := bookOk_eq (b := ⟨room, start, l, lv, ra, dr, lo⟩) he
 simp only at hbe
 have hcall := fun (W : World) (hb : Below w.heap.size w W) => l37Count_any A c room start lv ra dr lo l W (h.below hb) hs
 rw [he] at hcall
 have HCALL := Lib.hid hcall
 have HBE := Lib.hid hbe
 clear hcall he hbe
 cases ok
 ·skip
  go_enter Tryz.func78, Tryz.ntmps78
  go_wp2_with (go_at_call 108; refine (HCALL.out _ (by exact tacT)).mono ?_; rintro e w1 ⟨A1, c1, rfl, ho1, hb1⟩; have hz1 := hb1.size; have hz2 : w.heap.size < w1.heap.size := (by simp at hz1; omega); obtain ⟨hc1, hf1⟩ := bcell hb1; have k3 : w1.cell? ⟨w.heap.size, 3, none⟩ = some (.int .i64 lv) := (by rw [hc1 _ _ (by simp)]; simp [go_sem]); have k4 : w1.cell? ⟨w.heap.size, 4, none⟩ = some (.int .i64 ra) := (by rw [hc1 _ _ (by simp)]; simp [go_sem]); have k5 : w1.cell? ⟨w.heap.size, 5, none⟩ = some (.int .i64 dr) := (by rw [hc1 _ _ (by simp)]; simp [go_sem]); have k6 : w1.cell? ⟨w.heap.size, 6, none⟩ = some (.int .i64 lo) := (by rw [hc1 _ _ (by simp)]; simp [go_sem]); clear hc1 hf1 ho1)
  go_ret
  exact ⟨ret_bool (by rw [HBE.out]; rfl), by exact tacT⟩
 by_cases e3 : v = lv
 case neg =>
  have q3 : (v == lv) = false := by simpa using e3
  go_enter Tryz.func78, Tryz.ntmps78
  go_wp2_with (go_at_call 108; refine (HCALL.out _ (by exact tacT)).mono ?_; rintro e w1 ⟨A1, c1, rfl, ho1, hb1⟩; have hz1 := hb1.size; have hz2 : w.heap.size < w1.heap.size := (by simp at hz1; omega); obtain ⟨hc1, hf1⟩ := bcell hb1; have k3 : w1.cell? ⟨w.heap.size, 3, none⟩ = some (.int .i64 lv) := (by rw [hc1 _ _ (by simp)]; simp [go_sem]); have k4 : w1.cell? ⟨w.heap.size, 4, none⟩ = some (.int .i64 ra) := (by rw [hc1 _ _ (by simp)]; simp [go_sem]); have k5 : w1.cell? ⟨w.heap.size, 5, none⟩ = some (.int .i64 dr) := (by rw [hc1 _ _ (by simp)]; simp [go_sem]); have k6 : w1.cell? ⟨w.heap.size, 6, none⟩ = some (.int .i64 lo) := (by rw [hc1 _ _ (by simp)]; simp [go_sem]); clear hc1 hf1 ho1)
  go_ret
  exact ⟨ret_bool (by rw [HBE.out]; simp [e3]), by exact tacT⟩
 by_cases e4 : r = ra
 case neg =>
  have q4 : (r == ra) = false := by simpa using e4
  have q3 : (v == lv) = true := by simpa using e3
  clear e3
  go_enter Tryz.func78, Tryz.ntmps78
  go_wp2_with (go_at_call 108; refine (HCALL.out _ (by exact tacT)).mono ?_; rintro e w1 ⟨A1, c1, rfl, ho1, hb1⟩; have hz1 := hb1.size; have hz2 : w.heap.size < w1.heap.size := (by simp at hz1; omega); obtain ⟨hc1, hf1⟩ := bcell hb1; have k3 : w1.cell? ⟨w.heap.size, 3, none⟩ = some (.int .i64 lv) := (by rw [hc1 _ _ (by simp)]; simp [go_sem]); have k4 : w1.cell? ⟨w.heap.size, 4, none⟩ = some (.int .i64 ra) := (by rw [hc1 _ _ (by simp)]; simp [go_sem]); have k5 : w1.cell? ⟨w.heap.size, 5, none⟩ = some (.int .i64 dr) := (by rw [hc1 _ _ (by simp)]; simp [go_sem]); have k6 : w1.cell? ⟨w.heap.size, 6, none⟩ = some (.int .i64 lo) := (by rw [hc1 _ _ (by simp)]; simp [go_sem]); clear hc1 hf1 ho1)
  go_ret
  exact ⟨ret_bool (by rw [HBE.out]; simp [e4]), by exact tacT⟩
 by_cases e5 : d = dr
 case neg =>
  have q5 : (d == dr) = false := by simpa using e5
  have q3 : (v == lv) = true := by simpa using e3
  have q4 : (r == ra) = true := by simpa using e4
  clear e3 e4
  go_enter Tryz.func78, Tryz.ntmps78
  go_wp2_with (go_at_call 108; refine (HCALL.out _ (by exact tacT)).mono ?_; rintro e w1 ⟨A1, c1, rfl, ho1, hb1⟩; have hz1 := hb1.size; have hz2 : w.heap.size < w1.heap.size := (by simp at hz1; omega); obtain ⟨hc1, hf1⟩ := bcell hb1; have k3 : w1.cell? ⟨w.heap.size, 3, none⟩ = some (.int .i64 lv) := (by rw [hc1 _ _ (by simp)]; simp [go_sem]); have k4 : w1.cell? ⟨w.heap.size, 4, none⟩ = some (.int .i64 ra) := (by rw [hc1 _ _ (by simp)]; simp [go_sem]); have k5 : w1.cell? ⟨w.heap.size, 5, none⟩ = some (.int .i64 dr) := (by rw [hc1 _ _ (by simp)]; simp [go_sem]); have k6 : w1.cell? ⟨w.heap.size, 6, none⟩ = some (.int .i64 lo) := (by rw [hc1 _ _ (by simp)]; simp [go_sem]); clear hc1 hf1 ho1)
  go_ret
  exact ⟨ret_bool (by rw [HBE.out]; simp [e5]), by exact tacT⟩
 have q3 : (v == lv) = true := by simpa using e3
 have q4 : (r == ra) = true := by simpa using e4
 have q5 : (d == dr) = true := by simpa using e5
 clear e3 e4 e5
 go_enter Tryz.func78, Tryz.ntmps78
 go_wp2_with (go_at_call 108; refine (HCALL.out _ (by exact tacT)).mono ?_; rintro e w1 ⟨A1, c1, rfl, ho1, hb1⟩; have hz1 := hb1.size; have hz2 : w.heap.size < w1.heap.size := (by simp at hz1; omega); obtain ⟨hc1, hf1⟩ := bcell hb1; have k3 : w1.cell? ⟨w.heap.size, 3, none⟩ = some (.int .i64 lv) := (by rw [hc1 _ _ (by simp)]; simp [go_sem]); have k4 : w1.cell? ⟨w.heap.size, 4, none⟩ = some (.int .i64 ra) := (by rw [hc1 _ _ (by simp)]; simp [go_sem]); have k5 : w1.cell? ⟨w.heap.size, 5, none⟩ = some (.int .i64 dr) := (by rw [hc1 _ _ (by simp)]; simp [go_sem]); have k6 : w1.cell? ⟨w.heap.size, 6, none⟩ = some (.int .i64 lo) := (by rw [hc1 _ _ (by simp)]; simp [go_sem]); clear hc1 hf1 ho1)
 go_ret
 exact ⟨ret_bool (by rw [HBE.out]; simp [q3, q4, q5]), by exact tacT⟩
set_option maxHeartbeats 1600000 in
theorem BookOk_any (A : Option Addr) (c : Nat) (b : Bk) (w : World) (h : RdT w w.heap.size A c b.evs) :
  Calls Tryz.prog 62 #[b.val A c] w fun e w' => e = .returned (.bool (bookOk b)) ∧ Below w.heap.size w w' := by
 obtain ⟨room, start, l, lv, ra, dr, lo⟩ := b
 unfold Bk.val
 simp only at h ⊢
 cases h1 : inB room 1 1000000
 ·skip
  have hbe : bookOk ⟨room, start, l, lv, ra, dr, lo⟩ = false := by unfold bookOk; simp only; rw [countBk_no (.inl h1)]; rfl
  have HBE := Lib.hid hbe; clear hbe
  go_enter Tryz.func62, Tryz.ntmps62
  go_wp2_with (go_at_call 97; refine (within_any _ _ _ _).mono ?_; rintro e w' ⟨rfl, rfl⟩)
  go_ret
  exact ⟨ret_bool HBE.out.symm, by exact tacT⟩
 cases h2 : inB start 0 room
 ·skip
  have hbe : bookOk ⟨room, start, l, lv, ra, dr, lo⟩ = false := by unfold bookOk; simp only; rw [countBk_no (.inr (.inl h2))]; rfl
  have HBE := Lib.hid hbe; clear hbe
  go_enter Tryz.func62, Tryz.ntmps62
  go_wp2_with (go_at_call 97; refine (within_any _ _ _ _).mono ?_; rintro e w' ⟨rfl, rfl⟩)
  go_ret
  exact ⟨ret_bool HBE.out.symm, by exact tacT⟩
 by_cases h40 : (40 : Int) < l.length
 ·skip
  have hbe : bookOk ⟨room, start, l, lv, ra, dr, lo⟩ = false := by unfold bookOk; simp only; rw [countBk_no (.inr (.inr (by omega)))]; rfl
  have HBE := Lib.hid hbe; clear hbe
  go_enter Tryz.func62, Tryz.ntmps62
  go_wp2_with (go_at_call 97; refine (within_any _ _ _ _).mono ?_; rintro e w' ⟨rfl, rfl⟩)
  go_ret
  exact ⟨ret_bool HBE.out.symm, by exact tacT⟩
 have h41 : l.length ≤ 40 := by omega
 obtain ⟨v, r, d, lt, ok, he⟩ : ∃ v r d lt ok, countBk room start l = (v, r, d, lt, ok) := ⟨_, _, _, _, _, rfl⟩
 have hbe := bookOk_eq (b := ⟨room, start, l, lv, ra, dr, lo⟩) he
 simp only at hbe
 rw [countBk_yes h1 h2 h41] at he
 have hcall := fun (W : World) (hb : Below w.heap.size w W) => counted_any room start A c l W (h.below hb) (by omega)
 rw [he] at hcall
 have HCALL := Lib.hid hcall
 have HBE := Lib.hid hbe
 clear hcall he hbe
 cases ok
 ·skip
  go_enter Tryz.func62, Tryz.ntmps62
  go_wp2_with (first | (go_at_call 97; refine (within_any _ _ _ _).mono ?_; rintro e w' ⟨rfl, rfl⟩) | (go_at_call 98; refine (HCALL.out _ (by exact tacT)).mono ?_; rintro e w1 ⟨A1, c1, rfl, ho1, hb1⟩; have hz1 := hb1.size; have hz2 : w.heap.size < w1.heap.size := (by simp at hz1; omega); obtain ⟨hc1, hf1⟩ := bcell hb1; have k3 : w1.cell? ⟨w.heap.size, 3, none⟩ = some (.int .i64 lv) := (by rw [hc1 _ _ (by simp)]; simp [go_sem]); have k4 : w1.cell? ⟨w.heap.size, 4, none⟩ = some (.int .i64 ra) := (by rw [hc1 _ _ (by simp)]; simp [go_sem]); have k5 : w1.cell? ⟨w.heap.size, 5, none⟩ = some (.int .i64 dr) := (by rw [hc1 _ _ (by simp)]; simp [go_sem]); have k6 : w1.cell? ⟨w.heap.size, 6, none⟩ = some (.int .i64 lo) := (by rw [hc1 _ _ (by simp)]; simp [go_sem]); clear hc1 hf1 ho1))
  go_ret
  exact ⟨ret_bool (by rw [HBE.out]; rfl), by exact tacT⟩
 by_cases e3 : v = lv
 case neg =>
  have q3 : (v == lv) = false := by simpa using e3
  go_enter Tryz.func62, Tryz.ntmps62
  go_wp2_with (first | (go_at_call 97; refine (within_any _ _ _ _).mono ?_; rintro e w' ⟨rfl, rfl⟩) | (go_at_call 98; refine (HCALL.out _ (by exact tacT)).mono ?_; rintro e w1 ⟨A1, c1, rfl, ho1, hb1⟩; have hz1 := hb1.size; have hz2 : w.heap.size < w1.heap.size := (by simp at hz1; omega); obtain ⟨hc1, hf1⟩ := bcell hb1; have k3 : w1.cell? ⟨w.heap.size, 3, none⟩ = some (.int .i64 lv) := (by rw [hc1 _ _ (by simp)]; simp [go_sem]); have k4 : w1.cell? ⟨w.heap.size, 4, none⟩ = some (.int .i64 ra) := (by rw [hc1 _ _ (by simp)]; simp [go_sem]); have k5 : w1.cell? ⟨w.heap.size, 5, none⟩ = some (.int .i64 dr) := (by rw [hc1 _ _ (by simp)]; simp [go_sem]); have k6 : w1.cell? ⟨w.heap.size, 6, none⟩ = some (.int .i64 lo) := (by rw [hc1 _ _ (by simp)]; simp [go_sem]); clear hc1 hf1 ho1))
  go_ret
  exact ⟨ret_bool (by rw [HBE.out]; simp [e3]), by exact tacT⟩
 by_cases e4 : r = ra
 case neg =>
  have q4 : (r == ra) = false := by simpa using e4
  have q3 : (v == lv) = true := by simpa using e3
  clear e3
  go_enter Tryz.func62, Tryz.ntmps62
  go_wp2_with (first | (go_at_call 97; refine (within_any _ _ _ _).mono ?_; rintro e w' ⟨rfl, rfl⟩) | (go_at_call 98; refine (HCALL.out _ (by exact tacT)).mono ?_; rintro e w1 ⟨A1, c1, rfl, ho1, hb1⟩; have hz1 := hb1.size; have hz2 : w.heap.size < w1.heap.size := (by simp at hz1; omega); obtain ⟨hc1, hf1⟩ := bcell hb1; have k3 : w1.cell? ⟨w.heap.size, 3, none⟩ = some (.int .i64 lv) := (by rw [hc1 _ _ (by simp)]; simp [go_sem]); have k4 : w1.cell? ⟨w.heap.size, 4, none⟩ = some (.int .i64 ra) := (by rw [hc1 _ _ (by simp)]; simp [go_sem]); have k5 : w1.cell? ⟨w.heap.size, 5, none⟩ = some (.int .i64 dr) := (by rw [hc1 _ _ (by simp)]; simp [go_sem]); have k6 : w1.cell? ⟨w.heap.size, 6, none⟩ = some (.int .i64 lo) := (by rw [hc1 _ _ (by simp)]; simp [go_sem]); clear hc1 hf1 ho1))
  go_ret
  exact ⟨ret_bool (by rw [HBE.out]; simp [e4]), by exact tacT⟩
 by_cases e5 : d = dr
 case neg =>
  have q5 : (d == dr) = false := by simpa using e5
  have q3 : (v == lv) = true := by simpa using e3
  have q4 : (r == ra) = true := by simpa using e4
  clear e3 e4
  go_enter Tryz.func62, Tryz.ntmps62
  go_wp2_with (first | (go_at_call 97; refine (within_any _ _ _ _).mono ?_; rintro e w' ⟨rfl, rfl⟩) | (go_at_call 98; refine (HCALL.out _ (by exact tacT)).mono ?_; rintro e w1 ⟨A1, c1, rfl, ho1, hb1⟩; have hz1 := hb1.size; have hz2 : w.heap.size < w1.heap.size := (by simp at hz1; omega); obtain ⟨hc1, hf1⟩ := bcell hb1; have k3 : w1.cell? ⟨w.heap.size, 3, none⟩ = some (.int .i64 lv) := (by rw [hc1 _ _ (by simp)]; simp [go_sem]); have k4 : w1.cell? ⟨w.heap.size, 4, none⟩ = some (.int .i64 ra) := (by rw [hc1 _ _ (by simp)]; simp [go_sem]); have k5 : w1.cell? ⟨w.heap.size, 5, none⟩ = some (.int .i64 dr) := (by rw [hc1 _ _ (by simp)]; simp [go_sem]); have k6 : w1.cell? ⟨w.heap.size, 6, none⟩ = some (.int .i64 lo) := (by rw [hc1 _ _ (by simp)]; simp [go_sem]); clear hc1 hf1 ho1))
  go_ret
  exact ⟨ret_bool (by rw [HBE.out]; simp [e5]), by exact tacT⟩
 have q3 : (v == lv) = true := by simpa using e3
 have q4 : (r == ra) = true := by simpa using e4
 have q5 : (d == dr) = true := by simpa using e5
 clear e3 e4 e5
 go_enter Tryz.func62, Tryz.ntmps62
 go_wp2_with (first | (go_at_call 97; refine (within_any _ _ _ _).mono ?_; rintro e w' ⟨rfl, rfl⟩) | (go_at_call 98; refine (HCALL.out _ (by exact tacT)).mono ?_; rintro e w1 ⟨A1, c1, rfl, ho1, hb1⟩; have hz1 := hb1.size; have hz2 : w.heap.size < w1.heap.size := (by simp at hz1; omega); obtain ⟨hc1, hf1⟩ := bcell hb1; have k3 : w1.cell? ⟨w.heap.size, 3, none⟩ = some (.int .i64 lv) := (by rw [hc1 _ _ (by simp)]; simp [go_sem]); have k4 : w1.cell? ⟨w.heap.size, 4, none⟩ = some (.int .i64 ra) := (by rw [hc1 _ _ (by simp)]; simp [go_sem]); have k5 : w1.cell? ⟨w.heap.size, 5, none⟩ = some (.int .i64 dr) := (by rw [hc1 _ _ (by simp)]; simp [go_sem]); have k6 : w1.cell? ⟨w.heap.size, 6, none⟩ = some (.int .i64 lo) := (by rw [hc1 _ _ (by simp)]; simp [go_sem]); clear hc1 hf1 ho1))
 go_ret
 exact ⟨ret_bool (by rw [HBE.out]; simp [q3, q4, q5]), by exact tacT⟩
end
section
open Go.RowKit
def drunkGo (kk : Int) : List T3 → Int → Int
 | [], n => n
 |t :: r, n => drunkGo kk r (if t.x = 2 ∧ t.z = kk then wrap64 (n + t.y) else n)
theorem drunkGo_cons (kk : Int) (t : T3) (r : List T3) (n : Int) : drunkGo kk (t :: r) n = drunkGo kk r (if t.x = 2 ∧ t.z = kk then wrap64 (n + t.y) else n) := rfl
def drunkBy (b : Bk) (kk : Int) : Int := if bookOk b = true then drunkGo kk b.evs 0 else -1
set_option maxHeartbeats 1600000 in
theorem DrunkBy_any (A : Option Addr) (c : Nat) (b : Bk) (kk : Int) (w : World) (h : RdT w w.heap.size A c b.evs) :
  Calls Tryz.prog 73 #[b.val A c, .int .i64 kk] w fun e w' => e = .returned (.int .i64 (drunkBy b kk)) ∧ Below w.heap.size w w' := by
 obtain ⟨hl, hm⟩ := h.le
 have hcall := fun (W : World) (hb : Below w.heap.size w W) => BookOk_any A c b W (h.below hb)
 obtain ⟨R, hR⟩ : ∃ R, R = drunkBy b kk := ⟨_, rfl⟩
 rw [← hR]
 unfold drunkBy at hR
 cases hq : bookOk b
 ·rw [hq] at hcall hR
  obtain ⟨room, start, l, lv, ra, dr, lo⟩ := b
  unfold Bk.val at hcall ⊢
  simp only at h hl hcall ⊢
  have HCALL := Lib.hid (And.intro hcall hR); clear hcall hR hq
  go_enter Tryz.func73, Tryz.ntmps73
  go_wp2_with (go_at_call 62; refine (HCALL.out.1 _ (by exact tacT)).mono ?_; rintro e w1 ⟨rfl, hb1⟩; have hz1 := hb1.size; have hz2 : w.heap.size < w1.heap.size := (by simp at hz1; omega))
  go_ret
  exact ⟨ret_int HCALL.out.2.symm, by exact tacT⟩
 rw [hq] at hcall hR
 obtain ⟨room, start, l, lv, ra, dr, lo⟩ := b
 unfold Bk.val at hcall ⊢
 simp only [if_true] at h hl hcall hR ⊢
 have HCALL := Lib.hid (And.intro hcall hR); clear hcall hR hq
 go_enter Tryz.func73, Tryz.ntmps73
 go_wp2_with (go_at_call 62; refine (HCALL.out.1 _ (by exact tacT)).mono ?_; rintro e w1 ⟨rfl, hb1⟩; have hz1 := hb1.size; have hz2 : w.heap.size < w1.heap.size := (by simp at hz1; omega); have hB1 : Below w.heap.size w w1 := (by exact tacT); obtain ⟨hc1, hf1⟩ := bcell hb1; have k2 : w1.cell? ⟨w.heap.size, 2, none⟩ = some (.slice A l.length c) := (by rw [hc1 _ _ (by simp)]; simp [go_sem]); clear hc1 hf1)
 go_loopw [5, 14] (fun n i wr => ∃ (k : Nat) (m : Int), k ≤ l.length ∧ i = .int .i64 k ∧ n = .int .i64 m ∧ drunkGo kk (l.drop k) m = R ∧ Below w.heap.size w wr) (fun _ i _ => l.length - (intOf i).toNat)
 case atStart => exact ⟨0, 0, Nat.zero_le _, rfl, rfl, HCALL.out.2.symm, hB1⟩
 case round =>
  obtain ⟨k, m, hk, rfl, rfl, hr, hB⟩ := hrel
  by_cases hlt : k < l.length
  ·obtain ⟨b, o, t, rfl, hbb, hx, e0, e1, e2⟩ := h.at_ hlt
   have f0 : wr.cell? ⟨b, o + k * 3, none⟩ = some (.int .i64 t.x) := (hB.cell (p := ⟨b, _, none⟩) hbb).trans e0
   have f1 : wr.cell? ⟨b, o + k * 3 + 1, none⟩ = some (.int .i64 t.y) := (hB.cell (p := ⟨b, _, none⟩) hbb).trans e1
   have f2 : wr.cell? ⟨b, o + k * 3 + 2, none⟩ = some (.int .i64 t.z) := (hB.cell (p := ⟨b, _, none⟩) hbb).trans e2
   clear e0 e1 e2
   have hwz := hB.size
   have hbr : b < wr.heap.size := by omega
   rw [drop_cons hx, drunkGo_cons] at hr
   by_cases h2 : t.x = 2
   ·by_cases h3 : t.z = kk
    ·rw [if_pos ⟨h2, h3⟩] at hr
     have HX := Lib.hid (And.intro hr hB); clear hr hB hx
     rw [h2] at f0
     rw [h3] at f2
     go_wp2
     go_roundw
     case rel => exact ⟨k + 1, wrap64 (m + t.y), by omega, by go_num, rfl, HX.out.1, HX.out.2.alloc (by omega) _⟩
     case measure => simp [intOf]; omega
    ·rw [if_neg (fun e => h3 e.2)] at hr
     have HX := Lib.hid (And.intro hr hB); clear hr hB hx
     rw [h2] at f0
     go_wp2
     go_roundw
     case rel => exact ⟨k + 1, m, by omega, by go_num, rfl, HX.out.1, HX.out.2.alloc (by omega) _⟩
     case measure => simp [intOf]; omega
   ·rw [if_neg (fun e => h2 e.1)] at hr
    have HX := Lib.hid (And.intro hr hB); clear hr hB hx
    go_wp2
    go_roundw
    case rel => exact ⟨k + 1, m, by omega, by go_num, rfl, HX.out.1, HX.out.2.alloc (by omega) _⟩
    case measure => simp [intOf]; omega
  ·have e1 : R = m := by rw [← hr, drop_end hlt]; rfl
   go_wp2
   go_ret
   exact ⟨ret_int e1.symm, hB⟩
set_option maxHeartbeats 1600000 in
theorem DrunkByS_any (A : Option Addr) (c : Nat) (b : Bk) (kk : Int) (w : World) (h : RdT w w.heap.size A c b.evs) (hs : b.evs.length ≤ 1048576) :
  Calls Tryz.prog 88 #[b.val A c, .int .i64 kk] w fun e w' => e = .returned (.int .i64 (drunkBy b kk)) ∧ Below w.heap.size w w' := by
 obtain ⟨hl, hm⟩ := h.le
 have hcall := fun (W : World) (hb : Below w.heap.size w W) => BookOkS_any A c b W (h.below hb) hs
 obtain ⟨R, hR⟩ : ∃ R, R = drunkBy b kk := ⟨_, rfl⟩
 rw [← hR]
 unfold drunkBy at hR
 cases hq : bookOk b
 ·rw [hq] at hcall hR
  obtain ⟨room, start, l, lv, ra, dr, lo⟩ := b
  unfold Bk.val at hcall ⊢
  simp only at h hl hcall ⊢
  have HCALL := Lib.hid (And.intro hcall hR); clear hcall hR hq
  go_enter Tryz.func88, Tryz.ntmps88
  go_wp2_with (go_at_call 78; refine (HCALL.out.1 _ (by exact tacT)).mono ?_; rintro e w1 ⟨rfl, hb1⟩; have hz1 := hb1.size; have hz2 : w.heap.size < w1.heap.size := (by simp at hz1; omega))
  go_ret
  exact ⟨ret_int HCALL.out.2.symm, by exact tacT⟩
 rw [hq] at hcall hR
 obtain ⟨room, start, l, lv, ra, dr, lo⟩ := b
 unfold Bk.val at hcall ⊢
 simp only [if_true] at h hl hcall hR ⊢
 have HCALL := Lib.hid (And.intro hcall hR); clear hcall hR hq
 go_enter Tryz.func88, Tryz.ntmps88
 go_wp2_with (go_at_call 78; refine (HCALL.out.1 _ (by exact tacT)).mono ?_; rintro e w1 ⟨rfl, hb1⟩; have hz1 := hb1.size; have hz2 : w.heap.size < w1.heap.size := (by simp at hz1; omega); have hB1 : Below w.heap.size w w1 := (by exact tacT); obtain ⟨hc1, hf1⟩ := bcell hb1; have k2 : w1.cell? ⟨w.heap.size, 2, none⟩ = some (.slice A l.length c) := (by rw [hc1 _ _ (by simp)]; simp [go_sem]); clear hc1 hf1)
 go_loopw [5, 6] (fun n i wr => ∃ (k : Nat) (m : Int), k ≤ l.length ∧ i = .int .i64 k ∧ n = .int .i64 m ∧ drunkGo kk (l.drop k) m = R ∧ w1 = wr) (fun _ i _ => l.length - (intOf i).toNat)
 case atStart => exact ⟨0, 0, Nat.zero_le _, rfl, rfl, HCALL.out.2.symm, rfl⟩
 case round =>
  obtain ⟨k, m, hk, rfl, rfl, hr, rfl⟩ := hrel
  by_cases hlt : k < l.length
  ·obtain ⟨b, o, t, rfl, hbb, hx, e0, e1, e2⟩ := h.at_ hlt
   have f0 : w1.cell? ⟨b, o + k * 3, none⟩ = some (.int .i64 t.x) := (hB1.cell (p := ⟨b, _, none⟩) hbb).trans e0
   have f1 : w1.cell? ⟨b, o + k * 3 + 1, none⟩ = some (.int .i64 t.y) := (hB1.cell (p := ⟨b, _, none⟩) hbb).trans e1
   have f2 : w1.cell? ⟨b, o + k * 3 + 2, none⟩ = some (.int .i64 t.z) := (hB1.cell (p := ⟨b, _, none⟩) hbb).trans e2
   clear e0 e1 e2
   have hbr : b < w1.heap.size := by omega
   rw [drop_cons hx, drunkGo_cons] at hr
   by_cases h2 : t.x = 2
   ·by_cases h3 : t.z = kk
    ·rw [if_pos ⟨h2, h3⟩] at hr
     have HX := Lib.hid hr; clear hr hx
     rw [h2] at f0
     rw [h3] at f2
     go_wp2
     go_roundw
     case rel => exact ⟨k + 1, wrap64 (m + t.y), by omega, by go_num, rfl, HX.out, trivial⟩
     case measure => simp [intOf]; omega
    ·rw [if_neg (fun e => h3 e.2)] at hr
     have HX := Lib.hid hr; clear hr hx
     rw [h2] at f0
     go_wp2
     go_roundw
     case rel => exact ⟨k + 1, m, by omega, by go_num, rfl, HX.out, trivial⟩
     case measure => simp [intOf]; omega
   ·rw [if_neg (fun e => h2 e.1)] at hr
    have HX := Lib.hid hr; clear hr hx
    go_wp2
    go_roundw
    case rel => exact ⟨k + 1, m, by omega, by go_num, rfl, HX.out, trivial⟩
    case measure => simp [intOf]; omega
  ·have e1 : R = m := by rw [← hr, drop_end hlt]; rfl
   go_wp2
   go_ret
   exact ⟨ret_int e1.symm, hB1⟩
end
end Go.Proofs.YtpmmjhpmheooeaaGreatDoor
