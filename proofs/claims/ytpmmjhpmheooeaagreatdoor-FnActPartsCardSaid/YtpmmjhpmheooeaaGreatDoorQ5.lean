/- Texts of the proof, joined: BookOk, CopyBook, Strike. -/
import Derived.Test.YtpmmjhpmheooeaaGreatDoorQ4
namespace Go.Proofs.YtpmmjhpmheooeaaGreatDoor
set_option linter.unusedSimpArgs false
set_option linter.unusedVariables false
section
open Go.RowKit
def bookOk (b : Bk) : Bool := (countBk b.room b.start b.evs).2.2.2.2 && ((countBk b.room b.start b.evs).1 == b.level) && ((countBk b.room b.start b.evs).2.1 == b.rained) && ((countBk b.room b.start b.evs).2.2.1 == b.drunk) && ((countBk b.room b.start b.evs).2.2.2.1 == b.lost)
theorem bookOk_eq {b : Bk} {v r d l : Int} {ok : Bool} (h : countBk b.room b.start b.evs = (v, r, d, l, ok)) : bookOk b = (ok && (v == b.level) && (r == b.rained) && (d == b.drunk) && (l == b.lost)) := by
 unfold bookOk; rw [h]
theorem countBk_no {room start : Int} {l : List T3} (h : inB room 1 1000000 = false ∨ inB start 0 room = false ∨ ¬ l.length ≤ 40) : countBk room start l = (start, 0, 0, 0, false) := by
 unfold countBk
 rcases h with h | h | h
 ·rw [h]; rfl
 ·rw [h]; simp
 ·simp [h]
theorem countBk_yes {room start : Int} {l : List T3} (h1 : inB room 1 1000000 = true) (h2 : inB start 0 room = true) (h3 : l.length ≤ 40) : countBk room start l = runEv room l start 0 0 0 := by
 unfold countBk; rw [h1, h2]; simp [h3]
set_option maxHeartbeats 1600000 in
theorem BookOkS_any (A : Option Addr) (c : Nat) (b : Bk) (w : World) (h : RdT w w.heap.size A c b.evs) (hs : b.evs.length ≤ 1048576) :
  Calls Tryz.prog 78 #[b.val A c] w fun e w' => e = .returned (.bool (bookOk b)) ∧ Below w.heap.size w w' := by
 obtain ⟨room, start, l, lv, ra, dr, lo⟩ := b
 unfold Bk.val
 simp only at h hs ⊢
 obtain ⟨v, r, d, lt, ok, he⟩ : ∃ v r d lt ok, countBk room start l = (v, r, d, lt, ok) := ⟨_, _, _, _, _, rfl⟩
 have hbe := bookOk_eq (b := ⟨room, start, l, lv, ra, dr, lo⟩) he
 simp only at hbe
 have hcall := fun (W : World) (hb : Below w.heap.size w W) => l37Count_any A c room start lv ra dr lo l W (h.below hb) hs
 rw [he] at hcall
 have HCALL := Lib.hid hcall
 have HBE := Lib.hid hbe
 clear hcall he hbe
 cases ok
 ·skip
  go_enter Tryz.func78, Tryz.ntmps78
  go_wp2_with (go_at_call 108; refine (HCALL.out _ (by exact tacT)).mono ?_; rintro e w1 ⟨A1, c1, rfl, ho1, hb1⟩; have hz1 := hb1.size; have hz2 : w.heap.size < w1.heap.size := (by simp at hz1; omega); obtain ⟨hc1, hf1⟩ := bcell hb1; have k3 : w1.cell? ⟨w.heap.size, 3, none⟩ = some (.int .i64 lv) := (by rw [hc1 _ _ (by simp)]; simp [go_sem]); have k4 : w1.cell? ⟨w.heap.size, 4, none⟩ = some (.int .i64 ra) := (by rw [hc1 _ _ (by simp)]; simp [go_sem]); have k5 : w1.cell? ⟨w.heap.size, 5, none⟩ = some (.int .i64 dr) := (by rw [hc1 _ _ (by simp)]; simp [go_sem]); have k6 : w1.cell? ⟨w.heap.size, 6, none⟩ = some (.int .i64 lo) := (by rw [hc1 _ _ (by simp)]; simp [go_sem]); clear hc1 hf1 ho1)
  go_ret
  exact ⟨ret_bool (by rw [HBE.out]; rfl), by exact tacT⟩
 by_cases e3 : v = lv
 case neg =>
  have q3 : (v == lv) = false := by simpa using e3
  go_enter Tryz.func78, Tryz.ntmps78
  go_wp2_with (go_at_call 108; refine (HCALL.out _ (by exact tacT)).mono ?_; rintro e w1 ⟨A1, c1, rfl, ho1, hb1⟩; have hz1 := hb1.size; have hz2 : w.heap.size < w1.heap.size := (by simp at hz1; omega); obtain ⟨hc1, hf1⟩ := bcell hb1; have k3 : w1.cell? ⟨w.heap.size, 3, none⟩ = some (.int .i64 lv) := (by rw [hc1 _ _ (by simp)]; simp [go_sem]); have k4 : w1.cell? ⟨w.heap.size, 4, none⟩ = some (.int .i64 ra) := (by rw [hc1 _ _ (by simp)]; simp [go_sem]); have k5 : w1.cell? ⟨w.heap.size, 5, none⟩ = some (.int .i64 dr) := (by rw [hc1 _ _ (by simp)]; simp [go_sem]); have k6 : w1.cell? ⟨w.heap.size, 6, none⟩ = some (.int .i64 lo) := (by rw [hc1 _ _ (by simp)]; simp [go_sem]); clear hc1 hf1 ho1)
  go_ret
  exact ⟨ret_bool (by rw [HBE.out]; simp [e3]), by exact tacT⟩
 by_cases e4 : r = ra
 case neg =>
  have q4 : (r == ra) = false := by simpa using e4
  have q3 : (v == lv) = true := by simpa using e3
  clear e3
  go_enter Tryz.func78, Tryz.ntmps78
  go_wp2_with (go_at_call 108; refine (HCALL.out _ (by exact tacT)).mono ?_; rintro e w1 ⟨A1, c1, rfl, ho1, hb1⟩; have hz1 := hb1.size; have hz2 : w.heap.size < w1.heap.size := (by simp at hz1; omega); obtain ⟨hc1, hf1⟩ := bcell hb1; have k3 : w1.cell? ⟨w.heap.size, 3, none⟩ = some (.int .i64 lv) := (by rw [hc1 _ _ (by simp)]; simp [go_sem]); have k4 : w1.cell? ⟨w.heap.size, 4, none⟩ = some (.int .i64 ra) := (by rw [hc1 _ _ (by simp)]; simp [go_sem]); have k5 : w1.cell? ⟨w.heap.size, 5, none⟩ = some (.int .i64 dr) := (by rw [hc1 _ _ (by simp)]; simp [go_sem]); have k6 : w1.cell? ⟨w.heap.size, 6, none⟩ = some (.int .i64 lo) := (by rw [hc1 _ _ (by simp)]; simp [go_sem]); clear hc1 hf1 ho1)
  go_ret
  exact ⟨ret_bool (by rw [HBE.out]; simp [e4]), by exact tacT⟩
 by_cases e5 : d = dr
 case neg =>
  have q5 : (d == dr) = false := by simpa using e5
  have q3 : (v == lv) = true := by simpa using e3
  have q4 : (r == ra) = true := by simpa using e4
  clear e3 e4
  go_enter Tryz.func78, Tryz.ntmps78
  go_wp2_with (go_at_call 108; refine (HCALL.out _ (by exact tacT)).mono ?_; rintro e w1 ⟨A1, c1, rfl, ho1, hb1⟩; have hz1 := hb1.size; have hz2 : w.heap.size < w1.heap.size := (by simp at hz1; omega); obtain ⟨hc1, hf1⟩ := bcell hb1; have k3 : w1.cell? ⟨w.heap.size, 3, none⟩ = some (.int .i64 lv) := (by rw [hc1 _ _ (by simp)]; simp [go_sem]); have k4 : w1.cell? ⟨w.heap.size, 4, none⟩ = some (.int .i64 ra) := (by rw [hc1 _ _ (by simp)]; simp [go_sem]); have k5 : w1.cell? ⟨w.heap.size, 5, none⟩ = some (.int .i64 dr) := (by rw [hc1 _ _ (by simp)]; simp [go_sem]); have k6 : w1.cell? ⟨w.heap.size, 6, none⟩ = some (.int .i64 lo) := (by rw [hc1 _ _ (by simp)]; simp [go_sem]); clear hc1 hf1 ho1)
  go_ret
  exact ⟨ret_bool (by rw [HBE.out]; simp [e5]), by exact tacT⟩
 have q3 : (v == lv) = true := by simpa using e3
 have q4 : (r == ra) = true := by simpa using e4
 have q5 : (d == dr) = true := by simpa using e5
 clear e3 e4 e5
 go_enter Tryz.func78, Tryz.ntmps78
 go_wp2_with (go_at_call 108; refine (HCALL.out _ (by exact tacT)).mono ?_; rintro e w1 ⟨A1, c1, rfl, ho1, hb1⟩; have hz1 := hb1.size; have hz2 : w.heap.size < w1.heap.size := (by simp at hz1; omega); obtain ⟨hc1, hf1⟩ := bcell hb1; have k3 : w1.cell? ⟨w.heap.size, 3, none⟩ = some (.int .i64 lv) := (by rw [hc1 _ _ (by simp)]; simp [go_sem]); have k4 : w1.cell? ⟨w.heap.size, 4, none⟩ = some (.int .i64 ra) := (by rw [hc1 _ _ (by simp)]; simp [go_sem]); have k5 : w1.cell? ⟨w.heap.size, 5, none⟩ = some (.int .i64 dr) := (by rw [hc1 _ _ (by simp)]; simp [go_sem]); have k6 : w1.cell? ⟨w.heap.size, 6, none⟩ = some (.int .i64 lo) := (by rw [hc1 _ _ (by simp)]; simp [go_sem]); clear hc1 hf1 ho1)
 go_ret
 exact ⟨ret_bool (by rw [HBE.out]; simp [q3, q4, q5]), by exact tacT⟩
set_option maxHeartbeats 1600000 in
theorem BookOk_any (A : Option Addr) (c : Nat) (b : Bk) (w : World) (h : RdT w w.heap.size A c b.evs) :
  Calls Tryz.prog 62 #[b.val A c] w fun e w' => e = .returned (.bool (bookOk b)) ∧ Below w.heap.size w w' := by
 obtain ⟨room, start, l, lv, ra, dr, lo⟩ := b
 unfold Bk.val
 simp only at h ⊢
 cases h1 : inB room 1 1000000
 ·skip
  have hbe : bookOk ⟨room, start, l, lv, ra, dr, lo⟩ = false := by unfold bookOk; simp only; rw [countBk_no (.inl h1)]; rfl
  have HBE := Lib.hid hbe; clear hbe
  go_enter Tryz.func62, Tryz.ntmps62
  go_wp2_with (go_at_call 97; refine (within_any _ _ _ _).mono ?_; rintro e w' ⟨rfl, rfl⟩)
  go_ret
  exact ⟨ret_bool HBE.out.symm, by exact tacT⟩
 cases h2 : inB start 0 room
 ·skip
  have hbe : bookOk ⟨room, start, l, lv, ra, dr, lo⟩ = false := by unfold bookOk; simp only; rw [countBk_no (.inr (.inl h2))]; rfl
  have HBE := Lib.hid hbe; clear hbe
  go_enter Tryz.func62, Tryz.ntmps62
  go_wp2_with (go_at_call 97; refine (within_any _ _ _ _).mono ?_; rintro e w' ⟨rfl, rfl⟩)
  go_ret
  exact ⟨ret_bool HBE.out.symm, by exact tacT⟩
 by_cases h40 : (40 : Int) < l.length
 ·skip
  have hbe : bookOk ⟨room, start, l, lv, ra, dr, lo⟩ = false := by unfold bookOk; simp only; rw [countBk_no (.inr (.inr (by omega)))]; rfl
  have HBE := Lib.hid hbe; clear hbe
  go_enter Tryz.func62, Tryz.ntmps62
  go_wp2_with (go_at_call 97; refine (within_any _ _ _ _).mono ?_; rintro e w' ⟨rfl, rfl⟩)
  go_ret
  exact ⟨ret_bool HBE.out.symm, by exact tacT⟩
 have h41 : l.length ≤ 40 := by omega
 obtain ⟨v, r, d, lt, ok, he⟩ : ∃ v r d lt ok, countBk room start l = (v, r, d, lt, ok) := ⟨_, _, _, _, _, rfl⟩
 have hbe := bookOk_eq (b := ⟨room, start, l, lv, ra, dr, lo⟩) he
 simp only at hbe
 rw [countBk_yes h1 h2 h41] at he
 have hcall := fun (W : World) (hb : Below w.heap.size w W) => counted_any room start A c l W (h.below hb) (by omega)
 rw [he] at hcall
 have HCALL := Lib.hid hcall
 have HBE := Lib.hid hbe
 clear hcall he hbe
 cases ok
 ·skip
  go_enter Tryz.func62, Tryz.ntmps62
  go_wp2_with (first | (go_at_call 97; refine (within_any _ _ _ _).mono ?_; rintro e w' ⟨rfl, rfl⟩) | (go_at_call 98; refine (HCALL.out _ (by exact tacT)).mono ?_; rintro e w1 ⟨A1, c1, rfl, ho1, hb1⟩; have hz1 := hb1.size; have hz2 : w.heap.size < w1.heap.size := (by simp at hz1; omega); obtain ⟨hc1, hf1⟩ := bcell hb1; have k3 : w1.cell? ⟨w.heap.size, 3, none⟩ = some (.int .i64 lv) := (by rw [hc1 _ _ (by simp)]; simp [go_sem]); have k4 : w1.cell? ⟨w.heap.size, 4, none⟩ = some (.int .i64 ra) := (by rw [hc1 _ _ (by simp)]; simp [go_sem]); have k5 : w1.cell? ⟨w.heap.size, 5, none⟩ = some (.int .i64 dr) := (by rw [hc1 _ _ (by simp)]; simp [go_sem]); have k6 : w1.cell? ⟨w.heap.size, 6, none⟩ = some (.int .i64 lo) := (by rw [hc1 _ _ (by simp)]; simp [go_sem]); clear hc1 hf1 ho1))
  go_ret
  exact ⟨ret_bool (by rw [HBE.out]; rfl), by exact tacT⟩
 by_cases e3 : v = lv
 case neg =>
  have q3 : (v == lv) = false := by simpa using e3
  go_enter Tryz.func62, Tryz.ntmps62
  go_wp2_with (first | (go_at_call 97; refine (within_any _ _ _ _).mono ?_; rintro e w' ⟨rfl, rfl⟩) | (go_at_call 98; refine (HCALL.out _ (by exact tacT)).mono ?_; rintro e w1 ⟨A1, c1, rfl, ho1, hb1⟩; have hz1 := hb1.size; have hz2 : w.heap.size < w1.heap.size := (by simp at hz1; omega); obtain ⟨hc1, hf1⟩ := bcell hb1; have k3 : w1.cell? ⟨w.heap.size, 3, none⟩ = some (.int .i64 lv) := (by rw [hc1 _ _ (by simp)]; simp [go_sem]); have k4 : w1.cell? ⟨w.heap.size, 4, none⟩ = some (.int .i64 ra) := (by rw [hc1 _ _ (by simp)]; simp [go_sem]); have k5 : w1.cell? ⟨w.heap.size, 5, none⟩ = some (.int .i64 dr) := (by rw [hc1 _ _ (by simp)]; simp [go_sem]); have k6 : w1.cell? ⟨w.heap.size, 6, none⟩ = some (.int .i64 lo) := (by rw [hc1 _ _ (by simp)]; simp [go_sem]); clear hc1 hf1 ho1))
  go_ret
  exact ⟨ret_bool (by rw [HBE.out]; simp [e3]), by exact tacT⟩
 by_cases e4 : r = ra
 case neg =>
  have q4 : (r == ra) = false := by simpa using e4
  have q3 : (v == lv) = true := by simpa using e3
  clear e3
  go_enter Tryz.func62, Tryz.ntmps62
  go_wp2_with (first | (go_at_call 97; refine (within_any _ _ _ _).mono ?_; rintro e w' ⟨rfl, rfl⟩) | (go_at_call 98; refine (HCALL.out _ (by exact tacT)).mono ?_; rintro e w1 ⟨A1, c1, rfl, ho1, hb1⟩; have hz1 := hb1.size; have hz2 : w.heap.size < w1.heap.size := (by simp at hz1; omega); obtain ⟨hc1, hf1⟩ := bcell hb1; have k3 : w1.cell? ⟨w.heap.size, 3, none⟩ = some (.int .i64 lv) := (by rw [hc1 _ _ (by simp)]; simp [go_sem]); have k4 : w1.cell? ⟨w.heap.size, 4, none⟩ = some (.int .i64 ra) := (by rw [hc1 _ _ (by simp)]; simp [go_sem]); have k5 : w1.cell? ⟨w.heap.size, 5, none⟩ = some (.int .i64 dr) := (by rw [hc1 _ _ (by simp)]; simp [go_sem]); have k6 : w1.cell? ⟨w.heap.size, 6, none⟩ = some (.int .i64 lo) := (by rw [hc1 _ _ (by simp)]; simp [go_sem]); clear hc1 hf1 ho1))
  go_ret
  exact ⟨ret_bool (by rw [HBE.out]; simp [e4]), by exact tacT⟩
 by_cases e5 : d = dr
 case neg =>
  have q5 : (d == dr) = false := by simpa using e5
  have q3 : (v == lv) = true := by simpa using e3
  have q4 : (r == ra) = true := by simpa using e4
  clear e3 e4
  go_enter Tryz.func62, Tryz.ntmps62
  go_wp2_with (first | (go_at_call 97; refine (within_any _ _ _ _).mono ?_; rintro e w' ⟨rfl, rfl⟩) | (go_at_call 98; refine (HCALL.out _ (by exact tacT)).mono ?_; rintro e w1 ⟨A1, c1, rfl, ho1, hb1⟩; have hz1 := hb1.size; have hz2 : w.heap.size < w1.heap.size := (by simp at hz1; omega); obtain ⟨hc1, hf1⟩ := bcell hb1; have k3 : w1.cell? ⟨w.heap.size, 3, none⟩ = some (.int .i64 lv) := (by rw [hc1 _ _ (by simp)]; simp [go_sem]); have k4 : w1.cell? ⟨w.heap.size, 4, none⟩ = some (.int .i64 ra) := (by rw [hc1 _ _ (by simp)]; simp [go_sem]); have k5 : w1.cell? ⟨w.heap.size, 5, none⟩ = some (.int .i64 dr) := (by rw [hc1 _ _ (by simp)]; simp [go_sem]); have k6 : w1.cell? ⟨w.heap.size, 6, none⟩ = some (.int .i64 lo) := (by rw [hc1 _ _ (by simp)]; simp [go_sem]); clear hc1 hf1 ho1))
  go_ret
  exact ⟨ret_bool (by rw [HBE.out]; simp [e5]), by exact tacT⟩
 have q3 : (v == lv) = true := by simpa using e3
 have q4 : (r == ra) = true := by simpa using e4
 have q5 : (d == dr) = true := by simpa using e5
 clear e3 e4 e5
 go_enter Tryz.func62, Tryz.ntmps62
 go_wp2_with (first | (go_at_call 97; refine (within_any _ _ _ _).mono ?_; rintro e w' ⟨rfl, rfl⟩) | (go_at_call 98; refine (HCALL.out _ (by exact tacT)).mono ?_; rintro e w1 ⟨A1, c1, rfl, ho1, hb1⟩; have hz1 := hb1.size; have hz2 : w.heap.size < w1.heap.size := (by simp at hz1; omega); obtain ⟨hc1, hf1⟩ := bcell hb1; have k3 : w1.cell? ⟨w.heap.size, 3, none⟩ = some (.int .i64 lv) := (by rw [hc1 _ _ (by simp)]; simp [go_sem]); have k4 : w1.cell? ⟨w.heap.size, 4, none⟩ = some (.int .i64 ra) := (by rw [hc1 _ _ (by simp)]; simp [go_sem]); have k5 : w1.cell? ⟨w.heap.size, 5, none⟩ = some (.int .i64 dr) := (by rw [hc1 _ _ (by simp)]; simp [go_sem]); have k6 : w1.cell? ⟨w.heap.size, 6, none⟩ = some (.int .i64 lo) := (by rw [hc1 _ _ (by simp)]; simp [go_sem]); clear hc1 hf1 ho1))
 go_ret
 exact ⟨ret_bool (by rw [HBE.out]; simp [q3, q4, q5]), by exact tacT⟩
end
section
open Go.RowKit
set_option maxHeartbeats 1600000 in
theorem copyBook_any (A : Option Addr) (c : Nat) (b : Bk) (w : World) (h : RdT w w.heap.size A c b.evs) (hs : b.evs.length ≤ 1048576) :
  Calls Tryz.prog 60 #[b.val A c] w fun e w' => ∃ A' c', e = .returned (b.val A' c') ∧ w'.ownsRow w.heap.size 120 3 (.slice A' b.evs.length c') b.evs.length (t3s b.evs) ∧ Below w.heap.size w w' := by
 obtain ⟨hl, hm⟩ := h.le
 obtain ⟨room, start, l, lv, ra, dr, lo⟩ := b
 unfold Bk.val
 simp only at h hl hs ⊢
 go_enter Tryz.func60, Tryz.ntmps60
 go_wp2_with (at_builtin; refine wpList_appAll rfl _ _ 30 rfl w.heap.size 120 (.agg #[.int .i64 0, .int .i64 0, .int .i64 0]) 3 24 Tryz.underlying30 infoEv rfl (by decide) (.slice none 0 0) 0 [] rfl (World.ownsRow_nil _ _ _ _) _ A l.length c (t3s l) rfl (h.below (by exact tacT)) (t3s_one l) (by omega) (by omega) (by exact ooT) ?_)
 intro A1 c1 w1 ho1 hg1
 try simp only [Nat.zero_add, List.nil_append] at ho1
 have hb1 : Below w.heap.size w w1 := Below.grown (by exact tacT) hg1 (by simp <;> omega) (by simp [Value.ownBlock])
 have hk0 : Blk w1 w.heap.size 32 #[.int .i64 room, .int .i64 start, .slice A l.length c, .int .i64 lv, .int .i64 ra, .int .i64 dr, .int .i64 lo] := Blk.grown (by exact blkT) hg1 (by simp [Value.ownBlock])
 have hk1 : Blk w1 (w.heap.size + 1) 32 #[.int .i64 0, .int .i64 0, .slice none 0 0, .int .i64 0, .int .i64 0, .int .i64 0, .int .i64 0] := Blk.grown (by exact blkT) hg1 (by simp [Value.ownBlock])
 have hz1 : w.heap.size + 1 < w1.heap.size := hk1.lt
 obtain ⟨z0, z1, z2, z3, z4, z5, z6⟩ : w1.cell? ⟨w.heap.size, 0, none⟩ = some (.int .i64 room) ∧ w1.cell? ⟨w.heap.size, 1, none⟩ = some (.int .i64 start) ∧ w1.cell? ⟨w.heap.size, 2, none⟩ = some (.slice A l.length c) ∧ w1.cell? ⟨w.heap.size, 3, none⟩ = some (.int .i64 lv) ∧ w1.cell? ⟨w.heap.size, 4, none⟩ = some (.int .i64 ra) ∧ w1.cell? ⟨w.heap.size, 5, none⟩ = some (.int .i64 dr) ∧ w1.cell? ⟨w.heap.size, 6, none⟩ = some (.int .i64 lo) := ⟨hk0.cell 0, hk0.cell 1, hk0.cell 2, hk0.cell 3, hk0.cell 4, hk0.cell 5, hk0.cell 6⟩
 have y2 : w1.frozen? ⟨w.heap.size, 2, none⟩ = false := hk0.frozen 2
 obtain ⟨x0, x1, x2, x3, x4, x5, x6⟩ : w1.cell? ⟨w.heap.size + 1, 0, none⟩ = some (.int .i64 0) ∧ w1.cell? ⟨w.heap.size + 1, 1, none⟩ = some (.int .i64 0) ∧ w1.cell? ⟨w.heap.size + 1, 2, none⟩ = some (.slice none 0 0) ∧ w1.cell? ⟨w.heap.size + 1, 3, none⟩ = some (.int .i64 0) ∧ w1.cell? ⟨w.heap.size + 1, 4, none⟩ = some (.int .i64 0) ∧ w1.cell? ⟨w.heap.size + 1, 5, none⟩ = some (.int .i64 0) ∧ w1.cell? ⟨w.heap.size + 1, 6, none⟩ = some (.int .i64 0) := ⟨hk1.cell 0, hk1.cell 1, hk1.cell 2, hk1.cell 3, hk1.cell 4, hk1.cell 5, hk1.cell 6⟩
 obtain ⟨y0, y1, y22, y3, y4, y5, y6⟩ : w1.frozen? ⟨w.heap.size + 1, 0, none⟩ = false ∧ w1.frozen? ⟨w.heap.size + 1, 1, none⟩ = false ∧ w1.frozen? ⟨w.heap.size + 1, 2, none⟩ = false ∧ w1.frozen? ⟨w.heap.size + 1, 3, none⟩ = false ∧ w1.frozen? ⟨w.heap.size + 1, 4, none⟩ = false ∧ w1.frozen? ⟨w.heap.size + 1, 5, none⟩ = false ∧ w1.frozen? ⟨w.heap.size + 1, 6, none⟩ = false := ⟨hk1.frozen 0, hk1.frozen 1, hk1.frozen 2, hk1.frozen 3, hk1.frozen 4, hk1.frozen 5, hk1.frozen 6⟩
 have H1 := Lib.hid (And.intro ho1 (And.intro hb1 (And.intro hk0 hk1)))
 clear ho1 hb1 hk0 hk1 hg1
 try simp only [Nat.zero_add]
 go_wp2
 refine bodyPost_ret (v := .agg #[.int .i64 room, .int .i64 start, .slice A1 l.length c1, .int .i64 lv, .int .i64 ra, .int .i64 dr, .int .i64 lo]) ?_ rfl ?_
 ·simp [results, Tryz.results60, go_sem, z0, z1, z2, z3, z4, z5, z6, x0, x1, x2, x3, x4, x5, x6]
 ·refine ⟨A1, c1, rfl, ?_, ?_⟩
  ·exact own_set7 (own_set_blk H1.out.1 H1.out.2.2.1 (by decide) 2 _) (H1.out.2.2.2.far (p := ⟨w.heap.size, 2, none⟩) (by simp) _) (by decide) _ _ _ _ _ _ _
  ·have hB := H1.out.2.1
   repeat' (first | (with_reducible exact Below.refl _ _) | (with_reducible assumption) | (with_reducible refine Below.alloc ?_ ?_ _) | (with_reducible refine Below.setCell ?_ ?_ _) | (with_reducible refine Below.drew ?_) | (with_reducible refine below_drewN ?_ _) | (refine Below.trans ?_ (Below.mono (by with_reducible assumption) ?_)) | omega | (simp; done) | (simp; omega))
set_option maxHeartbeats 1600000 in
theorem l37Copy_any (A : Option Addr) (c : Nat) (b : Bk) (w : World) (h : RdT w w.heap.size A c b.evs) (hs : b.evs.length ≤ 1048576) :
  Calls Tryz.prog 77 #[b.val A c] w fun e w' => ∃ A' c', e = .returned (b.val A' c') ∧ w'.ownsRow w.heap.size 120 3 (.slice A' b.evs.length c') b.evs.length (t3s b.evs) ∧ Below w.heap.size w w' := by
 obtain ⟨hl, hm⟩ := h.le
 obtain ⟨room, start, l, lv, ra, dr, lo⟩ := b
 unfold Bk.val
 simp only at h hl hs ⊢
 go_enter Tryz.func77, Tryz.ntmps77
 go_wp2_with (at_builtin; refine wpList_appAll rfl _ _ 30 rfl w.heap.size 120 (.agg #[.int .i64 0, .int .i64 0, .int .i64 0]) 3 24 Tryz.underlying30 infoEv rfl (by decide) (.slice (some ⟨w.heap.size + 2, 0, none⟩) 0 0) 0 [] rfl (ownEmpty' _ _ _ _ _ (by simp) (by exact ooT)) _ A l.length c (t3s l) rfl (h.below (by exact tacT)) (t3s_one l) (by omega) (by omega) (by exact ooT) ?_)
 intro A1 c1 w1 ho1 hg1
 try simp only [Nat.zero_add, List.nil_append] at ho1
 have hb1 : Below w.heap.size w w1 := Below.grown (by exact tacT) hg1 (by simp <;> omega) (by intro k hk; simp [Value.ownBlock] at hk; omega)
 have hk0 : Blk w1 w.heap.size 32 #[.int .i64 room, .int .i64 start, .slice A l.length c, .int .i64 lv, .int .i64 ra, .int .i64 dr, .int .i64 lo] := Blk.grown (by exact blkT) hg1 (by simp [Value.ownBlock])
 have hk1 : Blk w1 (w.heap.size + 1) 32 #[.int .i64 0, .int .i64 0, .slice none 0 0, .int .i64 0, .int .i64 0, .int .i64 0, .int .i64 0] := Blk.grown (by exact blkT) hg1 (by simp [Value.ownBlock])
 have hz1 : w.heap.size + 1 < w1.heap.size := hk1.lt
 obtain ⟨z0, z1, z2, z3, z4, z5, z6⟩ : w1.cell? ⟨w.heap.size, 0, none⟩ = some (.int .i64 room) ∧ w1.cell? ⟨w.heap.size, 1, none⟩ = some (.int .i64 start) ∧ w1.cell? ⟨w.heap.size, 2, none⟩ = some (.slice A l.length c) ∧ w1.cell? ⟨w.heap.size, 3, none⟩ = some (.int .i64 lv) ∧ w1.cell? ⟨w.heap.size, 4, none⟩ = some (.int .i64 ra) ∧ w1.cell? ⟨w.heap.size, 5, none⟩ = some (.int .i64 dr) ∧ w1.cell? ⟨w.heap.size, 6, none⟩ = some (.int .i64 lo) := ⟨hk0.cell 0, hk0.cell 1, hk0.cell 2, hk0.cell 3, hk0.cell 4, hk0.cell 5, hk0.cell 6⟩
 have y2 : w1.frozen? ⟨w.heap.size, 2, none⟩ = false := hk0.frozen 2
 obtain ⟨x0, x1, x2, x3, x4, x5, x6⟩ : w1.cell? ⟨w.heap.size + 1, 0, none⟩ = some (.int .i64 0) ∧ w1.cell? ⟨w.heap.size + 1, 1, none⟩ = some (.int .i64 0) ∧ w1.cell? ⟨w.heap.size + 1, 2, none⟩ = some (.slice none 0 0) ∧ w1.cell? ⟨w.heap.size + 1, 3, none⟩ = some (.int .i64 0) ∧ w1.cell? ⟨w.heap.size + 1, 4, none⟩ = some (.int .i64 0) ∧ w1.cell? ⟨w.heap.size + 1, 5, none⟩ = some (.int .i64 0) ∧ w1.cell? ⟨w.heap.size + 1, 6, none⟩ = some (.int .i64 0) := ⟨hk1.cell 0, hk1.cell 1, hk1.cell 2, hk1.cell 3, hk1.cell 4, hk1.cell 5, hk1.cell 6⟩
 obtain ⟨y0, y1, y22, y3, y4, y5, y6⟩ : w1.frozen? ⟨w.heap.size + 1, 0, none⟩ = false ∧ w1.frozen? ⟨w.heap.size + 1, 1, none⟩ = false ∧ w1.frozen? ⟨w.heap.size + 1, 2, none⟩ = false ∧ w1.frozen? ⟨w.heap.size + 1, 3, none⟩ = false ∧ w1.frozen? ⟨w.heap.size + 1, 4, none⟩ = false ∧ w1.frozen? ⟨w.heap.size + 1, 5, none⟩ = false ∧ w1.frozen? ⟨w.heap.size + 1, 6, none⟩ = false := ⟨hk1.frozen 0, hk1.frozen 1, hk1.frozen 2, hk1.frozen 3, hk1.frozen 4, hk1.frozen 5, hk1.frozen 6⟩
 have H1 := Lib.hid (And.intro ho1 (And.intro hb1 (And.intro hk0 hk1)))
 clear ho1 hb1 hk0 hk1 hg1
 try simp only [Nat.zero_add]
 go_wp2
 refine bodyPost_ret (v := .agg #[.int .i64 room, .int .i64 start, .slice A1 l.length c1, .int .i64 lv, .int .i64 ra, .int .i64 dr, .int .i64 lo]) ?_ rfl ?_
 ·simp [results, Tryz.results77, go_sem, z0, z1, z2, z3, z4, z5, z6, x0, x1, x2, x3, x4, x5, x6]
 ·refine ⟨A1, c1, rfl, ?_, ?_⟩
  ·exact own_set7 (own_set_blk H1.out.1 H1.out.2.2.1 (by decide) 2 _) (H1.out.2.2.2.far (p := ⟨w.heap.size, 2, none⟩) (by simp) _) (by decide) _ _ _ _ _ _ _
  ·have hB := H1.out.2.1
   repeat' (first | (with_reducible exact Below.refl _ _) | (with_reducible assumption) | (with_reducible refine Below.alloc ?_ ?_ _) | (with_reducible refine Below.setCell ?_ ?_ _) | (with_reducible refine Below.drew ?_) | (with_reducible refine below_drewN ?_ _) | (refine Below.trans ?_ (Below.mono (by with_reducible assumption) ?_)) | omega | (simp; done) | (simp; omega))
end
section
open Go.RowKit
theorem t3s_take : ∀ (l : List T3) (k : Nat), t3s (l.take k) = (t3s l).take (k * 3)
 | [], k => by cases k <;> rfl
 |s :: l, 0 => rfl
 |s :: l, k + 1 => by rw [List.take_succ_cons, t3s_cons, t3s_cons, t3s_take l k, show (k + 1) * 3 = k * 3 + 1 + 1 + 1 by omega]; rfl
theorem RdT.take {w : World} {B c : Nat} {A : Option Addr} {l : List T3} (h : RdT w B A c l) (k : Nat) (hk : k ≤ l.length) : RdT w B A c (l.take k) := by
 obtain ⟨h1, h2, h3, h4⟩ := h
 have e : (l.take k).length = k := by rw [List.length_take]; omega
 refine ⟨?_, by omega, h3, fun hn => ?_⟩
 ·rw [t3s_take, List.length_take]; omega
 ·obtain ⟨b, o, h5, h6, h7⟩ := h4 (by omega)
  refine ⟨b, o, h5, h6, fun j u hu => h7 j u ?_⟩
  rw [t3s_take, List.getElem?_take] at hu
  split at hu
  ·exact hu
  ·cases hu
def madeBk (room start : Int) (l : List T3) : Bk := ⟨room, start, l, (runEv room l start 0 0 0).1, (runEv room l start 0 0 0).2.1, (runEv room l start 0 0 0).2.2.1, (runEv room l start 0 0 0).2.2.2.1⟩
theorem bookOk_iff {b : Bk} (h : bookOk b = true) : inB b.room 1 1000000 = true ∧ inB b.start 0 b.room = true ∧ b.evs.length ≤ 40 ∧ (runEv b.room b.evs b.start 0 0 0).2.2.2.2 = true := by
 have h0 : (countBk b.room b.start b.evs).2.2.2.2 = true := by unfold bookOk at h; simp only [Bool.and_eq_true] at h; exact h.1.1.1.1
 unfold countBk at h0
 split at h0
 ·rename_i hc
  simp only [Bool.and_eq_true, decide_eq_true_eq] at hc
  exact ⟨hc.1.1, hc.1.2, hc.2, h0⟩
 ·cases h0
def BkRet (b : Bk × Bool) (w : World) (e : Ending) (w' : World) : Prop := ∃ A' c', e = .returned (.tuple #[b.1.val A' c', .bool b.2]) ∧ w'.ownsRow w.heap.size 120 3 (.slice A' b.1.evs.length c') b.1.evs.length (t3s b.1.evs) ∧ Below w.heap.size w w'
theorem own_mono {w : World} {base base' : Nat} {e : TypeId} {sz n : Nat} {v : Value} {xs : List Value} (h : w.ownsRow base e sz v n xs) (hb : base' ≤ base) : w.ownsRow base' e sz v n xs := by
 refine ⟨h.1, ?_⟩
 rcases h.2 with h2 | ⟨g, cap, cur, hv, hg, r⟩
 ·exact .inl h2
 ·exact .inr ⟨g, cap, cur, hv, by omega, r⟩
end
end Go.Proofs.YtpmmjhpmheooeaaGreatDoor
