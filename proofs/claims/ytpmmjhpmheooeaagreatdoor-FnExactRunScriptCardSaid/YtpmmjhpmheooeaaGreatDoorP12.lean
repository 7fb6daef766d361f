/- Texts of the proof, joined: BooksPure, BookBd, InfoR. -/
import Derived.Test.YtpmmjhpmheooeaaGreatDoorP11
import Derived.Test.YtpmmjhpmheooeaaGreatDoorP10
import Derived.Test.YtpmmjhpmheooeaaGreatDoorP3
namespace Go.Proofs.YtpmmjhpmheooeaaGreatDoor
set_option linter.unusedSimpArgs false
set_option linter.unusedVariables false
section
open Go.RowKit
theorem evOn_bal {v room k l o : Int} (h : (evOn v room k l o).2.2.2.2 = true) : (evOn v room k l o).1 + (evOn v room k l o).2.2.1 + (evOn v room k l o).2.2.2.1 = v + (evOn v room k l o).2.1 := by
 unfold evOn at h ⊢
 split
 ·rename_i h1; rw [if_pos h1] at h; cases h
 ·rename_i h1
  rw [if_neg h1] at h
  split
  ·simp only []; omega
  ·rename_i h2
   rw [if_neg h2] at h
   split
   ·simp only []; omega
   ·rename_i h3
    rw [if_neg h3] at h
    split
    ·simp only []; omega
    ·rename_i h4; rw [if_neg h4] at h; cases h
theorem evOn_drunk {v room k l o : Int} (h : (evOn v room k l o).2.2.2.2 = true) : (evOn v room k l o).2.2.1 = if k = 2 then l else 0 := by
 unfold evOn at h ⊢
 split
 ·rename_i h1; rw [if_pos h1] at h; cases h
 ·rename_i h1
  rw [if_neg h1] at h
  split
  ·rename_i h2; rw [if_neg (by omega)]
  ·rename_i h2
   rw [if_neg h2] at h
   split
   ·rename_i h3; rw [if_pos h3.1]
   ·rename_i h3
    rw [if_neg h3] at h
    split
    ·rename_i h4; rw [if_neg (by omega)]
    ·rename_i h4; rw [if_neg h4] at h; cases h
theorem evOn_range {v room k l o : Int} (h : (evOn v room k l o).2.2.2.2 = true) : 0 ≤ v ∧ v ≤ room ∧ 0 ≤ (evOn v room k l o).1 ∧ (evOn v room k l o).1 ≤ room := by
 unfold evOn at h ⊢
 split
 ·rename_i h1; rw [if_pos h1] at h; cases h
 ·rename_i h1
  rw [if_neg h1] at h
  simp [inB] at h1
  split
  ·simp only []; omega
  ·rename_i h2
   rw [if_neg h2] at h
   split
   ·simp only []; omega
   ·rename_i h3
    rw [if_neg h3] at h
    split
    ·simp only []; omega
    ·rename_i h4; rw [if_neg h4] at h; cases h
theorem runEv_bal (room : Int) : ∀ (l : List T3) (v r d lo : Int), (runEv room l v r d lo).2.2.2.2 = true → (runEv room l v r d lo).1 + (runEv room l v r d lo).2.2.1 + (runEv room l v r d lo).2.2.2.1 - (runEv room l v r d lo).2.1 = v + d + lo - r
 | [], _, _, _, _, _ => rfl
 |e :: es, v, r, d, lo, h => by
  rw [runEv_cons] at h ⊢
  split at h
  ·rename_i hok
   rw [if_pos hok, runEv_bal room es _ _ _ _ h]
   have := evOn_bal hok
   omega
  ·cases h
/-- Litres drunk by all, by one. -/
def dall : List T3 → Int
 | [] => 0
 |t :: l => (if t.x = 2 then t.y else 0) + dall l
def dby (o : Int) : List T3 → Int
 | [] => 0
 |t :: l => (if t.x = 2 ∧ t.z = o then t.y else 0) + dby o l
theorem runEv_drunk (room : Int) : ∀ (l : List T3) (v r d lo : Int), (runEv room l v r d lo).2.2.2.2 = true → (runEv room l v r d lo).2.2.1 = d + dall l
 | [], _, _, d, _, _ => by show d = d + 0; omega
 |e :: es, v, r, d, lo, h => by
  rw [runEv_cons] at h ⊢
  split at h
  ·rename_i hok
   rw [if_pos hok, runEv_drunk room es _ _ _ _ h, evOn_drunk hok]
   show _ = d + ((if e.x = 2 then e.y else 0) + dall es)
   omega
  ·cases h
theorem dby_bd (o : Int) : ∀ (l : List T3), (∀ e ∈ l, 0 ≤ e.y ∧ e.y ≤ 1000000) → 0 ≤ dby o l ∧ dby o l ≤ 1000000 * l.length
 | [], _ => by simp [dby]
 |t :: l, h => by
  have := dby_bd o l (fun e he => h e (by simp [he]))
  have h2 := h t (by simp)
  simp only [dby, List.length_cons]
  split <;> omega
theorem drunkGo_eq (kk : Int) : ∀ (l : List T3) (n : Int), (∀ e ∈ l, 0 ≤ e.y ∧ e.y ≤ 1000000) → 0 ≤ n → n + 1000000 * l.length ≤ 1000000000 → drunkGo kk l n = n + dby kk l
 | [], n, _, _, _ => by show n = n + 0; omega
 |t :: l, n, h, h0, h1 => by
  have h2 := h t (by simp)
  simp only [List.length_cons] at h1
  rw [drunkGo_cons]
  simp only [dby]
  split
  ·rw [wrap_in (by omega) (by omega), drunkGo_eq kk l _ (fun e he => h e (by simp [he])) (by omega) (by omega)]; omega
  ·rw [drunkGo_eq kk l _ (fun e he => h e (by simp [he])) (by omega) (by omega)]; omega
theorem book_liters {b : Bk} (h : bookOk b = true) : ∀ e ∈ b.evs, 0 ≤ e.y ∧ e.y ≤ 1000000 := by
 obtain ⟨_, _, _, h4⟩ := bookOk_iff h
 exact runEv_liters b.room b.evs _ _ _ _ h4
theorem drunkBy_eq {b : Bk} (h : bookOk b = true) (kk : Int) : drunkBy b kk = dby kk b.evs := by
 have h1 := book_liters h
 obtain ⟨_, _, h3, _⟩ := bookOk_iff h
 unfold drunkBy
 rw [if_pos h, drunkGo_eq kk b.evs 0 h1 (by omega) (by omega)]; omega
/-- What a valid book holds is what its events make. -/
theorem book_made {b : Bk} (h : bookOk b = true) : madeBk b.room b.start b.evs = b := by
 obtain ⟨h1, h2, h3, _⟩ := bookOk_iff h
 have hc := countBk_yes h1 h2 h3
 unfold bookOk at h
 rw [hc] at h
 simp only [Bool.and_eq_true, beq_iff_eq] at h
 unfold madeBk
 obtain ⟨room, start, l, lv, ra, dr, lo⟩ := b
 simp only [Bk.mk.injEq, true_and] at h ⊢
 exact ⟨h.1.1.1.2, h.1.1.2, h.1.2, h.2⟩
theorem made_ok {room start : Int} {l : List T3} (h1 : inB room 1 1000000 = true) (h2 : inB start 0 room = true) (h3 : l.length ≤ 40) (h4 : (runEv room l start 0 0 0).2.2.2.2 = true) : bookOk (madeBk room start l) = true := by
 have hc := countBk_yes h1 h2 h3
 unfold bookOk madeBk
 simp only [hc, h4]
 simp
theorem book_run {b : Bk} (h : bookOk b = true) : runEv b.room b.evs b.start 0 0 0 = (b.level, b.rained, b.drunk, b.lost, true) := by
 have h1 := book_made h
 have h2 := (bookOk_iff h).2.2.2
 unfold madeBk at h1
 obtain ⟨room, start, l, lv, ra, dr, lo⟩ := b
 simp only [Bk.mk.injEq, true_and] at h1 h2 ⊢
 obtain ⟨e1, e2, e3, e4⟩ := h1
 rw [← e1, ← e2, ← e3, ← e4, ← h2]
theorem book_level {b : Bk} (h : bookOk b = true) : 0 ≤ b.level ∧ b.level ≤ b.room ∧ 1 ≤ b.room ∧ b.room ≤ 1000000 := by
 obtain ⟨h1, h2, h3, h4⟩ := bookOk_iff h
 have i1 := inB_iff.1 h1
 have i2 := inB_iff.1 h2
 have hr := book_run h
 have key : ∀ (l : List T3) (v r d lo : Int), 0 ≤ v → v ≤ b.room → 0 ≤ (runEv b.room l v r d lo).1 ∧ (runEv b.room l v r d lo).1 ≤ b.room := by
  intro l
  induction l with
  |nil => intro v r d lo h0 h1; exact ⟨h0, h1⟩
  |cons e es ih =>
   intro v r d lo h0 h1
   rw [runEv_cons]
   split
   ·rename_i hok
    have := evOn_range hok
    exact ih _ _ _ _ this.2.2.1 this.2.2.2
   ·exact ⟨h0, h1⟩
 have := key b.evs b.start 0 0 0 i2.1 i2.2
 rw [hr] at this
 exact ⟨this.1, this.2, i1.1, i1.2⟩
theorem book_balance {b : Bk} (h : bookOk b = true) : b.start + b.rained = b.level + b.drunk + b.lost := by
 have := runEv_bal b.room b.evs b.start 0 0 0 (bookOk_iff h).2.2.2
 rw [book_run h] at this
 simp only at this
 omega
theorem book_drunk {b : Bk} (h : bookOk b = true) : b.drunk = dall b.evs := by
 have := runEv_drunk b.room b.evs b.start 0 0 0 (bookOk_iff h).2.2.2
 rw [book_run h] at this
 simp only at this
 omega
theorem runEv_app (room : Int) (e : T3) : ∀ (l : List T3) (v r d lo : Int), (runEv room l v r d lo).2.2.2.2 = true → runEv room (l ++ [e]) v r d lo = runEv room [e] (runEv room l v r d lo).1 (runEv room l v r d lo).2.1 (runEv room l v r d lo).2.2.1 (runEv room l v r d lo).2.2.2.1
 | [], _, _, _, _, _ => rfl
 |a :: l, v, r, d, lo, h => by
  rw [List.cons_append, runEv_cons]
  rw [runEv_cons] at h
  split at h
  ·rename_i hok
   rw [if_pos hok, runEv_app room e l _ _ _ _ h]
   rw [runEv_cons room a l, if_pos hok]
  ·cases h
/-- One more event in a valid book. -/
theorem enter_book {b : Bk} (h : bookOk b = true) (e : T3) (hl : b.evs.length < 40) : enter b e = if (evOn b.level b.room e.x e.y e.z).2.2.2.2 then (⟨b.room, b.start, b.evs ++ [e], (evOn b.level b.room e.x e.y e.z).1, b.rained + (evOn b.level b.room e.x e.y e.z).2.1, b.drunk + (evOn b.level b.room e.x e.y e.z).2.2.1, b.lost + (evOn b.level b.room e.x e.y e.z).2.2.2.1⟩, true) else (b, false) := by
 have hr := book_run h
 have ha := runEv_app b.room e b.evs b.start 0 0 0 (bookOk_iff h).2.2.2
 rw [hr] at ha
 simp only [runEv_cons] at ha
 unfold enter enterOk madeBk
 rw [h, decide_eq_true hl, ha]
 cases hok : (evOn b.level b.room e.x e.y e.z).2.2.2.2
 ·simp
 ·simp [runEv]
theorem enter_ok {b : Bk} (h : bookOk b = true) (e : T3) (hl : b.evs.length < 40) (he : (evOn b.level b.room e.x e.y e.z).2.2.2.2 = true) : bookOk (enter b e).1 = true := by
 have ha := runEv_app b.room e b.evs b.start 0 0 0 (bookOk_iff h).2.2.2
 rw [book_run h] at ha
 simp only [runEv_cons, he, if_true] at ha
 obtain ⟨h1, h2, h3, h4⟩ := bookOk_iff h
 have e1 : enter b e = (madeBk b.room b.start (b.evs ++ [e]), true) := by
  unfold enter enterOk
  rw [h, decide_eq_true hl, ha]
  simp [runEv]
 rw [e1]
 exact made_ok h1 h2 (by simp; omega) (by rw [ha]; rfl)
end
section
open Go.RowKit
theorem dall_bd : ∀ (l : List T3), (∀ e ∈ l, 0 ≤ e.y ∧ e.y ≤ 1000000) → 0 ≤ dall l ∧ dall l ≤ 1000000 * l.length
 | [], _ => by simp [dall]
 |t :: l, h => by
  have := dall_bd l (fun e he => h e (by simp [he]))
  have h2 := h t (by simp)
  simp only [dall, List.length_cons]
  split <;> omega
theorem book_bounds {b : Bk} (h : bookOk b = true) : (0 ≤ b.level ∧ b.level ≤ 1000000) ∧ (0 ≤ b.rained ∧ b.rained ≤ 40000000) ∧ (0 ≤ b.drunk ∧ b.drunk ≤ 40000000) ∧ (-1000000000 ≤ b.lost ∧ b.lost ≤ 1000000000) ∧ (0 ≤ b.start ∧ b.start ≤ 1000000) ∧ b.evs.length ≤ 40 := by
 have h1 := book_level h
 have h2 := book_bd h
 have h3 := book_balance h
 have h4 := book_drunk h
 have hd := dall_bd b.evs (book_liters h)
 obtain ⟨_, _, hl, _⟩ := bookOk_iff h
 omega
end
section
theorem infoRight : (Tryz.prog.info? 69).map (fun i => (i.zero, i.size, i.bytes)) = some (some (.agg #[.int .i64 0, .int .i64 0, .int .i64 0]), 3, 24) := by kernel_rfl
end
end Go.Proofs.YtpmmjhpmheooeaaGreatDoor
