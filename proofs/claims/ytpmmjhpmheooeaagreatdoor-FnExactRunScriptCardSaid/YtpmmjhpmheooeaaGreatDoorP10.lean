/- Texts of the proof, joined: CopyBook, Strike, BookLaw, MarkBook, ToBook, Village. -/
import Derived.Test.YtpmmjhpmheooeaaGreatDoorP9
import Derived.Test.YtpmmjhpmheooeaaGreatDoorP5
import Derived.Test.YtpmmjhpmheooeaaGreatDoorP3
import Derived.Test.YtpmmjhpmheooeaaGreatDoorP7
import Derived.Test.YtpmmjhpmheooeaaGreatDoorP4
namespace Go.Proofs.YtpmmjhpmheooeaaGreatDoor
set_option linter.unusedSimpArgs false
set_option linter.unusedVariables false
section
open Go.RowKit
set_option maxHeartbeats 1600000 in
theorem copyBook_any (A : Option Addr) (c : Nat) (b : Bk) (w : World) (h : RdT w w.heap.size A c b.evs) (hs : b.evs.length ≤ 1048576) :
  Calls Tryz.prog 60 #[b.val A c] w fun e w' => ∃ A' c', e = .returned (b.val A' c') ∧ w'.ownsRow w.heap.size 120 3 (.slice A' b.evs.length c') b.evs.length (t3s b.evs) ∧ Below w.heap.size w w' := by
 obtain ⟨hl, hm⟩ := h.le
 obtain ⟨room, start, l, lv, ra, dr, lo⟩ := b
 unfold Bk.val
 simp only at h hl hs ⊢
 go_enter Tryz.func60, Tryz.ntmps60
 go_wp2_with (at_builtin; refine wpList_appAll rfl _ _ 30 rfl w.heap.size 120 (.agg #[.int .i64 0, .int .i64 0, .int .i64 0]) 3 24 Tryz.underlying30 infoEv rfl (by decide) (.slice none 0 0) 0 [] rfl (World.ownsRow_nil _ _ _ _) _ A l.length c (t3s l) rfl (h.below (by exact tacT)) (t3s_one l) (by omega) (by omega) (by exact ooT) ?_)
 intro A1 c1 w1 ho1 hg1
 try simp only [Nat.zero_add, List.nil_append] at ho1
 have hb1 : Below w.heap.size w w1 := Below.grown (by exact tacT) hg1 (by simp <;> omega) (by simp [Value.ownBlock])
 have hk0 : Blk w1 w.heap.size 32 #[.int .i64 room, .int .i64 start, .slice A l.length c, .int .i64 lv, .int .i64 ra, .int .i64 dr, .int .i64 lo] := Blk.grown (by exact blkT) hg1 (by simp [Value.ownBlock])
 have hk1 : Blk w1 (w.heap.size + 1) 32 #[.int .i64 0, .int .i64 0, .slice none 0 0, .int .i64 0, .int .i64 0, .int .i64 0, .int .i64 0] := Blk.grown (by exact blkT) hg1 (by simp [Value.ownBlock])
 have hz1 : w.heap.size + 1 < w1.heap.size := hk1.lt
 obtain ⟨z0, z1, z2, z3, z4, z5, z6⟩ : w1.cell? ⟨w.heap.size, 0, none⟩ = some (.int .i64 room) ∧ w1.cell? ⟨w.heap.size, 1, none⟩ = some (.int .i64 start) ∧ w1.cell? ⟨w.heap.size, 2, none⟩ = some (.slice A l.length c) ∧ w1.cell? ⟨w.heap.size, 3, none⟩ = some (.int .i64 lv) ∧ w1.cell? ⟨w.heap.size, 4, none⟩ = some (.int .i64 ra) ∧ w1.cell? ⟨w.heap.size, 5, none⟩ = some (.int .i64 dr) ∧ w1.cell? ⟨w.heap.size, 6, none⟩ = some (.int .i64 lo) := ⟨hk0.cell 0, hk0.cell 1, hk0.cell 2, hk0.cell 3, hk0.cell 4, hk0.cell 5, hk0.cell 6⟩
 have y2 : w1.frozen? ⟨w.heap.size, 2, none⟩ = false := hk0.frozen 2
 obtain ⟨x0, x1, x2, x3, x4, x5, x6⟩ : w1.cell? ⟨w.heap.size + 1, 0, none⟩ = some (.int .i64 0) ∧ w1.cell? ⟨w.heap.size + 1, 1, none⟩ = some (.int .i64 0) ∧ w1.cell? ⟨w.heap.size + 1, 2, none⟩ = some (.slice none 0 0) ∧ w1.cell? ⟨w.heap.size + 1, 3, none⟩ = some (.int .i64 0) ∧ w1.cell? ⟨w.heap.size + 1, 4, none⟩ = some (.int .i64 0) ∧ w1.cell? ⟨w.heap.size + 1, 5, none⟩ = some (.int .i64 0) ∧ w1.cell? ⟨w.heap.size + 1, 6, none⟩ = some (.int .i64 0) := ⟨hk1.cell 0, hk1.cell 1, hk1.cell 2, hk1.cell 3, hk1.cell 4, hk1.cell 5, hk1.cell 6⟩
 obtain ⟨y0, y1, y22, y3, y4, y5, y6⟩ : w1.frozen? ⟨w.heap.size + 1, 0, none⟩ = false ∧ w1.frozen? ⟨w.heap.size + 1, 1, none⟩ = false ∧ w1.frozen? ⟨w.heap.size + 1, 2, none⟩ = false ∧ w1.frozen? ⟨w.heap.size + 1, 3, none⟩ = false ∧ w1.frozen? ⟨w.heap.size + 1, 4, none⟩ = false ∧ w1.frozen? ⟨w.heap.size + 1, 5, none⟩ = false ∧ w1.frozen? ⟨w.heap.size + 1, 6, none⟩ = false := ⟨hk1.frozen 0, hk1.frozen 1, hk1.frozen 2, hk1.frozen 3, hk1.frozen 4, hk1.frozen 5, hk1.frozen 6⟩
 have H1 := Lib.hid (And.intro ho1 (And.intro hb1 (And.intro hk0 hk1)))
 clear ho1 hb1 hk0 hk1 hg1
 try simp only [Nat.zero_add]
 go_wp2
 refine bodyPost_ret (v := .agg #[.int .i64 room, .int .i64 start, .slice A1 l.length c1, .int .i64 lv, .int .i64 ra, .int .i64 dr, .int .i64 lo]) ?_ rfl ?_
 ·simp [results, Tryz.results60, go_sem, z0, z1, z2, z3, z4, z5, z6, x0, x1, x2, x3, x4, x5, x6]
 ·refine ⟨A1, c1, rfl, ?_, ?_⟩
  ·exact own_set7 (own_set_blk H1.out.1 H1.out.2.2.1 (by decide) 2 _) (H1.out.2.2.2.far (p := ⟨w.heap.size, 2, none⟩) (by simp) _) (by decide) _ _ _ _ _ _ _
  ·have hB := H1.out.2.1
   repeat' (first | (with_reducible exact Below.refl _ _) | (with_reducible assumption) | (with_reducible refine Below.alloc ?_ ?_ _) | (with_reducible refine Below.setCell ?_ ?_ _) | (with_reducible refine Below.drew ?_) | (with_reducible refine below_drewN ?_ _) | (refine Below.trans ?_ (Below.mono (by with_reducible assumption) ?_)) | omega | (simp; done) | (simp; omega))
set_option maxHeartbeats 1600000 in
theorem l37Copy_any (A : Option Addr) (c : Nat) (b : Bk) (w : World) (h : RdT w w.heap.size A c b.evs) (hs : b.evs.length ≤ 1048576) :
  Calls Tryz.prog 77 #[b.val A c] w fun e w' => ∃ A' c', e = .returned (b.val A' c') ∧ w'.ownsRow w.heap.size 120 3 (.slice A' b.evs.length c') b.evs.length (t3s b.evs) ∧ Below w.heap.size w w' := by
 obtain ⟨hl, hm⟩ := h.le
 obtain ⟨room, start, l, lv, ra, dr, lo⟩ := b
 unfold Bk.val
 simp only at h hl hs ⊢
 go_enter Tryz.func77, Tryz.ntmps77
 go_wp2_with (at_builtin; refine wpList_appAll rfl _ _ 30 rfl w.heap.size 120 (.agg #[.int .i64 0, .int .i64 0, .int .i64 0]) 3 24 Tryz.underlying30 infoEv rfl (by decide) (.slice (some ⟨w.heap.size + 2, 0, none⟩) 0 0) 0 [] rfl (ownEmpty' _ _ _ _ _ (by simp) (by exact ooT)) _ A l.length c (t3s l) rfl (h.below (by exact tacT)) (t3s_one l) (by omega) (by omega) (by exact ooT) ?_)
 intro A1 c1 w1 ho1 hg1
 try simp only [Nat.zero_add, List.nil_append] at ho1
 have hb1 : Below w.heap.size w w1 := Below.grown (by exact tacT) hg1 (by simp <;> omega) (by intro k hk; simp [Value.ownBlock] at hk; omega)
 have hk0 : Blk w1 w.heap.size 32 #[.int .i64 room, .int .i64 start, .slice A l.length c, .int .i64 lv, .int .i64 ra, .int .i64 dr, .int .i64 lo] := Blk.grown (by exact blkT) hg1 (by simp [Value.ownBlock])
 have hk1 : Blk w1 (w.heap.size + 1) 32 #[.int .i64 0, .int .i64 0, .slice none 0 0, .int .i64 0, .int .i64 0, .int .i64 0, .int .i64 0] := Blk.grown (by exact blkT) hg1 (by simp [Value.ownBlock])
 have hz1 : w.heap.size + 1 < w1.heap.size := hk1.lt
 obtain ⟨z0, z1, z2, z3, z4, z5, z6⟩ : w1.cell? ⟨w.heap.size, 0, none⟩ = some (.int .i64 room) ∧ w1.cell? ⟨w.heap.size, 1, none⟩ = some (.int .i64 start) ∧ w1.cell? ⟨w.heap.size, 2, none⟩ = some (.slice A l.length c) ∧ w1.cell? ⟨w.heap.size, 3, none⟩ = some (.int .i64 lv) ∧ w1.cell? ⟨w.heap.size, 4, none⟩ = some (.int .i64 ra) ∧ w1.cell? ⟨w.heap.size, 5, none⟩ = some (.int .i64 dr) ∧ w1.cell? ⟨w.heap.size, 6, none⟩ = some (.int .i64 lo) := ⟨hk0.cell 0, hk0.cell 1, hk0.cell 2, hk0.cell 3, hk0.cell 4, hk0.cell 5, hk0.cell 6⟩
 have y2 : w1.frozen? ⟨w.heap.size, 2, none⟩ = false := hk0.frozen 2
 obtain ⟨x0, x1, x2, x3, x4, x5, x6⟩ : w1.cell? ⟨w.heap.size + 1, 0, none⟩ = some (.int .i64 0) ∧ w1.cell? ⟨w.heap.size + 1, 1, none⟩ = some (.int .i64 0) ∧ w1.cell? ⟨w.heap.size + 1, 2, none⟩ = some (.slice none 0 0) ∧ w1.cell? ⟨w.heap.size + 1, 3, none⟩ = some (.int .i64 0) ∧ w1.cell? ⟨w.heap.size + 1, 4, none⟩ = some (.int .i64 0) ∧ w1.cell? ⟨w.heap.size + 1, 5, none⟩ = some (.int .i64 0) ∧ w1.cell? ⟨w.heap.size + 1, 6, none⟩ = some (.int .i64 0) := ⟨hk1.cell 0, hk1.cell 1, hk1.cell 2, hk1.cell 3, hk1.cell 4, hk1.cell 5, hk1.cell 6⟩
 obtain ⟨y0, y1, y22, y3, y4, y5, y6⟩ : w1.frozen? ⟨w.heap.size + 1, 0, none⟩ = false ∧ w1.frozen? ⟨w.heap.size + 1, 1, none⟩ = false ∧ w1.frozen? ⟨w.heap.size + 1, 2, none⟩ = false ∧ w1.frozen? ⟨w.heap.size + 1, 3, none⟩ = false ∧ w1.frozen? ⟨w.heap.size + 1, 4, none⟩ = false ∧ w1.frozen? ⟨w.heap.size + 1, 5, none⟩ = false ∧ w1.frozen? ⟨w.heap.size + 1, 6, none⟩ = false := ⟨hk1.frozen 0, hk1.frozen 1, hk1.frozen 2, hk1.frozen 3, hk1.frozen 4, hk1.frozen 5, hk1.frozen 6⟩
 have H1 := Lib.hid (And.intro ho1 (And.intro hb1 (And.intro hk0 hk1)))
 clear ho1 hb1 hk0 hk1 hg1
 try simp only [Nat.zero_add]
 go_wp2
 refine bodyPost_ret (v := .agg #[.int .i64 room, .int .i64 start, .slice A1 l.length c1, .int .i64 lv, .int .i64 ra, .int .i64 dr, .int .i64 lo]) ?_ rfl ?_
 ·simp [results, Tryz.results77, go_sem, z0, z1, z2, z3, z4, z5, z6, x0, x1, x2, x3, x4, x5, x6]
 ·refine ⟨A1, c1, rfl, ?_, ?_⟩
  ·exact own_set7 (own_set_blk H1.out.1 H1.out.2.2.1 (by decide) 2 _) (H1.out.2.2.2.far (p := ⟨w.heap.size, 2, none⟩) (by simp) _) (by decide) _ _ _ _ _ _ _
  ·have hB := H1.out.2.1
   repeat' (first | (with_reducible exact Below.refl _ _) | (with_reducible assumption) | (with_reducible refine Below.alloc ?_ ?_ _) | (with_reducible refine Below.setCell ?_ ?_ _) | (with_reducible refine Below.drew ?_) | (with_reducible refine below_drewN ?_ _) | (refine Below.trans ?_ (Below.mono (by with_reducible assumption) ?_)) | omega | (simp; done) | (simp; omega))
end
section
open Go.RowKit
theorem t3s_take : ∀ (l : List T3) (k : Nat), t3s (l.take k) = (t3s l).take (k * 3)
 | [], k => by cases k <;> rfl
 |s :: l, 0 => rfl
 |s :: l, k + 1 => by rw [List.take_succ_cons, t3s_cons, t3s_cons, t3s_take l k, show (k + 1) * 3 = k * 3 + 1 + 1 + 1 by omega]; rfl
theorem RdT.take {w : World} {B c : Nat} {A : Option Addr} {l : List T3} (h : RdT w B A c l) (k : Nat) (hk : k ≤ l.length) : RdT w B A c (l.take k) := by
 obtain ⟨h1, h2, h3, h4⟩ := h
 have e : (l.take k).length = k := by rw [List.length_take]; omega
 refine ⟨?_, by omega, h3, fun hn => ?_⟩
 ·rw [t3s_take, List.length_take]; omega
 ·obtain ⟨b, o, h5, h6, h7⟩ := h4 (by omega)
  refine ⟨b, o, h5, h6, fun j u hu => h7 j u ?_⟩
  rw [t3s_take, List.getElem?_take] at hu
  split at hu
  ·exact hu
  ·cases hu
def madeBk (room start : Int) (l : List T3) : Bk := ⟨room, start, l, (runEv room l start 0 0 0).1, (runEv room l start 0 0 0).2.1, (runEv room l start 0 0 0).2.2.1, (runEv room l start 0 0 0).2.2.2.1⟩
theorem bookOk_iff {b : Bk} (h : bookOk b = true) : inB b.room 1 1000000 = true ∧ inB b.start 0 b.room = true ∧ b.evs.length ≤ 40 ∧ (runEv b.room b.evs b.start 0 0 0).2.2.2.2 = true := by
 have h0 : (countBk b.room b.start b.evs).2.2.2.2 = true := by unfold bookOk at h; simp only [Bool.and_eq_true] at h; exact h.1.1.1.1
 unfold countBk at h0
 split at h0
 ·rename_i hc
  simp only [Bool.and_eq_true, decide_eq_true_eq] at hc
  exact ⟨hc.1.1, hc.1.2, hc.2, h0⟩
 ·cases h0
def BkRet (b : Bk × Bool) (w : World) (e : Ending) (w' : World) : Prop := ∃ A' c', e = .returned (.tuple #[b.1.val A' c', .bool b.2]) ∧ w'.ownsRow w.heap.size 120 3 (.slice A' b.1.evs.length c') b.1.evs.length (t3s b.1.evs) ∧ Below w.heap.size w w'
theorem own_mono {w : World} {base base' : Nat} {e : TypeId} {sz n : Nat} {v : Value} {xs : List Value} (h : w.ownsRow base e sz v n xs) (hb : base' ≤ base) : w.ownsRow base' e sz v n xs := by
 refine ⟨h.1, ?_⟩
 rcases h.2 with h2 | ⟨g, cap, cur, hv, hg, r⟩
 ·exact .inl h2
 ·exact .inr ⟨g, cap, cur, hv, by omega, r⟩
end
section
open Go.RowKit
theorem evOn_liters {v room k l o : Int} (h : (evOn v room k l o).2.2.2.2 = true) : 0 ≤ l ∧ l ≤ 1000000 := by
 cases h3 : inB l 0 1000000
 ·rw [evOn_bad (.inr (.inr h3))] at h; cases h
 ·exact inB_iff.1 h3
theorem runEv_liters (room : Int) : ∀ (l : List T3) (v r d lo : Int), (runEv room l v r d lo).2.2.2.2 = true → ∀ e ∈ l, 0 ≤ e.y ∧ e.y ≤ 1000000
 | [], _, _, _, _, _ => fun e he => by cases he
 |x :: l, v, r, d, lo, h => by
  rw [runEv_cons] at h
  by_cases hc : (evOn v room x.x x.y x.z).2.2.2.2 = true
  ·rw [if_pos hc] at h
   intro e he
   rcases List.mem_cons.1 he with rfl | he
   ·exact evOn_liters hc
   ·exact runEv_liters room l _ _ _ _ h e he
  ·rw [if_neg hc] at h; cases h
theorem runEv_rained (room : Int) : ∀ (l : List T3) (v r d lo : Int), (runEv room l v r d lo).2.2.2.2 = true → r ≤ (runEv room l v r d lo).2.1 ∧ (runEv room l v r d lo).2.1 ≤ r + 1000000 * l.length
 | [], v, r, d, lo, _ => ⟨Int.le_refl r, by show r ≤ r + 1000000 * ((0 : Nat) : Int); omega⟩
 |x :: l, v, r, d, lo, h => by
  rw [runEv_cons] at h ⊢
  by_cases hc : (evOn v room x.x x.y x.z).2.2.2.2 = true
  ·rw [if_pos hc] at h ⊢
   have h1 := runEv_rained room l _ _ _ _ h
   have h2 := evOn_bounds v room x.x x.y x.z hc
   simp only [List.length_cons]
   omega
  ·rw [if_neg hc] at h; cases h
theorem wrap_in {a : Int} (h1 : -9223372036854775808 ≤ a) (h2 : a ≤ 9223372036854775807) : wrap64 a = a := by
 unfold wrap64; omega
theorem drunkGo_bd (kk : Int) : ∀ (l : List T3) (n : Int) (m : Nat), (∀ e ∈ l, 0 ≤ e.y ∧ e.y ≤ 1000000) → 0 ≤ n → n ≤ 1000000 * m → m + l.length ≤ 1000 → 0 ≤ drunkGo kk l n ∧ drunkGo kk l n ≤ 1000000 * (m + l.length)
 | [], n, m, _, h1, h2, _ => ⟨h1, by simp only [List.length_nil]; show n ≤ _; omega⟩
 |x :: l, n, m, h, h1, h2, h3 => by
  rw [drunkGo_cons]
  have hx := h x (List.mem_cons_self ..)
  have hl : ∀ e ∈ l, 0 ≤ e.y ∧ e.y ≤ 1000000 := fun e he => h e (List.mem_cons_of_mem _ he)
  simp only [List.length_cons] at h3 ⊢
  split
  ·rw [wrap_in (by omega) (by omega)]
   have := drunkGo_bd kk l (n + x.y) (m + 1) hl (by omega) (by omega) (by omega)
   omega
  ·have := drunkGo_bd kk l n (m + 1) hl (by omega) (by omega) (by omega)
   omega
theorem drunkBy_bd (b : Bk) (kk : Int) : -1 ≤ drunkBy b kk ∧ drunkBy b kk ≤ 40000000 := by
 unfold drunkBy
 split
 ·rename_i h
  obtain ⟨_, _, i3, i4⟩ := bookOk_iff h
  have := drunkGo_bd kk b.evs 0 0 (runEv_liters _ _ _ _ _ _ i4) (by omega) (by omega) (by omega)
  omega
 ·omega
theorem book_bd {b : Bk} (h : bookOk b = true) : 0 ≤ b.start ∧ b.start ≤ 1000000 ∧ 0 ≤ b.rained ∧ b.rained ≤ 40000000 := by
 obtain ⟨i1, i2, i3, i4⟩ := bookOk_iff h
 have h1 := inB_iff.1 i1
 have h2 := inB_iff.1 i2
 have h3 := runEv_rained _ _ _ _ _ _ i4
 have he : (countBk b.room b.start b.evs).2.1 = b.rained := by
  unfold bookOk at h
  simp only [Bool.and_eq_true, beq_iff_eq] at h
  exact h.1.1.2
 rw [countBk_yes i1 i2 i3] at he
 rw [he] at h3
 omega
theorem partOf_bd (t b m : Int) : -1 ≤ partOf t b m ∧ partOf t b m ≤ 10000000000 := by
 unfold partOf
 split
 ·rename_i h
  rw [Bool.and_eq_true] at h
  obtain ⟨f1, f2, f3, f4⟩ := fracOk_iff h.1
  obtain ⟨m1, m2⟩ := inB_iff.1 h.2
  have p1 : 0 ≤ m * t := Int.mul_nonneg m1 f1
  have p2 : m * t ≤ 10000000000 := by have := Int.mul_le_mul m2 f2 f1 (by omega); omega
  have q1 : 0 ≤ m * t / b := Int.ediv_nonneg p1 (by omega)
  have q2 : m * t / b ≤ m * t := Int.ediv_le_self _ p1
  omega
 ·omega
theorem findGo_cases : ∀ (l : List T3) (k : Nat) (o : Int), (findGo l k o = -1 ∧ ∀ t ∈ l, t.x ≠ o) ∨ ∃ (j : Nat) (t : T3), findGo l k o = ((k + j : Nat) : Int) ∧ l[j]? = some t ∧ t.x = o ∧ shareOf l o = (t.y, t.z)
 | [], _, _ => .inl ⟨rfl, fun t ht => by cases ht⟩
 |x :: l, k, o => by
  rw [findGo_cons, shareOf_cons]
  by_cases hx : x.x = o
  ·rw [if_pos hx, if_pos hx]
   exact .inr ⟨0, x, rfl, rfl, hx, rfl⟩
  ·rw [if_neg hx, if_neg hx]
   rcases findGo_cases l (k + 1) o with ⟨h1, h2⟩ | ⟨j, t, h1, h2, h3, h4⟩
   ·refine .inl ⟨h1, fun t ht => ?_⟩
    rcases List.mem_cons.1 ht with rfl | ht
    ·exact hx
    ·exact h2 t ht
   ·exact .inr ⟨j + 1, t, by rw [h1]; congr 1; omega, by simpa using h2, h3, h4⟩
theorem rightAt_cases (l : List T3) (o : Int) : (rightAt l o = -1 ∧ ∀ t ∈ l, t.x ≠ o) ∨ ∃ (k : Nat) (t : T3), rightAt l o = (k : Int) ∧ k < l.length ∧ l[k]? = some t ∧ t.x = o ∧ shareOf l o = (t.y, t.z) := by
 rcases findGo_cases l 0 o with h | ⟨j, t, h1, h2, h3, h4⟩
 ·exact .inl h
 ·exact .inr ⟨j, t, by unfold rightAt; rw [h1, Nat.zero_add], (List.getElem?_eq_some_iff.1 h2).1, h2, h3, h4⟩
end
section
open Go.RowKit
set_option maxRecDepth 20000
structure Vg where
 book : Bk
 rights : List T3
def Vg.val (v : Vg) (A : Option Addr) (c : Nat) (R : Option Addr) (d : Nat) : Value := .agg #[.int .i64 v.book.room, .int .i64 v.book.start, .slice A v.book.evs.length c, .int .i64 v.book.level, .int .i64 v.book.rained, .int .i64 v.book.drunk, .int .i64 v.book.lost, .slice R v.rights.length d]
def villageOk (v : Vg) : Bool := bookOk v.book && rightsOk v.rights
set_option maxHeartbeats 1600000 in
theorem VillageOk_any (A : Option Addr) (c : Nat) (R : Option Addr) (d : Nat) (v : Vg) (w : World) (h : RdT w w.heap.size A c v.book.evs) (h' : RdT w w.heap.size R d v.rights) (hs : v.book.evs.length ≤ 1048576) :
  Calls Tryz.prog 36 #[v.val A c R d] w fun e w' => e = .returned (.bool (villageOk v)) ∧ Below w.heap.size w w' := by
 have hB := Below.refl w.heap.size w
 have h1 := fun (W : World) (hb : Below w.heap.size w W) => BookOk_any A c v.book W (h.below hb)
 have h2 := fun (W : World) (hb : Below w.heap.size w W) => RightsOk_any R d v.rights W (h'.below hb)
 have hv : villageOk v = (bookOk v.book && rightsOk v.rights) := rfl
 rw [hv]
 clear hv
 unfold Vg.val
 unfold Bk.val at h1
 obtain ⟨⟨room, start, l, lv, ra, dr, lo⟩, rs⟩ := v
 simp only at h h' hs h1 h2 ⊢
 have H1 := Lib.hid h1
 have H2 := Lib.hid h2
 clear h1 h2
 cases c1 : bookOk ⟨room, start, l, lv, ra, dr, lo⟩
 all_goals
  go_enter Tryz.func36, Tryz.ntmps36
  go_wp2_with fail
  first | refine name_world ?_ | refine name_wp ?_
  intro W1 hW
  replace hB : Below w.heap.size w W1 := by rw [hW]; exact tacT
  have hz_W1 : w.heap.size ≤ W1.heap.size := by rw [hW]; exact sT
  replace kb_p : Blk W1 (w.heap.size) 35 #[.int .i64 room, .int .i64 start, .slice A l.length c, .int .i64 lv, .int .i64 ra, .int .i64 dr, .int .i64 lo, .slice R rs.length d] := by rw [hW]; exact blkT
  have hLW1_p := kb_p.lt
  try clear kc_p kf_p
  clear hW
  refine (H1.out _ hB).mono ?_
  rw [c1]
  rintro e w1 ⟨rfl, hb⟩
  replace hB := hB.trans (Below.mono hb hB.size)
  have hz_w1 : W1.heap.size ≤ w1.heap.size := Below.size hb
  replace kb_p := kb_p.mv hb; obtain ⟨kb_p, kc_p, kf_p, hl_p, hn_p⟩ := kb_p
  clear hb
  go_wp2_with fail
 ·go_ret
  exact ⟨rfl, hB⟩
 ·refine (H2.out _ hB).mono ?_
  rintro e w2 ⟨rfl, hb⟩
  replace hB := hB.trans (Below.mono hb hB.size)
  have hz_w2 : w1.heap.size ≤ w2.heap.size := Below.size hb
  clear hb
  go_wp2_with fail
  go_ret
  exact ⟨rfl, hB⟩
set_option maxHeartbeats 1600000 in
theorem VillageOkS_any (A : Option Addr) (c : Nat) (R : Option Addr) (d : Nat) (v : Vg) (w : World) (h : RdT w w.heap.size A c v.book.evs) (h' : RdT w w.heap.size R d v.rights) (hs : v.book.evs.length ≤ 1048576) :
  Calls Tryz.prog 47 #[v.val A c R d] w fun e w' => e = .returned (.bool (villageOk v)) ∧ Below w.heap.size w w' := by
 have hB := Below.refl w.heap.size w
 have h1 := fun (W : World) (hb : Below w.heap.size w W) => BookOkS_any A c v.book W (h.below hb) hs
 have h2 := fun (W : World) (hb : Below w.heap.size w W) => RightsOkS_any R d v.rights W (h'.below hb)
 have hv : villageOk v = (bookOk v.book && rightsOk v.rights) := rfl
 rw [hv]
 clear hv
 unfold Vg.val
 unfold Bk.val at h1
 obtain ⟨⟨room, start, l, lv, ra, dr, lo⟩, rs⟩ := v
 simp only at h h' hs h1 h2 ⊢
 have H1 := Lib.hid h1
 have H2 := Lib.hid h2
 clear h1 h2
 cases c1 : bookOk ⟨room, start, l, lv, ra, dr, lo⟩
 all_goals
  go_enter Tryz.func47, Tryz.ntmps47
  go_wp2_with fail
  first | refine name_world ?_ | refine name_wp ?_
  intro W1 hW
  replace hB : Below w.heap.size w W1 := by rw [hW]; exact tacT
  have hz_W1 : w.heap.size ≤ W1.heap.size := by rw [hW]; exact sT
  replace kb_p : Blk W1 (w.heap.size) 35 #[.int .i64 room, .int .i64 start, .slice A l.length c, .int .i64 lv, .int .i64 ra, .int .i64 dr, .int .i64 lo, .slice R rs.length d] := by rw [hW]; exact blkT
  have hLW1_p := kb_p.lt
  try clear kc_p kf_p
  clear hW
  refine (H1.out _ hB).mono ?_
  rw [c1]
  rintro e w1 ⟨rfl, hb⟩
  replace hB := hB.trans (Below.mono hb hB.size)
  have hz_w1 : W1.heap.size ≤ w1.heap.size := Below.size hb
  replace kb_p := kb_p.mv hb; obtain ⟨kb_p, kc_p, kf_p, hl_p, hn_p⟩ := kb_p
  clear hb
  go_wp2_with fail
 ·go_ret
  exact ⟨rfl, hB⟩
 ·refine (H2.out _ hB).mono ?_
  rintro e w2 ⟨rfl, hb⟩
  replace hB := hB.trans (Below.mono hb hB.size)
  have hz_w2 : w1.heap.size ≤ w2.heap.size := Below.size hb
  clear hb
  go_wp2_with fail
  go_ret
  exact ⟨rfl, hB⟩
end
end Go.Proofs.YtpmmjhpmheooeaaGreatDoor
