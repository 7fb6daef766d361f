/- Texts of the proof, joined: RightAt, BookLaw, BooksPure, EventDraw. -/
import Derived.Test.YtpmmjhpmheooeaaGreatDoorQ7
import Derived.Test.YtpmmjhpmheooeaaGreatDoorQ6
import Derived.Test.YtpmmjhpmheooeaaGreatDoorQ5
import Derived.Test.YtpmmjhpmheooeaaGreatDoorQ1
import Derived.Deep.RegionHeld3
namespace Go.Proofs.YtpmmjhpmheooeaaGreatDoor
set_option linter.unusedSimpArgs false
set_option linter.unusedVariables false
section
open Go.RowKit
set_option maxRecDepth 20000
def findGo : List T3 → Nat → Int → Int
 | [], _, _ => -1
 |t :: l, k, o => if t.x = o then (k : Int) else findGo l (k + 1) o
theorem findGo_cons (t : T3) (l : List T3) (k : Nat) (o : Int) : findGo (t :: l) k o = if t.x = o then (k : Int) else findGo l (k + 1) o := rfl
def rightAt (l : List T3) (o : Int) : Int := findGo l 0 o
def shareOf : List T3 → Int → Int × Int
 | [], _ => (0, 0)
 |t :: l, o => if t.x = o then (t.y, t.z) else shareOf l o
theorem shareOf_cons (t : T3) (l : List T3) (o : Int) : shareOf (t :: l) o = if t.x = o then (t.y, t.z) else shareOf l o := rfl
def partOf (t b amount : Int) : Int := if fracOk t b && inB amount 0 1000000 then amount * t / b else -1
theorem rightOf1_any (x y z o : Int) (g : Nat) (w : World) (hg : g < w.heap.size) (hc : w.cell? ⟨g, 0, none⟩ = some (.int .i64 o)) :
  Calls Tryz.prog 107 #[.agg #[.int .i64 x, .int .i64 y, .int .i64 z], .pointer (some ⟨g, 0, none⟩)] w fun e w' => e = .returned (.bool (x == o)) ∧ ∃ b : Obj, w' = w.alloc b := by
 have hn := Nat.ne_of_lt hg
 go_enter Tryz.func107, Tryz.ntmps107
 go_wp2
 go_ret
 exact ⟨rfl, _, rfl⟩
set_option maxHeartbeats 800000 in
theorem IndexRight_any (A : Option Addr) (c : Nat) (l : List T3) (o : Int) (g : Nat) (w : World) (h : RdT w w.heap.size A c l) (hg : g < w.heap.size) (hc : w.cell? ⟨g, 0, none⟩ = some (.int .i64 o)) :
  Calls Tryz.prog 106 #[.slice A l.length c, .func (.func 107) #[] #[.pointer (some ⟨g, 0, none⟩)]] w fun e w' => e = .returned (.int .i64 (rightAt l o)) ∧ Below w.heap.size w w' := by
 obtain ⟨hl, hm⟩ := h.le
 obtain ⟨R, hR⟩ : ∃ R, R = rightAt l o := ⟨_, rfl⟩
 rw [← hR]
 have HR : Hid (findGo (l.drop 0) 0 o = R) := hR.symm
 clear hR
 go_enter Tryz.func106, Tryz.ntmps106
 go_wp2_with fail
 go_loopw [8] (fun i wr => ∃ k : Nat, k ≤ l.length ∧ i = .int .i64 k ∧ Hid (findGo (l.drop k) k o = R) ∧ Below w.heap.size w wr) (fun i _ => l.length - (intOf i).toNat)
 case atStart => exact ⟨0, Nat.zero_le _, rfl, HR, Below.refl _ _⟩
 case round =>
  obtain ⟨k, hk, rfl, HR, hB⟩ := hrel
  have hbs := hB.size
  by_cases hlt : k < l.length
  ·obtain ⟨bb, oo, x, rfl, hbb, hx, e0, e1, e2⟩ := h.at_ hlt
   have f0 : wr.cell? ⟨bb, oo + k * 3, none⟩ = some (.int .i64 x.x) := (hB.cell (p := ⟨bb, _, none⟩) hbb).trans e0
   have f1 : wr.cell? ⟨bb, oo + k * 3 + 1, none⟩ = some (.int .i64 x.y) := (hB.cell (p := ⟨bb, _, none⟩) hbb).trans e1
   have f2 : wr.cell? ⟨bb, oo + k * 3 + 2, none⟩ = some (.int .i64 x.z) := (hB.cell (p := ⟨bb, _, none⟩) hbb).trans e2
   have hc' : wr.cell? ⟨g, 0, none⟩ = some (.int .i64 o) := (hB.cell (p := ⟨g, _, none⟩) hg).trans hc
   clear e0 e1 e2
   have hk0 : (0 : Int) ≤ (k : Int) := by omega
   have hk1 : (k : Int) < (l.length : Int) := by omega
   have HX := Lib.hid hx
   clear hx
   cases hq : (x.x == o)
   ·have hne : x.x ≠ o := by simpa using hq
    have HN : Hid (findGo (l.drop (k + 1)) (k + 1) o = R) := by show _ = _; rw [← HR.out, drop_cons HX.out, findGo_cons, if_neg hne]
    have HQ := Lib.hid hq
    clear hq hne
    go_wp2_with (go_at_call 107; refine (rightOf1_any _ _ _ o g _ (by omega) hc').mono ?_; rw [HQ.out]; rintro e w1 ⟨rfl, b1, rfl⟩)
    go_roundw
    case rel => exact ⟨k + 1, by omega, by go_num, HN, by exact tacT⟩
    case measure => simp [intOf]; omega
   ·have hne : x.x = o := by simpa using hq
    have HN : Hid (R = (k : Int)) := by show _ = _; rw [← HR.out, drop_cons HX.out, findGo_cons, if_pos hne]
    have HQ := Lib.hid hq
    clear hq hne
    go_wp2_with (go_at_call 107; refine (rightOf1_any _ _ _ o g _ (by omega) hc').mono ?_; rw [HQ.out]; rintro e w1 ⟨rfl, b1, rfl⟩)
    go_ret
    exact ⟨ret_int HN.out.symm, by exact tacT⟩
  ·have e1 := HR.out
   rw [drop_end hlt] at e1
   have HX : Hid (R = -1) := e1.symm
   clear e1
   go_wp2_with fail
   go_ret
   exact ⟨ret_int HX.out.symm, hB⟩
theorem rightOf_any (A : Option Addr) (c : Nat) (l : List T3) (o : Int) (w : World) (h : RdT w w.heap.size A c l) :
  Calls Tryz.prog 71 #[.slice A l.length c, .int .i64 o] w fun e w' => e = .returned (.int .i64 (rightAt l o)) ∧ Below w.heap.size w w' := by
 have H1 : Hid (∀ W : World, Below w.heap.size w W → ∀ g, g < W.heap.size → W.cell? ⟨g, 0, none⟩ = some (.int .i64 o) → Calls Tryz.prog 106 #[.slice A l.length c, .func (.func 107) #[] #[.pointer (some ⟨g, 0, none⟩)]] W fun e w' => e = .returned (.int .i64 (rightAt l o)) ∧ Below W.heap.size W w') := fun W hb g hg hc => IndexRight_any A c l o g W (h.below hb) hg hc
 have hB := Below.refl w.heap.size w
 go_enter Tryz.func71, Tryz.ntmps71
 go_wp2_with fail
 refine (H1.out _ (by exact tacT) _ (by simp) (by simp)).mono ?_
 rintro e w1 ⟨rfl, hb⟩
 go_wp2_with fail
 go_ret
 exact ⟨rfl, by exact tacT⟩
set_option maxHeartbeats 800000 in
theorem PartOf_any (t b m : Int) (w : World) :
  Calls Tryz.prog 72 #[.agg #[.int .i64 t, .int .i64 b], .int .i64 m] w fun e w' => e = .returned (.int .i64 (partOf t b m)) ∧ Below w.heap.size w w' := by
 have HF : Hid (∀ (W : World), Calls Tryz.prog 99 #[.agg #[.int .i64 t, .int .i64 b]] W fun e w' => e = .returned (.bool (fracOk t b)) ∧ Below W.heap.size W w') := fun W => FractionOk_any t b W
 have hB := Below.refl w.heap.size w
 cases h1 : fracOk t b
 ·have E : Hid (partOf t b m = -1) := by unfold partOf; rw [h1]; rfl
  have H1 := Lib.hid h1
  clear h1
  go_enter Tryz.func72, Tryz.ntmps72
  go_wp2_with fail
  refine (HF.out _).mono ?_
  rw [H1.out]
  rintro e w1 ⟨rfl, hb⟩
  go_wp2_with fail
  go_ret
  exact ⟨ret_int E.out.symm, by exact tacT⟩
 cases h2 : inB m 0 1000000
 ·have E : Hid (partOf t b m = -1) := by unfold partOf; rw [h1, h2]; rfl
  have H1 := Lib.hid h1
  have H2 := Lib.hid h2
  clear h1 h2
  go_enter Tryz.func72, Tryz.ntmps72
  go_wp2_with fail
  refine (HF.out _).mono ?_
  rw [H1.out]
  rintro e w1 ⟨rfl, hb⟩
  go_wp2_with fail
  refine (within_any _ _ _ _).mono ?_
  rw [H2.out]
  rintro e w2 ⟨rfl, rfl⟩
  go_wp2_with fail
  go_ret
  exact ⟨ret_int E.out.symm, by exact tacT⟩
 have E : Hid (partOf t b m = m * t / b) := by show _ = _; unfold partOf; rw [h1, h2]; rfl
 obtain ⟨f1, f2, f3, f4⟩ := fracOk_iff h1
 obtain ⟨m1, m2⟩ := inB_iff.1 h2
 have p1 : 0 ≤ m * t := Int.mul_nonneg m1 f1
 have p2 : m * t ≤ 10000000000 := by have := Int.mul_le_mul m2 f2 f1 (by omega); omega
 have H1 := Lib.hid h1
 have H2 := Lib.hid h2
 clear h1 h2
 go_enter Tryz.func72, Tryz.ntmps72
 go_wp2_with fail
 first | refine name_world ?_ | refine name_wp ?_
 intro W1 hW
 replace hB : Below w.heap.size w W1 := by rw [hW]; exact tacT
 have hz_W1 : w.heap.size ≤ W1.heap.size := by rw [hW]; exact sT
 replace kb_p : Blk W1 (w.heap.size) 67 #[.int .i64 t, .int .i64 b] := by rw [hW]; exact blkT
 have hLW1_p := kb_p.lt
 try clear kc_p kf_p
 clear hW
 refine (HF.out _).mono ?_
 rw [H1.out]
 rintro e w1 ⟨rfl, hb⟩
 replace hB := hB.trans (Below.mono hb hB.size)
 have hz_w1 : W1.heap.size ≤ w1.heap.size := Below.size hb
 replace kb_p := kb_p.mv hb; obtain ⟨kb_p, kc_p, kf_p, hl_p, hn_p⟩ := kb_p
 clear hb
 go_wp2_with fail
 refine (within_any _ _ _ _).mono ?_
 rw [H2.out]
 rintro e w2 ⟨rfl, rfl⟩
 go_wp2_with fail
 go_ret
 exact ⟨ret_int E.out.symm, by exact tacT⟩
end
section
open Go.RowKit
theorem evOn_liters {v room k l o : Int} (h : (evOn v room k l o).2.2.2.2 = true) : 0 ≤ l ∧ l ≤ 1000000 := by
 cases h3 : inB l 0 1000000
 ·rw [evOn_bad (.inr (.inr h3))] at h; cases h
 ·exact inB_iff.1 h3
theorem runEv_liters (room : Int) : ∀ (l : List T3) (v r d lo : Int), (runEv room l v r d lo).2.2.2.2 = true → ∀ e ∈ l, 0 ≤ e.y ∧ e.y ≤ 1000000
 | [], _, _, _, _, _ => fun e he => by cases he
 |x :: l, v, r, d, lo, h => by
  rw [runEv_cons] at h
  by_cases hc : (evOn v room x.x x.y x.z).2.2.2.2 = true
  ·rw [if_pos hc] at h
   intro e he
   rcases List.mem_cons.1 he with rfl | he
   ·exact evOn_liters hc
   ·exact runEv_liters room l _ _ _ _ h e he
  ·rw [if_neg hc] at h; cases h
theorem runEv_rained (room : Int) : ∀ (l : List T3) (v r d lo : Int), (runEv room l v r d lo).2.2.2.2 = true → r ≤ (runEv room l v r d lo).2.1 ∧ (runEv room l v r d lo).2.1 ≤ r + 1000000 * l.length
 | [], v, r, d, lo, _ => ⟨Int.le_refl r, by show r ≤ r + 1000000 * ((0 : Nat) : Int); omega⟩
 |x :: l, v, r, d, lo, h => by
  rw [runEv_cons] at h ⊢
  by_cases hc : (evOn v room x.x x.y x.z).2.2.2.2 = true
  ·rw [if_pos hc] at h ⊢
   have h1 := runEv_rained room l _ _ _ _ h
   have h2 := evOn_bounds v room x.x x.y x.z hc
   simp only [List.length_cons]
   omega
  ·rw [if_neg hc] at h; cases h
theorem wrap_in {a : Int} (h1 : -9223372036854775808 ≤ a) (h2 : a ≤ 9223372036854775807) : wrap64 a = a := by
 unfold wrap64; omega
theorem drunkGo_bd (kk : Int) : ∀ (l : List T3) (n : Int) (m : Nat), (∀ e ∈ l, 0 ≤ e.y ∧ e.y ≤ 1000000) → 0 ≤ n → n ≤ 1000000 * m → m + l.length ≤ 1000 → 0 ≤ drunkGo kk l n ∧ drunkGo kk l n ≤ 1000000 * (m + l.length)
 | [], n, m, _, h1, h2, _ => ⟨h1, by simp only [List.length_nil]; show n ≤ _; omega⟩
 |x :: l, n, m, h, h1, h2, h3 => by
  rw [drunkGo_cons]
  have hx := h x (List.mem_cons_self ..)
  have hl : ∀ e ∈ l, 0 ≤ e.y ∧ e.y ≤ 1000000 := fun e he => h e (List.mem_cons_of_mem _ he)
  simp only [List.length_cons] at h3 ⊢
  split
  ·rw [wrap_in (by omega) (by omega)]
   have := drunkGo_bd kk l (n + x.y) (m + 1) hl (by omega) (by omega) (by omega)
   omega
  ·have := drunkGo_bd kk l n (m + 1) hl (by omega) (by omega) (by omega)
   omega
theorem drunkBy_bd (b : Bk) (kk : Int) : -1 ≤ drunkBy b kk ∧ drunkBy b kk ≤ 40000000 := by
 unfold drunkBy
 split
 ·rename_i h
  obtain ⟨_, _, i3, i4⟩ := bookOk_iff h
  have := drunkGo_bd kk b.evs 0 0 (runEv_liters _ _ _ _ _ _ i4) (by omega) (by omega) (by omega)
  omega
 ·omega
theorem book_bd {b : Bk} (h : bookOk b = true) : 0 ≤ b.start ∧ b.start ≤ 1000000 ∧ 0 ≤ b.rained ∧ b.rained ≤ 40000000 := by
 obtain ⟨i1, i2, i3, i4⟩ := bookOk_iff h
 have h1 := inB_iff.1 i1
 have h2 := inB_iff.1 i2
 have h3 := runEv_rained _ _ _ _ _ _ i4
 have he : (countBk b.room b.start b.evs).2.1 = b.rained := by
  unfold bookOk at h
  simp only [Bool.and_eq_true, beq_iff_eq] at h
  exact h.1.1.2
 rw [countBk_yes i1 i2 i3] at he
 rw [he] at h3
 omega
theorem partOf_bd (t b m : Int) : -1 ≤ partOf t b m ∧ partOf t b m ≤ 10000000000 := by
 unfold partOf
 split
 ·rename_i h
  rw [Bool.and_eq_true] at h
  obtain ⟨f1, f2, f3, f4⟩ := fracOk_iff h.1
  obtain ⟨m1, m2⟩ := inB_iff.1 h.2
  have p1 : 0 ≤ m * t := Int.mul_nonneg m1 f1
  have p2 : m * t ≤ 10000000000 := by have := Int.mul_le_mul m2 f2 f1 (by omega); omega
  have q1 : 0 ≤ m * t / b := Int.ediv_nonneg p1 (by omega)
  have q2 : m * t / b ≤ m * t := Int.ediv_le_self _ p1
  omega
 ·omega
theorem findGo_cases : ∀ (l : List T3) (k : Nat) (o : Int), (findGo l k o = -1 ∧ ∀ t ∈ l, t.x ≠ o) ∨ ∃ (j : Nat) (t : T3), findGo l k o = ((k + j : Nat) : Int) ∧ l[j]? = some t ∧ t.x = o ∧ shareOf l o = (t.y, t.z)
 | [], _, _ => .inl ⟨rfl, fun t ht => by cases ht⟩
 |x :: l, k, o => by
  rw [findGo_cons, shareOf_cons]
  by_cases hx : x.x = o
  ·rw [if_pos hx, if_pos hx]
   exact .inr ⟨0, x, rfl, rfl, hx, rfl⟩
  ·rw [if_neg hx, if_neg hx]
   rcases findGo_cases l (k + 1) o with ⟨h1, h2⟩ | ⟨j, t, h1, h2, h3, h4⟩
   ·refine .inl ⟨h1, fun t ht => ?_⟩
    rcases List.mem_cons.1 ht with rfl | ht
    ·exact hx
    ·exact h2 t ht
   ·exact .inr ⟨j + 1, t, by rw [h1]; congr 1; omega, by simpa using h2, h3, h4⟩
theorem rightAt_cases (l : List T3) (o : Int) : (rightAt l o = -1 ∧ ∀ t ∈ l, t.x ≠ o) ∨ ∃ (k : Nat) (t : T3), rightAt l o = (k : Int) ∧ k < l.length ∧ l[k]? = some t ∧ t.x = o ∧ shareOf l o = (t.y, t.z) := by
 rcases findGo_cases l 0 o with h | ⟨j, t, h1, h2, h3, h4⟩
 ·exact .inl h
 ·exact .inr ⟨j, t, by unfold rightAt; rw [h1, Nat.zero_add], (List.getElem?_eq_some_iff.1 h2).1, h2, h3, h4⟩
end
section
open Go.RowKit
theorem evOn_bal {v room k l o : Int} (h : (evOn v room k l o).2.2.2.2 = true) : (evOn v room k l o).1 + (evOn v room k l o).2.2.1 + (evOn v room k l o).2.2.2.1 = v + (evOn v room k l o).2.1 := by
 unfold evOn at h ⊢
 split
 ·rename_i h1; rw [if_pos h1] at h; cases h
 ·rename_i h1
  rw [if_neg h1] at h
  split
  ·simp only []; omega
  ·rename_i h2
   rw [if_neg h2] at h
   split
   ·simp only []; omega
   ·rename_i h3
    rw [if_neg h3] at h
    split
    ·simp only []; omega
    ·rename_i h4; rw [if_neg h4] at h; cases h
theorem evOn_drunk {v room k l o : Int} (h : (evOn v room k l o).2.2.2.2 = true) : (evOn v room k l o).2.2.1 = if k = 2 then l else 0 := by
 unfold evOn at h ⊢
 split
 ·rename_i h1; rw [if_pos h1] at h; cases h
 ·rename_i h1
  rw [if_neg h1] at h
  split
  ·rename_i h2; rw [if_neg (by omega)]
  ·rename_i h2
   rw [if_neg h2] at h
   split
   ·rename_i h3; rw [if_pos h3.1]
   ·rename_i h3
    rw [if_neg h3] at h
    split
    ·rename_i h4; rw [if_neg (by omega)]
    ·rename_i h4; rw [if_neg h4] at h; cases h
theorem evOn_range {v room k l o : Int} (h : (evOn v room k l o).2.2.2.2 = true) : 0 ≤ v ∧ v ≤ room ∧ 0 ≤ (evOn v room k l o).1 ∧ (evOn v room k l o).1 ≤ room := by
 unfold evOn at h ⊢
 split
 ·rename_i h1; rw [if_pos h1] at h; cases h
 ·rename_i h1
  rw [if_neg h1] at h
  simp [inB] at h1
  split
  ·simp only []; omega
  ·rename_i h2
   rw [if_neg h2] at h
   split
   ·simp only []; omega
   ·rename_i h3
    rw [if_neg h3] at h
    split
    ·simp only []; omega
    ·rename_i h4; rw [if_neg h4] at h; cases h
theorem runEv_bal (room : Int) : ∀ (l : List T3) (v r d lo : Int), (runEv room l v r d lo).2.2.2.2 = true → (runEv room l v r d lo).1 + (runEv room l v r d lo).2.2.1 + (runEv room l v r d lo).2.2.2.1 - (runEv room l v r d lo).2.1 = v + d + lo - r
 | [], _, _, _, _, _ => rfl
 |e :: es, v, r, d, lo, h => by
  rw [runEv_cons] at h ⊢
  split at h
  ·rename_i hok
   rw [if_pos hok, runEv_bal room es _ _ _ _ h]
   have := evOn_bal hok
   omega
  ·cases h
/-- Litres drunk by all, by one. -/
def dall : List T3 → Int
 | [] => 0
 |t :: l => (if t.x = 2 then t.y else 0) + dall l
def dby (o : Int) : List T3 → Int
 | [] => 0
 |t :: l => (if t.x = 2 ∧ t.z = o then t.y else 0) + dby o l
theorem runEv_drunk (room : Int) : ∀ (l : List T3) (v r d lo : Int), (runEv room l v r d lo).2.2.2.2 = true → (runEv room l v r d lo).2.2.1 = d + dall l
 | [], _, _, d, _, _ => by show d = d + 0; omega
 |e :: es, v, r, d, lo, h => by
  rw [runEv_cons] at h ⊢
  split at h
  ·rename_i hok
   rw [if_pos hok, runEv_drunk room es _ _ _ _ h, evOn_drunk hok]
   show _ = d + ((if e.x = 2 then e.y else 0) + dall es)
   omega
  ·cases h
theorem dby_bd (o : Int) : ∀ (l : List T3), (∀ e ∈ l, 0 ≤ e.y ∧ e.y ≤ 1000000) → 0 ≤ dby o l ∧ dby o l ≤ 1000000 * l.length
 | [], _ => by simp [dby]
 |t :: l, h => by
  have := dby_bd o l (fun e he => h e (by simp [he]))
  have h2 := h t (by simp)
  simp only [dby, List.length_cons]
  split <;> omega
theorem drunkGo_eq (kk : Int) : ∀ (l : List T3) (n : Int), (∀ e ∈ l, 0 ≤ e.y ∧ e.y ≤ 1000000) → 0 ≤ n → n + 1000000 * l.length ≤ 1000000000 → drunkGo kk l n = n + dby kk l
 | [], n, _, _, _ => by show n = n + 0; omega
 |t :: l, n, h, h0, h1 => by
  have h2 := h t (by simp)
  simp only [List.length_cons] at h1
  rw [drunkGo_cons]
  simp only [dby]
  split
  ·rw [wrap_in (by omega) (by omega), drunkGo_eq kk l _ (fun e he => h e (by simp [he])) (by omega) (by omega)]; omega
  ·rw [drunkGo_eq kk l _ (fun e he => h e (by simp [he])) (by omega) (by omega)]; omega
theorem book_liters {b : Bk} (h : bookOk b = true) : ∀ e ∈ b.evs, 0 ≤ e.y ∧ e.y ≤ 1000000 := by
 obtain ⟨_, _, _, h4⟩ := bookOk_iff h
 exact runEv_liters b.room b.evs _ _ _ _ h4
theorem drunkBy_eq {b : Bk} (h : bookOk b = true) (kk : Int) : drunkBy b kk = dby kk b.evs := by
 have h1 := book_liters h
 obtain ⟨_, _, h3, _⟩ := bookOk_iff h
 unfold drunkBy
 rw [if_pos h, drunkGo_eq kk b.evs 0 h1 (by omega) (by omega)]; omega
/-- What a valid book holds is what its events make. -/
theorem book_made {b : Bk} (h : bookOk b = true) : madeBk b.room b.start b.evs = b := by
 obtain ⟨h1, h2, h3, _⟩ := bookOk_iff h
 have hc := countBk_yes h1 h2 h3
 unfold bookOk at h
 rw [hc] at h
 simp only [Bool.and_eq_true, beq_iff_eq] at h
 unfold madeBk
 obtain ⟨room, start, l, lv, ra, dr, lo⟩ := b
 simp only [Bk.mk.injEq, true_and] at h ⊢
 exact ⟨h.1.1.1.2, h.1.1.2, h.1.2, h.2⟩
theorem made_ok {room start : Int} {l : List T3} (h1 : inB room 1 1000000 = true) (h2 : inB start 0 room = true) (h3 : l.length ≤ 40) (h4 : (runEv room l start 0 0 0).2.2.2.2 = true) : bookOk (madeBk room start l) = true := by
 have hc := countBk_yes h1 h2 h3
 unfold bookOk madeBk
 simp only [hc, h4]
 simp
theorem book_run {b : Bk} (h : bookOk b = true) : runEv b.room b.evs b.start 0 0 0 = (b.level, b.rained, b.drunk, b.lost, true) := by
 have h1 := book_made h
 have h2 := (bookOk_iff h).2.2.2
 unfold madeBk at h1
 obtain ⟨room, start, l, lv, ra, dr, lo⟩ := b
 simp only [Bk.mk.injEq, true_and] at h1 h2 ⊢
 obtain ⟨e1, e2, e3, e4⟩ := h1
 rw [← e1, ← e2, ← e3, ← e4, ← h2]
theorem book_level {b : Bk} (h : bookOk b = true) : 0 ≤ b.level ∧ b.level ≤ b.room ∧ 1 ≤ b.room ∧ b.room ≤ 1000000 := by
 obtain ⟨h1, h2, h3, h4⟩ := bookOk_iff h
 have i1 := inB_iff.1 h1
 have i2 := inB_iff.1 h2
 have hr := book_run h
 have key : ∀ (l : List T3) (v r d lo : Int), 0 ≤ v → v ≤ b.room → 0 ≤ (runEv b.room l v r d lo).1 ∧ (runEv b.room l v r d lo).1 ≤ b.room := by
  intro l
  induction l with
  |nil => intro v r d lo h0 h1; exact ⟨h0, h1⟩
  |cons e es ih =>
   intro v r d lo h0 h1
   rw [runEv_cons]
   split
   ·rename_i hok
    have := evOn_range hok
    exact ih _ _ _ _ this.2.2.1 this.2.2.2
   ·exact ⟨h0, h1⟩
 have := key b.evs b.start 0 0 0 i2.1 i2.2
 rw [hr] at this
 exact ⟨this.1, this.2, i1.1, i1.2⟩
theorem book_balance {b : Bk} (h : bookOk b = true) : b.start + b.rained = b.level + b.drunk + b.lost := by
 have := runEv_bal b.room b.evs b.start 0 0 0 (bookOk_iff h).2.2.2
 rw [book_run h] at this
 simp only at this
 omega
theorem book_drunk {b : Bk} (h : bookOk b = true) : b.drunk = dall b.evs := by
 have := runEv_drunk b.room b.evs b.start 0 0 0 (bookOk_iff h).2.2.2
 rw [book_run h] at this
 simp only at this
 omega
theorem runEv_app (room : Int) (e : T3) : ∀ (l : List T3) (v r d lo : Int), (runEv room l v r d lo).2.2.2.2 = true → runEv room (l ++ [e]) v r d lo = runEv room [e] (runEv room l v r d lo).1 (runEv room l v r d lo).2.1 (runEv room l v r d lo).2.2.1 (runEv room l v r d lo).2.2.2.1
 | [], _, _, _, _, _ => rfl
 |a :: l, v, r, d, lo, h => by
  rw [List.cons_append, runEv_cons]
  rw [runEv_cons] at h
  split at h
  ·rename_i hok
   rw [if_pos hok, runEv_app room e l _ _ _ _ h]
   rw [runEv_cons room a l, if_pos hok]
  ·cases h
/-- One more event in a valid book. -/
theorem enter_book {b : Bk} (h : bookOk b = true) (e : T3) (hl : b.evs.length < 40) : enter b e = if (evOn b.level b.room e.x e.y e.z).2.2.2.2 then (⟨b.room, b.start, b.evs ++ [e], (evOn b.level b.room e.x e.y e.z).1, b.rained + (evOn b.level b.room e.x e.y e.z).2.1, b.drunk + (evOn b.level b.room e.x e.y e.z).2.2.1, b.lost + (evOn b.level b.room e.x e.y e.z).2.2.2.1⟩, true) else (b, false) := by
 have hr := book_run h
 have ha := runEv_app b.room e b.evs b.start 0 0 0 (bookOk_iff h).2.2.2
 rw [hr] at ha
 simp only [runEv_cons] at ha
 unfold enter enterOk madeBk
 rw [h, decide_eq_true hl, ha]
 cases hok : (evOn b.level b.room e.x e.y e.z).2.2.2.2
 ·simp
 ·simp [runEv]
theorem enter_ok {b : Bk} (h : bookOk b = true) (e : T3) (hl : b.evs.length < 40) (he : (evOn b.level b.room e.x e.y e.z).2.2.2.2 = true) : bookOk (enter b e).1 = true := by
 have ha := runEv_app b.room e b.evs b.start 0 0 0 (bookOk_iff h).2.2.2
 rw [book_run h] at ha
 simp only [runEv_cons, he, if_true] at ha
 obtain ⟨h1, h2, h3, h4⟩ := bookOk_iff h
 have e1 : enter b e = (madeBk b.room b.start (b.evs ++ [e]), true) := by
  unfold enter enterOk
  rw [h, decide_eq_true hl, ha]
  simp [runEv]
 rw [e1]
 exact made_ok h1 h2 (by simp; omega) (by rw [ha]; rfl)
end
section
open Go.RowKit
set_option maxRecDepth 20000
/-- What a drawn event is. -/
def EvD (x y z : Int) : Prop := (x = 1 ∧ 0 ≤ y ∧ y < 120 ∧ z = 0) ∨ (x = 2 ∧ 0 ≤ y ∧ y < 60 ∧ 1 ≤ z ∧ z ≤ 4) ∨ (x = 3 ∧ 0 ≤ y ∧ y < 20 ∧ z = 0)
set_option maxHeartbeats 1600000 in
theorem l37Event_any (p : Nat) (w : World) (h : Cur w p) :
  Calls Tryz.prog 122 #[.pointer (some ⟨p, 0, none⟩)] w fun e w' => ∃ x y z : Int, e = .returned (.agg #[.int .i64 x, .int .i64 y, .int .i64 z]) ∧ EvD x y z ∧ Drew p w w' := by
 have hpl := h.lt
 have D0 : Hid (Drew p w (w.alloc (.cells #[.int .i64 0, .int .i64 0, .int .i64 0] 120))) := (Drew.here h).alloc _
 have kb := Blk.new w 120 #[.int .i64 0, .int .i64 0, .int .i64 0]
 have hne : w.heap.size ≠ p := by omega
 go_enter Tryz.func122, Tryz.ntmps122
 go_wp2_with fail
 refine (l01Below_any p 3 _ D0.out.1 (by omega)).mono ?_
 rintro e w1 ⟨x, rfl, x0, x1, _, hd⟩
 replace x1 := x1 (by omega)
 have kb1 := hd.blk kb hne
 have D1 := Lib.hid (D0.out.trans hd)
 clear hd kb D0
 have hs1 : w.heap.size < w1.heap.size := kb1.lt
 by_cases e0 : x = 0
 ·subst e0
  have K1 := Lib.hid kb1
  clear kb1
  go_wp2_with fail
  refine (l01Below_any p 120 w1 D1.out.1 (by omega)).mono ?_
  rintro e w2 ⟨y, rfl, y0, y1, _, hd⟩
  replace y1 := y1 (by omega)
  have kb2 := hd.blk K1.out hne
  have D2 := Lib.hid (D1.out.trans hd)
  have kc := kb2.cells
  have kf := kb2.frozens
  have hl2 := kb2.lt
  clear hd
  go_wp2_with fail
  refine bodyPost_ret (v := .agg #[.int .i64 1, .int .i64 y, .int .i64 0]) (by simp [results, Tryz.results122, go_sem, kc, hl2]) rfl ⟨1, y, 0, rfl, .inl ⟨rfl, y0, y1, rfl⟩, ?_⟩
  repeat' (first | exact D2.out | (refine Drew.store ?_ hpl (Nat.le_refl _) _ _))
 by_cases e1 : x = 1
 ·subst e1
  have K1 := Lib.hid kb1
  clear kb1
  go_wp2_with fail
  refine (l01Below_any p 60 w1 D1.out.1 (by omega)).mono ?_
  rintro e w2 ⟨y, rfl, y0, y1, _, hd⟩
  replace y1 := y1 (by omega)
  have K2 := Lib.hid (hd.blk K1.out hne)
  have D2 := Lib.hid (D1.out.trans hd)
  clear hd
  go_wp2_with fail
  refine (l01Below_any p 4 w2 D2.out.1 (by omega)).mono ?_
  rintro e w3 ⟨z, rfl, z0, z1, _, hd⟩
  replace z1 := z1 (by omega)
  have kb3 := hd.blk K2.out hne
  have D3 := Lib.hid (D2.out.trans hd)
  have kc := kb3.cells
  have kf := kb3.frozens
  have hl3 := kb3.lt
  clear hd
  go_wp2_with fail
  refine bodyPost_ret (v := .agg #[.int .i64 2, .int .i64 y, .int .i64 (1 + z)]) (by simp [results, Tryz.results122, go_sem, kc, hl3]) rfl ⟨2, y, 1 + z, rfl, .inr (.inl ⟨rfl, y0, y1, by omega, by omega⟩), ?_⟩
  repeat' (first | exact D3.out | (refine Drew.store ?_ hpl (Nat.le_refl _) _ _))
 ·have K1 := Lib.hid kb1
  clear kb1
  have e0' : (x == 0) = false := by simpa using e0
  have e1' : (x == 1) = false := by simpa using e1
  go_wp2_with fail
  refine (l01Below_any p 20 w1 D1.out.1 (by omega)).mono ?_
  rintro e w2 ⟨y, rfl, y0, y1, _, hd⟩
  replace y1 := y1 (by omega)
  have kb2 := hd.blk K1.out hne
  have D2 := Lib.hid (D1.out.trans hd)
  have kc := kb2.cells
  have kf := kb2.frozens
  have hl2 := kb2.lt
  clear hd
  go_wp2_with fail
  refine bodyPost_ret (v := .agg #[.int .i64 3, .int .i64 y, .int .i64 0]) (by simp [results, Tryz.results122, go_sem, kc, hl2]) rfl ⟨3, y, 0, rfl, .inr (.inr ⟨rfl, y0, y1, rfl⟩), ?_⟩
  repeat' (first | exact D2.out | (refine Drew.store ?_ hpl (Nat.le_refl _) _ _))
end
end Go.Proofs.YtpmmjhpmheooeaaGreatDoor
