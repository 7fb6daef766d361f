/- The law FnReserves answers true for every code. No conditions. -/
import Derived.Test.YtonlfkofiljboaaReservesPure
import Derived.Test.YtonlfkofiljboaaOpenBytes
namespace Go.Proofs.Ytonlfkofiljboaa
open Go.ChangeShapes Go.WideShapes Go.ChangeAt Go.RowKit
set_option maxRecDepth 20000
theorem rd_cells {w : World} {g : Nat} {t : TypeId} {cs : Array Value} {l : List T3} (h : Blk w g t cs) (hc : cs.toList = t3s l) (hl : l.length ≤ 1000) : RdT w w.heap.size (some ⟨g, 0, none⟩) l.length l :=
  ⟨t3s_len l, Nat.le_refl _, by omega, fun _ => ⟨g, 0, rfl, h.lt, fun j u hu => by
    rw [Nat.zero_add, h.cell, ← hu, ← hc, Array.getElem?_toList]⟩⟩
/-- The reserves that an answer names. -/
def sm (z : Int) : List Int → Int
  | [] => 0
  | i :: l => (if i = 0 then z else 20) + sm z l
theorem sm_cons (z i : Int) (l : List Int) : sm z (i :: l) = (if i = 0 then z else 20) + sm z l := rfl
theorem sm_bd (z : Int) (h0 : 0 ≤ z) (h1 : z ≤ 1000) : ∀ l, 0 ≤ sm z l ∧ sm z l ≤ 1020 * l.length
  | [] => by simp [sm]
  | i :: l => by
    have := sm_bd z h0 h1 l
    rw [sm_cons, List.length_cons]
    split <;> omega
theorem shared3_law {x y z : Int} (h : storeOk x y z = true) : ∃ lr, shared [⟨x, y, z⟩, ⟨50, 9, 20⟩, ⟨50, 9, 20⟩] 30 = lr ∧ (∀ v ∈ lr, 0 ≤ v ∧ v ≤ 2) ∧ 30 ≤ sm z lr ∧ (lr.length : Int) = 2 - (if decide (30 ≤ z) = true then 1 else 0) ∧ lr.length ≤ 2 := by
  refine ⟨_, shared3 h, ?_⟩
  by_cases h30 : 30 ≤ z
  · rw [if_pos h30]; simp [sm, h30]
  · rw [if_neg h30]
    by_cases h20 : 20 ≤ z
    · rw [if_pos h20]; simp [sm, h30]; omega
    · rw [if_neg h20]; simp [sm, h30]
theorem Usable_b (x y z : Int) (w : World) :
    Calls Try.prog 25 #[.agg #[.int .i64 x, .int .i64 y, .int .i64 z]] w fun e w' => e = .returned (.int .i64 (usable x y z)) ∧ Below w.heap.size w w' :=
  (Usable_any x y z w).mono fun e w' ⟨h1, o1, o2, o3, h2⟩ => ⟨h1, by subst h2; have hB := Below.refl w.heap.size w; repeat' (first | (with_reducible exact Below.refl _ _) | (with_reducible assumption) | (with_reducible refine Below.alloc ?_ ?_ _) | (with_reducible refine Below.setCell ?_ ?_ _) | (with_reducible refine Below.drew ?_) | (with_reducible refine below_drewN ?_ _) | (refine Below.trans ?_ (Below.mono (by with_reducible assumption) ?_)) | omega | (simp; done) | (simp; omega))⟩
set_option maxHeartbeats 6400000 in
theorem walk_FnReserves (w : World) (A : Option Addr) (c : Nat) (l : List Int) (h : RdY w w.heap.size A c l) :
    Calls Try.prog 5 #[.slice A l.length c] w fun e w' => e = .returned (.bool true) ∧ Below w.heap.size w w' := by
  have hB := Below.refl w.heap.size w
  obtain ⟨hl, hm⟩ := h.le
  by_cases hbig : (1048576 : Int) < l.length
  · go_enter Try.func5, Try.ntmps5
    go_wp2_with fail
    refine (big_any A l.length c w (by omega)).mono ?_
    rintro e w1 ⟨rfl, rfl⟩
    go_wp2_with fail
    go_ret
    exact ⟨rfl, hB⟩
  have hs : l.length ≤ 1048576 := by omega
  have hbd : decide ((1048576 : Int) < l.length) = false := by simpa using hbig
  go_enter Try.func5, Try.ntmps5
  go_wp2_with fail
  refine (big_any A l.length c w (by omega)).mono ?_
  rintro e w1 ⟨rfl, rfl⟩
  rw [hbd]
  go_wp2_with fail
  refine (DrawStore_any A c l w h hs).mono ?_
  rintro e w1 ⟨x, y, z, rfl, hok, hx, hb⟩
  replace hB := hB.trans (hb.mono hB.size)
  have hz1 := hB.size
  clear hb
  obtain ⟨_, x1, x2, y1, y2, z1, z2⟩ := storeOk_parts hok
  have HOK := Lib.hid hok
  clear hok
  go_wp2_with fail
  first | refine name_world ?_ | refine name_wp ?_
  intro W1 hW
  replace hB : Below w.heap.size w W1 := by rw [hW]; repeat' (first | (with_reducible exact Below.refl _ _) | (with_reducible assumption) | (with_reducible refine Below.alloc ?_ ?_ _) | (with_reducible refine Below.setCell ?_ ?_ _) | (with_reducible refine Below.drew ?_) | (with_reducible refine below_drewN ?_ _) | (refine Below.trans ?_ (Below.mono (by with_reducible assumption) ?_)) | omega | (simp; done) | (simp; omega))
  have hz_W1 : w1.heap.size ≤ W1.heap.size := by rw [hW]; first | (simp; done) | (simp; omega)
  replace kb_s : Blk W1 (w1.heap.size) 50 #[.int .i64 x, .int .i64 y, .int .i64 z] := by rw [hW]; repeat' (first | (with_reducible assumption) | (with_reducible refine Blk.drew ?_) | (with_reducible refine Blk.drewN ?_ _) | (with_reducible refine Blk.new' _ _ _ _ ?_; (first | rfl | omega | (simp; done))) | (with_reducible exact Blk.new _ _ _) | (with_reducible refine Blk.alloc ?_ _) | (with_reducible apply Blk.set8) | (with_reducible apply Blk.set7of8) | (with_reducible apply Blk.setlast8) | (with_reducible apply Blk.set7) | (with_reducible apply Blk.set2) | (with_reducible apply Blk.set3) | (with_reducible refine Blk.far ?_ ?_ _) | (simp; done) | (simp; omega) | (dsimp only; omega))
  have hLW1_s := kb_s.lt
  try clear kc_s kf_s
  clear hW
  have hY1 := RdY.below h hB
  refine (at_any A c l 0 W1 hY1 (by omega) hs).mono ?_
  rintro e w2 ⟨a, rfl, a0, a1, rfl⟩
  have ha : inB a 0 1000000 = true := inB_iff.2 (by omega)
  -- the four answers
  have hu9 : usable x y z = max 0 (y - z) := by unfold usable; rw [HOK.out]; rfl
  obtain ⟨u, hu⟩ : ∃ u, u = max 0 (y - z) := ⟨_, rfl⟩
  have HU : Hid (∀ W, Calls Try.prog 25 #[.agg #[.int .i64 x, .int .i64 y, .int .i64 z]] W fun e w' => e = .returned (.int .i64 u) ∧ Below W.heap.size W w') := fun W => by
    have := Usable_b x y z W
    rwa [hu9, ← hu] at this
  obtain ⟨n, hn⟩ : ∃ n, n = min a u := ⟨_, rfl⟩
  have HW : Hid (∀ W, Calls Try.prog 26 #[.agg #[.int .i64 x, .int .i64 y, .int .i64 z], .int .i64 a] W fun e w' => e = .returned (.tuple #[.agg #[.int .i64 x, .int .i64 (y - n), .int .i64 z], .int .i64 n]) ∧ Below W.heap.size W w') := fun W => by
    have := UseWater_any x y z a W
    have e1 : takeOut x y n = (x, y - n, n) := by
      unfold takeOut
      rw [(storeOk_parts HOK.out).1, inB_iff.2 ⟨by omega, by omega⟩, show min n y = n by omega]; rfl
    rw [useWater_yes HOK.out ha, hu9, ← hu, ← hn, e1] at this
    exact this
  obtain ⟨m, hm⟩ : ∃ m, m = min a y := ⟨_, rfl⟩
  have HF : Hid (∀ W, Calls Try.prog 27 #[.agg #[.int .i64 x, .int .i64 y, .int .i64 z], .int .i64 a] W fun e w' => e = .returned (.tuple #[.agg #[.int .i64 x, .int .i64 (y - m), .int .i64 z], .int .i64 m]) ∧ Below W.heap.size W w') := fun W => by
    have := FightFire_v x y z a W HOK.out ha
    rwa [← hm] at this
  obtain ⟨i, hi⟩ : ∃ i, i = min a (x - y) := ⟨_, rfl⟩
  have HP : Hid (∀ W, Calls Try.prog 28 #[.agg #[.int .i64 x, .int .i64 y, .int .i64 z], .int .i64 a] W fun e w' => e = .returned (.tuple #[.agg #[.int .i64 x, .int .i64 (y + i), .int .i64 z], .int .i64 (a - i)]) ∧ Below W.heap.size W w') := fun W => by
    have := FillStore_v x y z a W HOK.out ha
    rwa [← hi] at this
  obtain ⟨ay, hay⟩ : ∃ ay, ay = y - n := ⟨_, rfl⟩
  obtain ⟨fy, hfy⟩ : ∃ fy, fy = y - m := ⟨_, rfl⟩
  obtain ⟨cy, hcy⟩ : ∃ cy, cy = y + i := ⟨_, rfl⟩
  obtain ⟨ov, hov⟩ : ∃ ov, ov = a - i := ⟨_, rfl⟩
  rw [← hay] at HW
  rw [← hfy] at HF
  rw [← hcy, ← hov] at HP
  have HS1 : Hid (∀ W, Calls Try.prog 30 #[.agg #[.int .i64 x, .int .i64 ay, .int .i64 z]] W fun e w' => e = .returned (.bool true) ∧ Below W.heap.size W w') := fun W => by
    have := storeOk_b x ay z W
    rwa [storeOk_of (by omega)] at this
  have HS2 : Hid (∀ W, Calls Try.prog 30 #[.agg #[.int .i64 x, .int .i64 fy, .int .i64 z]] W fun e w' => e = .returned (.bool true) ∧ Below W.heap.size W w') := fun W => by
    have := storeOk_b x fy z W
    rwa [storeOk_of (by omega)] at this
  have HS3 : Hid (∀ W, Calls Try.prog 30 #[.agg #[.int .i64 x, .int .i64 cy, .int .i64 z]] W fun e w' => e = .returned (.bool true) ∧ Below W.heap.size W w') := fun W => by
    have := storeOk_b x cy z W
    rwa [storeOk_of (by omega)] at this
  have b1 : 0 ≤ u ∧ u ≤ 1000000 := by omega
  have b2 : 0 ≤ n ∧ n ≤ 1000000 := by omega
  have b3 : 0 ≤ m ∧ m ≤ 1000000 := by omega
  have b4 : 0 ≤ ay ∧ ay ≤ 1000000 := by omega
  have b5 : 0 ≤ fy ∧ fy ≤ 1000000 := by omega
  have b6 : 0 ≤ cy ∧ cy ≤ 1000000 := by omega
  have b7 : 0 ≤ ov ∧ ov ≤ 1000000 := by omega
  have q1 : max 0 (y - z) = u := hu.symm
  have q2 : min a u = n := hn.symm
  have q3 : min a y = m := hm.symm
  have q4 : ay + n = y := by omega
  have q5 : fy + m = y := by omega
  have q6 : cy + ov = y + a := by omega
  obtain ⟨mz, hmz⟩ : ∃ mz, min y z = mz := ⟨_, rfl⟩
  have q7 : mz ≤ ay := by omega
  have q8 : decide (mz ≤ ay) = true := decide_eq_true q7
  obtain ⟨lr, hlr, lr1, lr2, lr3, lr4⟩ := shared3_law HOK.out
  have HLR := Lib.hid (And.intro hlr (And.intro lr1 lr2))
  obtain ⟨dd, hdd⟩ : ∃ dd : Int, dd = if decide (30 ≤ z) = true then 1 else 0 := ⟨_, rfl⟩
  rw [← hdd] at lr3
  have HBT : Hid (∀ W, Calls Try.prog 31 #[.bool (decide (30 ≤ z))] W fun e w' => e = .returned (.int .i64 dd) ∧ W = w') := fun W => by
    have := btoi_any (decide (30 ≤ z)) W
    rwa [← hdd] at this
  have d01 : 0 ≤ dd ∧ dd ≤ 1 := by rw [hdd]; split <;> omega
  have LEN : Hid ((lr.length : Int) = 2 - dd) := lr3
  clear hdd
  clear hu hn hm hi hay hfy hcy hov hu9 hlr lr1 lr2 lr3
  have kc_s := kb_s.cells
  have kf_s := kb_s.frozens
  have hl_s := kb_s.lt
  have hn_s := Nat.ne_of_lt kb_s.lt
  go_wp2_with fail
  refine (HU.out _).mono ?_
  rintro e w3 ⟨rfl, hb⟩
  replace hB := hB.trans (Below.mono hb hB.size)
  have hz_w3 : W1.heap.size ≤ w3.heap.size := Below.size hb
  replace kb_s := Blk.below kb_s hb (by first | exact kb_s.lt | (have := kb_s.lt; omega))
  have kc_s := kb_s.cells
  have kf_s := kb_s.frozens
  have hl_s := kb_s.lt
  have hn_s := Nat.ne_of_lt kb_s.lt
  clear hb
  go_wp2_with fail
  refine (HW.out _).mono ?_
  rintro e w4 ⟨rfl, hb⟩
  replace hB := hB.trans (Below.mono hb hB.size)
  have hz_w4 : w3.heap.size ≤ w4.heap.size := Below.size hb
  replace kb_s := Blk.below kb_s hb (by first | exact kb_s.lt | (have := kb_s.lt; omega))
  have kc_s := kb_s.cells
  have kf_s := kb_s.frozens
  have hl_s := kb_s.lt
  have hn_s := Nat.ne_of_lt kb_s.lt
  clear hb
  go_wp2_with fail
  first | refine name_world ?_ | refine name_wp ?_
  intro W5 hW
  replace hB : Below w.heap.size w W5 := by rw [hW]; repeat' (first | (with_reducible exact Below.refl _ _) | (with_reducible assumption) | (with_reducible refine Below.alloc ?_ ?_ _) | (with_reducible refine Below.setCell ?_ ?_ _) | (with_reducible refine Below.drew ?_) | (with_reducible refine below_drewN ?_ _) | (refine Below.trans ?_ (Below.mono (by with_reducible assumption) ?_)) | omega | (simp; done) | (simp; omega))
  have hz_W5 : w4.heap.size ≤ W5.heap.size := by rw [hW]; first | (simp; done) | (simp; omega)
  replace kb_s : Blk W5 (w1.heap.size) 50 #[.int .i64 x, .int .i64 y, .int .i64 z] := by rw [hW]; repeat' (first | (with_reducible assumption) | (with_reducible refine Blk.drew ?_) | (with_reducible refine Blk.drewN ?_ _) | (with_reducible refine Blk.new' _ _ _ _ ?_; (first | rfl | omega | (simp; done))) | (with_reducible exact Blk.new _ _ _) | (with_reducible refine Blk.alloc ?_ _) | (with_reducible apply Blk.set8) | (with_reducible apply Blk.set7of8) | (with_reducible apply Blk.setlast8) | (with_reducible apply Blk.set7) | (with_reducible apply Blk.set2) | (with_reducible apply Blk.set3) | (with_reducible refine Blk.far ?_ ?_ _) | (simp; done) | (simp; omega) | (dsimp only; omega))
  have hLW5_s := kb_s.lt
  replace kb_a : Blk W5 (w4.heap.size) 50 #[.int .i64 x, .int .i64 ay, .int .i64 z] := by rw [hW]; repeat' (first | (with_reducible assumption) | (with_reducible refine Blk.drew ?_) | (with_reducible refine Blk.drewN ?_ _) | (with_reducible refine Blk.new' _ _ _ _ ?_; (first | rfl | omega | (simp; done))) | (with_reducible exact Blk.new _ _ _) | (with_reducible refine Blk.alloc ?_ _) | (with_reducible apply Blk.set8) | (with_reducible apply Blk.set7of8) | (with_reducible apply Blk.setlast8) | (with_reducible apply Blk.set7) | (with_reducible apply Blk.set2) | (with_reducible apply Blk.set3) | (with_reducible refine Blk.far ?_ ?_ _) | (simp; done) | (simp; omega) | (dsimp only; omega))
  have hLW5_a := kb_a.lt
  try clear kc_s kf_s
  try clear kc_a kf_a
  clear hW
  refine (HF.out _).mono ?_
  rintro e w5 ⟨rfl, hb⟩
  replace hB := hB.trans (Below.mono hb hB.size)
  have hz_w5 : W5.heap.size ≤ w5.heap.size := Below.size hb
  replace kb_s := Blk.below kb_s hb (by first | exact kb_s.lt | (have := kb_s.lt; omega))
  have kc_s := kb_s.cells
  have kf_s := kb_s.frozens
  have hl_s := kb_s.lt
  have hn_s := Nat.ne_of_lt kb_s.lt
  replace kb_a := Blk.below kb_a hb (by first | exact kb_a.lt | (have := kb_a.lt; omega))
  have kc_a := kb_a.cells
  have kf_a := kb_a.frozens
  have hl_a := kb_a.lt
  have hn_a := Nat.ne_of_lt kb_a.lt
  clear hb
  go_wp2_with fail
  first | refine name_world ?_ | refine name_wp ?_
  intro W6 hW
  replace hB : Below w.heap.size w W6 := by rw [hW]; repeat' (first | (with_reducible exact Below.refl _ _) | (with_reducible assumption) | (with_reducible refine Below.alloc ?_ ?_ _) | (with_reducible refine Below.setCell ?_ ?_ _) | (with_reducible refine Below.drew ?_) | (with_reducible refine below_drewN ?_ _) | (refine Below.trans ?_ (Below.mono (by with_reducible assumption) ?_)) | omega | (simp; done) | (simp; omega))
  have hz_W6 : w5.heap.size ≤ W6.heap.size := by rw [hW]; first | (simp; done) | (simp; omega)
  replace kb_s : Blk W6 (w1.heap.size) 50 #[.int .i64 x, .int .i64 y, .int .i64 z] := by rw [hW]; repeat' (first | (with_reducible assumption) | (with_reducible refine Blk.drew ?_) | (with_reducible refine Blk.drewN ?_ _) | (with_reducible refine Blk.new' _ _ _ _ ?_; (first | rfl | omega | (simp; done))) | (with_reducible exact Blk.new _ _ _) | (with_reducible refine Blk.alloc ?_ _) | (with_reducible apply Blk.set8) | (with_reducible apply Blk.set7of8) | (with_reducible apply Blk.setlast8) | (with_reducible apply Blk.set7) | (with_reducible apply Blk.set2) | (with_reducible apply Blk.set3) | (with_reducible refine Blk.far ?_ ?_ _) | (simp; done) | (simp; omega) | (dsimp only; omega))
  have hLW6_s := kb_s.lt
  replace kb_a : Blk W6 (w4.heap.size) 50 #[.int .i64 x, .int .i64 ay, .int .i64 z] := by rw [hW]; repeat' (first | (with_reducible assumption) | (with_reducible refine Blk.drew ?_) | (with_reducible refine Blk.drewN ?_ _) | (with_reducible refine Blk.new' _ _ _ _ ?_; (first | rfl | omega | (simp; done))) | (with_reducible exact Blk.new _ _ _) | (with_reducible refine Blk.alloc ?_ _) | (with_reducible apply Blk.set8) | (with_reducible apply Blk.set7of8) | (with_reducible apply Blk.setlast8) | (with_reducible apply Blk.set7) | (with_reducible apply Blk.set2) | (with_reducible apply Blk.set3) | (with_reducible refine Blk.far ?_ ?_ _) | (simp; done) | (simp; omega) | (dsimp only; omega))
  have hLW6_a := kb_a.lt
  replace kb_b : Blk W6 (w5.heap.size) 50 #[.int .i64 x, .int .i64 fy, .int .i64 z] := by rw [hW]; repeat' (first | (with_reducible assumption) | (with_reducible refine Blk.drew ?_) | (with_reducible refine Blk.drewN ?_ _) | (with_reducible refine Blk.new' _ _ _ _ ?_; (first | rfl | omega | (simp; done))) | (with_reducible exact Blk.new _ _ _) | (with_reducible refine Blk.alloc ?_ _) | (with_reducible apply Blk.set8) | (with_reducible apply Blk.set7of8) | (with_reducible apply Blk.setlast8) | (with_reducible apply Blk.set7) | (with_reducible apply Blk.set2) | (with_reducible apply Blk.set3) | (with_reducible refine Blk.far ?_ ?_ _) | (simp; done) | (simp; omega) | (dsimp only; omega))
  have hLW6_b := kb_b.lt
  try clear kc_s kf_s
  try clear kc_a kf_a
  try clear kc_b kf_b
  clear hW
  refine (HP.out _).mono ?_
  rintro e w6 ⟨rfl, hb⟩
  replace hB := hB.trans (Below.mono hb hB.size)
  have hz_w6 : W6.heap.size ≤ w6.heap.size := Below.size hb
  replace kb_s := Blk.below kb_s hb (by first | exact kb_s.lt | (have := kb_s.lt; omega))
  have kc_s := kb_s.cells
  have kf_s := kb_s.frozens
  have hl_s := kb_s.lt
  have hn_s := Nat.ne_of_lt kb_s.lt
  replace kb_a := Blk.below kb_a hb (by first | exact kb_a.lt | (have := kb_a.lt; omega))
  have kc_a := kb_a.cells
  have kf_a := kb_a.frozens
  have hl_a := kb_a.lt
  have hn_a := Nat.ne_of_lt kb_a.lt
  replace kb_b := Blk.below kb_b hb (by first | exact kb_b.lt | (have := kb_b.lt; omega))
  have kc_b := kb_b.cells
  have kf_b := kb_b.frozens
  have hl_b := kb_b.lt
  have hn_b := Nat.ne_of_lt kb_b.lt
  clear hb
  go_wp2_with fail
  first | refine name_world ?_ | refine name_wp ?_
  intro W7 hW
  replace hB : Below w.heap.size w W7 := by rw [hW]; repeat' (first | (with_reducible exact Below.refl _ _) | (with_reducible assumption) | (with_reducible refine Below.alloc ?_ ?_ _) | (with_reducible refine Below.setCell ?_ ?_ _) | (with_reducible refine Below.drew ?_) | (with_reducible refine below_drewN ?_ _) | (refine Below.trans ?_ (Below.mono (by with_reducible assumption) ?_)) | omega | (simp; done) | (simp; omega))
  have hz_W7 : w6.heap.size ≤ W7.heap.size := by rw [hW]; first | (simp; done) | (simp; omega)
  replace kb_s : Blk W7 (w1.heap.size) 50 #[.int .i64 x, .int .i64 y, .int .i64 z] := by rw [hW]; repeat' (first | (with_reducible assumption) | (with_reducible refine Blk.drew ?_) | (with_reducible refine Blk.drewN ?_ _) | (with_reducible refine Blk.new' _ _ _ _ ?_; (first | rfl | omega | (simp; done))) | (with_reducible exact Blk.new _ _ _) | (with_reducible refine Blk.alloc ?_ _) | (with_reducible apply Blk.set8) | (with_reducible apply Blk.set7of8) | (with_reducible apply Blk.setlast8) | (with_reducible apply Blk.set7) | (with_reducible apply Blk.set2) | (with_reducible apply Blk.set3) | (with_reducible refine Blk.far ?_ ?_ _) | (simp; done) | (simp; omega) | (dsimp only; omega))
  have hLW7_s := kb_s.lt
  replace kb_a : Blk W7 (w4.heap.size) 50 #[.int .i64 x, .int .i64 ay, .int .i64 z] := by rw [hW]; repeat' (first | (with_reducible assumption) | (with_reducible refine Blk.drew ?_) | (with_reducible refine Blk.drewN ?_ _) | (with_reducible refine Blk.new' _ _ _ _ ?_; (first | rfl | omega | (simp; done))) | (with_reducible exact Blk.new _ _ _) | (with_reducible refine Blk.alloc ?_ _) | (with_reducible apply Blk.set8) | (with_reducible apply Blk.set7of8) | (with_reducible apply Blk.setlast8) | (with_reducible apply Blk.set7) | (with_reducible apply Blk.set2) | (with_reducible apply Blk.set3) | (with_reducible refine Blk.far ?_ ?_ _) | (simp; done) | (simp; omega) | (dsimp only; omega))
  have hLW7_a := kb_a.lt
  replace kb_b : Blk W7 (w5.heap.size) 50 #[.int .i64 x, .int .i64 fy, .int .i64 z] := by rw [hW]; repeat' (first | (with_reducible assumption) | (with_reducible refine Blk.drew ?_) | (with_reducible refine Blk.drewN ?_ _) | (with_reducible refine Blk.new' _ _ _ _ ?_; (first | rfl | omega | (simp; done))) | (with_reducible exact Blk.new _ _ _) | (with_reducible refine Blk.alloc ?_ _) | (with_reducible apply Blk.set8) | (with_reducible apply Blk.set7of8) | (with_reducible apply Blk.setlast8) | (with_reducible apply Blk.set7) | (with_reducible apply Blk.set2) | (with_reducible apply Blk.set3) | (with_reducible refine Blk.far ?_ ?_ _) | (simp; done) | (simp; omega) | (dsimp only; omega))
  have hLW7_b := kb_b.lt
  replace kb_c : Blk W7 (w6.heap.size) 50 #[.int .i64 x, .int .i64 cy, .int .i64 z] := by rw [hW]; repeat' (first | (with_reducible assumption) | (with_reducible refine Blk.drew ?_) | (with_reducible refine Blk.drewN ?_ _) | (with_reducible refine Blk.new' _ _ _ _ ?_; (first | rfl | omega | (simp; done))) | (with_reducible exact Blk.new _ _ _) | (with_reducible refine Blk.alloc ?_ _) | (with_reducible apply Blk.set8) | (with_reducible apply Blk.set7of8) | (with_reducible apply Blk.setlast8) | (with_reducible apply Blk.set7) | (with_reducible apply Blk.set2) | (with_reducible apply Blk.set3) | (with_reducible refine Blk.far ?_ ?_ _) | (simp; done) | (simp; omega) | (dsimp only; omega))
  have hLW7_c := kb_c.lt
  replace kb_q : Blk W7 (w6.heap.size + 2) 50 #[.int .i64 x, .int .i64 y, .int .i64 z, .int .i64 50, .int .i64 9, .int .i64 20, .int .i64 50, .int .i64 9, .int .i64 20] := by rw [hW]; repeat' (first | (with_reducible assumption) | (with_reducible refine Blk.drew ?_) | (with_reducible refine Blk.drewN ?_ _) | (with_reducible refine Blk.new' _ _ _ _ ?_; (first | rfl | omega | (simp; done))) | (with_reducible exact Blk.new _ _ _) | (with_reducible refine Blk.alloc ?_ _) | (with_reducible apply Blk.set8) | (with_reducible apply Blk.set7of8) | (with_reducible apply Blk.setlast8) | (with_reducible apply Blk.set7) | (with_reducible apply Blk.set2) | (with_reducible apply Blk.set3) | (with_reducible refine Blk.far ?_ ?_ _) | (simp; done) | (simp; omega) | (dsimp only; omega))
  have hLW7_q := kb_q.lt
  try clear kc_s kf_s
  try clear kc_a kf_a
  try clear kc_b kf_b
  try clear kc_c kf_c
  try clear kc_q kf_q
  clear hW
  have hSh : Calls Try.prog 29 #[.slice (some ⟨w6.heap.size + 2, 0, none⟩) 3 3, .int .i64 30] W7 fun e w' => ∃ A' c', e = .returned (.slice A' lr.length c') ∧ OwnI w' W7.heap.size A' c' lr ∧ Below W7.heap.size W7 w' := by
    have := SharedReserve_any (some ⟨w6.heap.size + 2, 0, none⟩) 3 [⟨x, y, z⟩, ⟨50, 9, 20⟩, ⟨50, 9, 20⟩] 30 W7 (rd_cells kb_q rfl (by simp))
    rw [HLR.out.1] at this
    exact this
  refine hSh.mono ?_
  rintro e w7 ⟨Ar, cr, rfl, hor, hb⟩
  have hrr := Lib.hid hor.rd
  clear hSh hor kb_q
  replace hB := hB.trans (Below.mono hb hB.size)
  have hz_w7 : W7.heap.size ≤ w7.heap.size := Below.size hb
  replace kb_s := Blk.below kb_s hb (by first | exact kb_s.lt | (have := kb_s.lt; omega))
  have kc_s := kb_s.cells
  have kf_s := kb_s.frozens
  have hl_s := kb_s.lt
  have hn_s := Nat.ne_of_lt kb_s.lt
  replace kb_a := Blk.below kb_a hb (by first | exact kb_a.lt | (have := kb_a.lt; omega))
  have kc_a := kb_a.cells
  have kf_a := kb_a.frozens
  have hl_a := kb_a.lt
  have hn_a := Nat.ne_of_lt kb_a.lt
  replace kb_b := Blk.below kb_b hb (by first | exact kb_b.lt | (have := kb_b.lt; omega))
  have kc_b := kb_b.cells
  have kf_b := kb_b.frozens
  have hl_b := kb_b.lt
  have hn_b := Nat.ne_of_lt kb_b.lt
  replace kb_c := Blk.below kb_c hb (by first | exact kb_c.lt | (have := kb_c.lt; omega))
  have kc_c := kb_c.cells
  have kf_c := kb_c.frozens
  have hl_c := kb_c.lt
  have hn_c := Nat.ne_of_lt kb_c.lt
  clear hb
  go_wp2_with fail
  go_loop [14, 15] (fun sv i => ∃ (k : Nat) (t : Int), k ≤ lr.length ∧ i = .int .i64 k ∧ sv = .int .i64 t ∧ Hid (t + sm z (lr.drop k) = sm z lr) ∧ 0 ≤ t ∧ t ≤ 1020 * k) (fun _ i => lr.length - (intOf i).toNat)
  case atStart => exact ⟨0, 0, Nat.zero_le _, rfl, rfl, by show 0 + sm z (lr.drop 0) = _; rw [List.drop_zero, Int.zero_add], Int.le_refl _, by omega⟩
  case round =>
    obtain ⟨k, t, hk, rfl, rfl, HT, t0, t1⟩ := hrel
    by_cases hlt : k < lr.length
    · obtain ⟨bb, o, v, rfl, hbb, hv, hcv⟩ := hrr.out.at_ hlt
      have hvr := HLR.out.2.1 v (List.mem_of_getElem? hv)
      have hki : (k : Int) < (lr.length : Int) := by omega
      have k0 : (0 : Int) ≤ (k : Int) := by omega
      have p1 : ¬ v < 0 := by omega
      have p2 : ¬ 2 < v := by omega
      have p3 : decide (v < 0) = false := decide_eq_false p1
      have p4 : decide (2 < v) = false := decide_eq_false p2
      have hst := HT.out
      rw [drop_cons hv, sm_cons] at hst
      clear hv hvr
      by_cases h0 : v = 0
      · subst h0
        have HN : Hid (t + 20 - 20 + z + sm z (lr.drop (k + 1)) = sm z lr) := by show _ = _; rw [← hst, if_pos rfl]; omega
        clear hst
        go_wp2_with fail
        go_round
        case rel => exact ⟨k + 1, t + 20 - 20 + z, by omega, by go_num, by first | rfl | (congr 1; omega), HN, by omega, by omega⟩
        case measure => simp [intOf]; omega
      · have e0 : (v == 0) = false := by simpa using h0
        have HN : Hid (t + 20 + sm z (lr.drop (k + 1)) = sm z lr) := by show _ = _; rw [← hst, if_neg h0]; omega
        clear hst
        go_wp2_with fail
        go_round
        case rel => exact ⟨k + 1, t + 20, by omega, by go_num, by first | rfl | (congr 1; omega), HN, by omega, by omega⟩
        case measure => simp [intOf]; omega
    · have hki : ¬ (k : Int) < (lr.length : Int) := by omega
      have hst := HT.out
      rw [drop_end hlt] at hst
      have ht30 : 30 ≤ t := by have := HLR.out.2.2; simp only [sm] at hst; omega
      have ht3 : decide (30 ≤ t) = true := decide_eq_true ht30
      have hle : ((lr.length : Int) == 2 - dd) = true := by have := LEN.out; simpa using this
      clear hst
      go_wp2_with fail
      refine (HS1.out _).mono ?_
      rintro e w8 ⟨rfl, hb⟩
      replace hB := hB.trans (Below.mono hb hB.size)
      have hz_w8 : w7.heap.size ≤ w8.heap.size := Below.size hb
      replace kb_s := Blk.below kb_s hb (by first | exact kb_s.lt | (have := kb_s.lt; omega))
      have kc_s := kb_s.cells
      have kf_s := kb_s.frozens
      have hl_s := kb_s.lt
      have hn_s := Nat.ne_of_lt kb_s.lt
      replace kb_a := Blk.below kb_a hb (by first | exact kb_a.lt | (have := kb_a.lt; omega))
      have kc_a := kb_a.cells
      have kf_a := kb_a.frozens
      have hl_a := kb_a.lt
      have hn_a := Nat.ne_of_lt kb_a.lt
      replace kb_b := Blk.below kb_b hb (by first | exact kb_b.lt | (have := kb_b.lt; omega))
      have kc_b := kb_b.cells
      have kf_b := kb_b.frozens
      have hl_b := kb_b.lt
      have hn_b := Nat.ne_of_lt kb_b.lt
      replace kb_c := Blk.below kb_c hb (by first | exact kb_c.lt | (have := kb_c.lt; omega))
      have kc_c := kb_c.cells
      have kf_c := kb_c.frozens
      have hl_c := kb_c.lt
      have hn_c := Nat.ne_of_lt kb_c.lt
      clear hb
      go_wp2_with fail
      refine (HS2.out _).mono ?_
      rintro e w9 ⟨rfl, hb⟩
      replace hB := hB.trans (Below.mono hb hB.size)
      have hz_w9 : w8.heap.size ≤ w9.heap.size := Below.size hb
      replace kb_s := Blk.below kb_s hb (by first | exact kb_s.lt | (have := kb_s.lt; omega))
      have kc_s := kb_s.cells
      have kf_s := kb_s.frozens
      have hl_s := kb_s.lt
      have hn_s := Nat.ne_of_lt kb_s.lt
      replace kb_a := Blk.below kb_a hb (by first | exact kb_a.lt | (have := kb_a.lt; omega))
      have kc_a := kb_a.cells
      have kf_a := kb_a.frozens
      have hl_a := kb_a.lt
      have hn_a := Nat.ne_of_lt kb_a.lt
      replace kb_b := Blk.below kb_b hb (by first | exact kb_b.lt | (have := kb_b.lt; omega))
      have kc_b := kb_b.cells
      have kf_b := kb_b.frozens
      have hl_b := kb_b.lt
      have hn_b := Nat.ne_of_lt kb_b.lt
      replace kb_c := Blk.below kb_c hb (by first | exact kb_c.lt | (have := kb_c.lt; omega))
      have kc_c := kb_c.cells
      have kf_c := kb_c.frozens
      have hl_c := kb_c.lt
      have hn_c := Nat.ne_of_lt kb_c.lt
      clear hb
      go_wp2_with fail
      refine (HS3.out _).mono ?_
      rintro e w10 ⟨rfl, hb⟩
      replace hB := hB.trans (Below.mono hb hB.size)
      have hz_w10 : w9.heap.size ≤ w10.heap.size := Below.size hb
      replace kb_s := Blk.below kb_s hb (by first | exact kb_s.lt | (have := kb_s.lt; omega))
      have kc_s := kb_s.cells
      have kf_s := kb_s.frozens
      have hl_s := kb_s.lt
      have hn_s := Nat.ne_of_lt kb_s.lt
      replace kb_a := Blk.below kb_a hb (by first | exact kb_a.lt | (have := kb_a.lt; omega))
      have kc_a := kb_a.cells
      have kf_a := kb_a.frozens
      have hl_a := kb_a.lt
      have hn_a := Nat.ne_of_lt kb_a.lt
      replace kb_b := Blk.below kb_b hb (by first | exact kb_b.lt | (have := kb_b.lt; omega))
      have kc_b := kb_b.cells
      have kf_b := kb_b.frozens
      have hl_b := kb_b.lt
      have hn_b := Nat.ne_of_lt kb_b.lt
      replace kb_c := Blk.below kb_c hb (by first | exact kb_c.lt | (have := kb_c.lt; omega))
      have kc_c := kb_c.cells
      have kf_c := kb_c.frozens
      have hl_c := kb_c.lt
      have hn_c := Nat.ne_of_lt kb_c.lt
      clear hb
      go_wp2_with fail
      refine (HBT.out _).mono ?_
      rintro e w11 ⟨rfl, rfl⟩
      go_wp2_with fail
      go_ret
      exact ⟨by first | rfl | (rw [hle]), hB⟩
set_option maxRecDepth 100000 in
theorem lifted_FnReserves (os : Os) (started : os.Started) (H : Type) (enc : TypeId × Value → H) :
    ReturnsInHanded {} Try.checked os 5 .any (Rows.fnReservesSpec.pre6 enc Try.prog Try.f5 Rows.fnReservesRow.domain false) (Rows.fnReservesSpec.post enc Try.prog Try.f5 false true false false) := by
  refine returnsInHanded_of_change (C := Try.checked) own_knob started (by kernel_rfl) Try.func5
    (ChangeSpec.witness6 (enc := enc) (C := Try.checked) false ⟨#[], #[.slice none 0 0], []⟩ 8 (by kernel_rfl) (by kernel_rfl) (by kernel_rfl) (by kernel_rfl)) ?_
  intro W base args ds gs before hval0 hW hcnd _
  have hval : ∀ (j : Nat) t v, Try.f5.params[j]? = some t → args[j]? = some v → Value.okWide Try.prog W .any base t v := hval0
  have hW' := hW
  obtain ⟨p, q, hA0, hV, rfl, hfz, hnd⟩ := hW
  have hA : DataW.TrodAll enc Try.prog W 0 (fun _ => true) true Try.f5.params.toList args.toList ds p := hA0
  rw [Try.params5] at hA hval
  obtain ⟨v0, vs0, d0, ds0, p0, q0, hargs, rfl, rfl, h0, r0⟩ := trodAll_cons hA
  obtain ⟨rfl, rfl, rfl⟩ := trodAll_nil r0
  obtain rfl : args = #[v0] := by cases args; simp_all
  obtain ⟨rfl, rfl⟩ := trodVars_none hV
  obtain ⟨A0, c0, l0, rfl, hr0⟩ := arg_bytes (hval 0 22 v0 rfl rfl) h0
  have lt0 : ∀ x ∈ p0, x.block < W.heap.size := by obtain ⟨m, hm⟩ := h0; exact DataW.trod_lt m _ _ _ hm
  clear hA0 hval0
  refine (walk_FnReserves W A0 c0 l0 hr0).mono fun e W' ⟨he, bel⟩ => ?_
  subst he
  exact ⟨_, rfl, _, _, _, [], _, [], hW', trodAll_mk1 (shut_bool Try.underlying4 _), (trodAll_cons_mk (Below.trod laid_out (by kernel_rfl) (of_decide_eq_true (by kernel_rfl)) h0 bel lt0) trodAll_mk0), rfl, bel.frame _, fun h => by cases h⟩

theorem fnReserves_holds : Rows.FnReservesSaid :=
  OpenClaim.holds_of_wide 5 Try.f5 rfl rfl rfl rfl rfl rfl rfl ⟨rfl, rfl, rfl, rfl, rfl⟩ rfl rfl rfl rfl rfl (by kernel_rfl) Try.func5 (by kernel_rfl)
    (of_decide_eq_true (by kernel_rfl)) (by unfold Func.isWrapper; rw [if_neg (by decide +kernel)]; exact ⟨rfl, rfl⟩)
    (fun os started H enc _ => lifted_FnReserves os started H enc)
end Go.Proofs.Ytonlfkofiljboaa
