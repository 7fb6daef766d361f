/- Texts of the proof, joined: AddShare. -/
import Derived.Test.YtpmmjhpmheooeaaGreatDoorQ13
import Derived.Test.YtpmmjhpmheooeaaGreatDoorQ11
import Derived.Deep.RegionHeld3
import Derived.Deep.Cut
namespace Go.Proofs.YtpmmjhpmheooeaaGreatDoor
set_option linter.unusedSimpArgs false
set_option linter.unusedVariables false
section
open Go.RowKit
set_option maxRecDepth 20000
theorem t3s_set2 : ∀ (l : List T3) (k : Nat) (t : T3) (y z : Int), l[k]? = some t → t3s (l.set k ⟨t.x, y, z⟩) = ((t3s l).set (k * 3 + 1) (.int .i64 y)).set (k * 3 + 2) (.int .i64 z)
 | [], k, t, y, z, h => by simp at h
 |s :: l, 0, t, y, z, h => by simp at h; subst h; rw [List.set_cons_zero, t3s_cons, t3s_cons]; rfl
 |s :: l, k + 1, t, y, z, h => by
  rw [List.set_cons_succ, t3s_cons, t3s_cons, t3s_set2 l k t y z (by simpa using h), show (k + 1) * 3 = k * 3 + 1 + 1 + 1 by omega]
  rfl
/-- A store of a share into an owned row of rights. -/
theorem own_setS {w : World} {base : Nat} {e : TypeId} {c : Nat} {A : Option Addr} {l : List T3} (h : w.ownsRow base e 3 (.slice A l.length c) l.length (t3s l)) {k : Nat} {t : T3} (hk : l[k]? = some t) :
  ∃ g, A = some ⟨g, 0, none⟩ ∧ base ≤ g ∧ g < w.heap.size ∧ (∀ j, w.frozen? ⟨g, j, none⟩ = false) ∧ w.cell? ⟨g, k * 3, none⟩ = some (.int .i64 t.x) ∧ w.cell? ⟨g, k * 3 + 1, none⟩ = some (.int .i64 t.y) ∧ w.cell? ⟨g, k * 3 + 2, none⟩ = some (.int .i64 t.z) ∧
   ∀ y z : Int, ((w.setCell ⟨g, k * 3 + 1, none⟩ (.int .i64 y)).setCell ⟨g, k * 3 + 2, none⟩ (.int .i64 z)).ownsRow base e 3 (.slice A l.length c) l.length (t3s (l.set k ⟨t.x, y, z⟩)) ∧
    w.grownBy ((w.setCell ⟨g, k * 3 + 1, none⟩ (.int .i64 y)).setCell ⟨g, k * 3 + 2, none⟩ (.int .i64 z)) (some g) := by
 have hkl := (List.getElem?_eq_some_iff.1 hk).1
 rcases h.2 with ⟨_, h2⟩ | ⟨g, cap, cur, hv, hg, hh, hnc, hcm, hcs, ht⟩
 ·omega
 ·simp only [Value.slice.injEq, true_and] at hv
  obtain ⟨rfl, rfl⟩ := hv
  have hlt : g < w.heap.size := (Array.getElem?_eq_some_iff.1 hh).1
  have hg3 := t3s_get hk
  refine ⟨g, rfl, hg, hlt, fun j => h.frozenAt j, (h.cellAt _ (by omega)).trans hg3.1, (h.cellAt _ (by omega)).trans hg3.2.1, (h.cellAt _ (by omega)).trans hg3.2.2, fun y z => ?_⟩
  have s1 := h.stored (k * 3 + 1) (.int .i64 y)
  have s2 := s1.1.stored (k * 3 + 2) (.int .i64 z)
  rw [t3s_set2 l k t y z hk]
  exact ⟨s2.1, grownBy_trans s1.2 s2.2⟩
theorem own_store2 {w : World} {base hi c g k : Nat} {e : TypeId} {l : List T3} {t : T3} (h : Row2 w base hi e 3 (some ⟨g, 0, none⟩) l.length c (t3s l)) (hk : l[k]? = some t) (y z : Int) :
  ((w.setCell ⟨g, k * 3 + 1, none⟩ (.int .i64 y)).setCell ⟨g, k * 3 + 1 + 1, none⟩ (.int .i64 z)).ownsRow base e 3 (.slice (some ⟨g, 0, none⟩) l.length c) l.length (t3s (l.set k ⟨t.x, y, z⟩)) ∧
   w.grownBy ((w.setCell ⟨g, k * 3 + 1, none⟩ (.int .i64 y)).setCell ⟨g, k * 3 + 1 + 1, none⟩ (.int .i64 z)) (some g) := by
 obtain ⟨g', hg, _, _, _, _, _, _, hs⟩ := own_setS h.1 hk
 obtain rfl : g = g' := by simpa using hg
 exact hs y z
theorem grown_of_below {w W : World} (h : Below w.heap.size w W) (row : Option Nat) : w.grownBy W row := ⟨h.os, h.tape, h.output, h.size, fun k hk _ => h.block k hk⟩
/-- What addShare leaves: r, and whether it is done. -/
def AddIs (l : List T3) (o y z : Int) (r : List T3) (ok : Bool) : Prop := (ok = true → (y = 0 ∧ r = l) ∨ (y ≠ 0 ∧ addSh l o y z = some r)) ∧ (ok = false → y ≠ 0 ∧ addSh l o y z = none ∧ r.length = l.length)
def AddRet (base : Nat) (l : List T3) (o y z : Int) (A : Option Addr) (c : Nat) (w : World) (e : Ending) (w' : World) : Prop :=
 ∃ A' c' r ok, e = .returned (.tuple #[.slice A' (List.length r) c', .bool ok]) ∧ AddIs l o y z r ok ∧ w'.ownsRow base 69 3 (.slice A' r.length c') r.length (t3s r) ∧ w.grownBy w' (Value.slice A l.length c).ownBlock
set_option maxHeartbeats 3200000 in
theorem addShare_old (A : Option Addr) (c base : Nat) (l : List T3) (o y z : Int) (e : T3) (w : World) (h : w.ownsRow base 69 3 (.slice A l.length c) l.length (t3s l)) (hy : y ≠ 0) (hk : rightAt l o = (posA l o : Int)) (he : l[posA l o]? = some e) (hx : e.x = o) (hbase : base ≤ w.heap.size) :
  Calls Tryz.prog 131 #[.slice A l.length c, .int .i64 o, .agg #[.int .i64 y, .int .i64 z]] w (AddRet base l o y z A c w) := by
 have hB := Below.refl w.heap.size w
 obtain ⟨p, hp⟩ : ∃ p, p = posA l o := ⟨_, rfl⟩
 rw [← hp] at hk he
 have hpl := (List.getElem?_eq_some_iff.1 he).1
 obtain ⟨q1, q2, ok, ha⟩ : ∃ q1 q2 ok, addF e.y e.z y z = (q1, q2, ok) := ⟨_, _, _, rfl⟩
 have hold := addSh_old (y := y) (z := z) (by rw [← hp]; exact he) hx ha
 rw [← hp] at hold
 have HC : Hid (∀ W, Calls Tryz.prog 126 #[.agg #[.int .i64 e.y, .int .i64 e.z], .agg #[.int .i64 y, .int .i64 z]] W fun e w' => e = frRet (q1, q2, ok) ∧ Below W.heap.size W w') := fun W => by rw [← ha]; exact AddFractions_any _ _ _ _ W
 have HR : Hid (∀ W, Below w.heap.size w W → Calls Tryz.prog 71 #[.slice A l.length c, .int .i64 o] W fun e w' => e = .returned (.int .i64 (p : Int)) ∧ Below W.heap.size W w') := fun W hb => by
  have := rightOf_any A c l o W (RdT.below (Rd.of_own h) hb)
  rwa [hk] at this
 have hr_l := Row2.born h
 obtain ⟨g, rfl, hg1, hg2, -, -, -, -, -⟩ := own_setS h he
 have HE := Lib.hid he
 have HX := Lib.hid hx
 have HO := Lib.hid hold
 have hy0 : (y == 0) = false := by simpa using hy
 have hp0 : (0 : Int) ≤ (p : Int) := by omega
 have hp1 : (p : Int) < (l.length : Int) := by omega
 have hlen : (l.length : Int) ≤ (c : Int) := by have := (Rd.of_own h).2.1; omega
 have hc63 : c ≤ 9223372036854775807 := (Rd.of_own h).2.2.1
 clear h hk he hx hold ha hp
 go_enter Tryz.func131, Tryz.ntmps131
 go_wp2_with fail
 first | refine name_world ?_ | refine name_wp ?_
 intro W1 hW
 replace hB : Below w.heap.size w W1 := by rw [hW]; exact tacT
 have hz_W1 : w.heap.size ≤ W1.heap.size := by rw [hW]; exact sT
 replace kb_s : Blk W1 (w.heap.size) 67 #[.int .i64 y, .int .i64 z] := by rw [hW]; exact blkT
 have hLW1_s := kb_s.lt
 replace hr_l : Row2 W1 (base) (w.heap.size) 69 3 (some ⟨g, 0, none⟩) (l.length) c (t3s l) := by rw [hW]; exact rowT
 try clear kc_s kf_s
 clear hW
 refine (HR.out _ hB).mono ?_
 rintro e1 w1 ⟨rfl, hb⟩
 replace hB := hB.trans (Below.mono hb hB.size)
 have hz_w1 : W1.heap.size ≤ w1.heap.size := Below.size hb
 replace kb_s := kb_s.mv hb; obtain ⟨kb_s, kc_s, kf_s, hl_s, hn_s⟩ := kb_s
 replace hr_l := Row2.below hr_l hb (by omega)
 clear hb
 go_wp2_with fail
 obtain ⟨g', hgg, -, hlg, hfz, c0, c1, c2, -⟩ := own_setS hr_l.1 HE.out
 obtain rfl : g = g' := by simpa using hgg
 have hl1 := hl_s
 go_region_held3 (fun w' => w'.cell? ⟨w.heap.size, 0, none⟩ = some (.int .i64 y) ∧ w'.cell? ⟨w.heap.size, 1, none⟩ = some (.int .i64 z) ∧ w'.cell? ⟨g, p * 3 + 1, none⟩ = some (.int .i64 e.y) ∧ w'.cell? ⟨g, p * 3 + 2, none⟩ = some (.int .i64 e.z)) (first | (with_reducible exact ⟨kc_s 0, kc_s 1, c1, c2⟩) | (refine ⟨?_, ?_, ?_, ?_⟩ <;> simp [go_sem, kc_s 0, kc_s 1, c1, c2, hlg, hl1]; done) | (with_reducible exact ⟨y3_0, y3_1, y3_2, y3_3⟩) | (refine ⟨?_, ?_, ?_, ?_⟩ <;> simp [go_sem, y3_0, y3_1, y3_2, y3_3, hlg, hl1, n3_0, l3_0, n3_1, l3_1, n3_2, l3_2, n3_3, l3_3]; done) | exact ⟨kc_s 0, kc_s 1, c1, c2⟩)
  (((go_at_call 126; refine (HC.out _).mono ?_; rintro e w3 ⟨rfl, hb3⟩; unfold frRet; have hB3 : Below w.heap.size w w3 := (by exact tacT); have hz3 : w1.heap.size ≤ w3.heap.size := (by have hzz := Below.size hb3; first | omega | (simp at hzz; omega)); have l3_0 : w.heap.size < w3.heap.size := (by omega); have n3_0 := Nat.ne_of_lt l3_0; have y3_0 : w3.cell? ⟨w.heap.size, 0, none⟩ = some (.int .i64 y) := (Below.cell hb3 (p := ⟨w.heap.size, 0, none⟩) (by first | (simp; done) | (simp; omega) | omega)).trans (by first | exact kc_s 0 | (simp [go_sem, kc_s 0, hlg, hl1]; done)); have l3_1 : w.heap.size < w3.heap.size := (by omega); have n3_1 := Nat.ne_of_lt l3_1; have y3_1 : w3.cell? ⟨w.heap.size, 1, none⟩ = some (.int .i64 z) := (Below.cell hb3 (p := ⟨w.heap.size, 1, none⟩) (by first | (simp; done) | (simp; omega) | omega)).trans (by first | exact kc_s 1 | (simp [go_sem, kc_s 1, hlg, hl1]; done)); have l3_2 : g < w3.heap.size := (by omega); have n3_2 := Nat.ne_of_lt l3_2; have y3_2 : w3.cell? ⟨g, p * 3 + 1, none⟩ = some (.int .i64 e.y) := (Below.cell hb3 (p := ⟨g, p * 3 + 1, none⟩) (by first | (simp; done) | (simp; omega) | omega)).trans (by first | exact c1 | (simp [go_sem, c1, hlg, hl1]; done)); have l3_3 : g < w3.heap.size := (by omega); have n3_3 := Nat.ne_of_lt l3_3; have y3_3 : w3.cell? ⟨g, p * 3 + 2, none⟩ = some (.int .i64 e.z) := (Below.cell hb3 (p := ⟨g, p * 3 + 2, none⟩) (by first | (simp; done) | (simp; omega) | omega)).trans (by first | exact c2 | (simp [go_sem, c2, hlg, hl1]; done)); try (have kb9 : Blk w3 w1.heap.size 67 #[.int .i64 0, .int .i64 0] := Blk.below (by exact blkT) hb3 (by exact sT); have kc9 := kb9.cells; have kf9 := kb9.frozens; have hl9 := kb9.lt; have hn9 := Nat.ne_of_lt hl9; have m0 : w.heap.size ≠ w1.heap.size := (by omega); have k0 : w1.heap.size ≠ w.heap.size := (by omega); have m1 : g ≠ w1.heap.size := (by omega); have k1 : w1.heap.size ≠ g := (by omega)))))
 all_goals
  have hr_q : Row2 w3 base w.heap.size 69 3 (some ⟨g, 0, none⟩) l.length c (t3s l) := Row2.below (by exact rowT) hb3 (by exact oT)
  obtain ⟨g'', hgg2, -, -, hfz3, -, -, -, -⟩ := own_setS hr_q.1 HE.out
  obtain rfl : g = g'' := by simpa using hgg2
  clear hb3
  go_wp2_with fail
  refine bodyPost_ret (v := .tuple #[.slice (some ⟨g, 0, none⟩) l.length c, .bool ok]) ?_ rfl ?_
  ·simp [results, Tryz.results131, go_sem]
  ·refine ⟨some ⟨g, 0, none⟩, c, l.set p ⟨e.x, q1, q2⟩, ok, by rw [List.length_set], ⟨fun h => .inr ⟨hy, ?_⟩, fun h => ⟨hy, ?_, by rw [List.length_set]⟩⟩, ?_, ?_⟩
   ·rw [HO.out, h, HX.out]; rfl
   ·rw [HO.out, h]; rfl
   ·rw [List.length_set]
    first
     |exact (own_store2 (base := base) (hi := w.heap.size) (by exact rowT) HE.out q1 q2).1
     |exact World.ownsRow.alloc (own_store2 (base := base) (hi := w.heap.size) (by exact rowT) HE.out q1 q2).1 _
   ·first
     |exact grownBy_trans (grown_of_below (by exact tacT) (some g)) (own_store2 (base := base) (e := 69) (c := c) (hi := w.heap.size) (by exact rowT) HE.out q1 q2).2
     |exact grownBy_trans (grownBy_trans (grown_of_below (by exact tacT) (some g)) (own_store2 (base := base) (e := 69) (c := c) (hi := w.heap.size) (by exact rowT) HE.out q1 q2).2) (World.grownBy_alloc _ _ _)
set_option maxHeartbeats 3200000 in
theorem addShare_new (A : Option Addr) (c base : Nat) (l : List T3) (o y z : Int) (w : World) (h : w.ownsRow base 69 3 (.slice A l.length c) l.length (t3s l)) (hl : l.length ≤ 1000) (hy : y ≠ 0) (hk : rightAt l o = -1) (hn : ∀ e, l[posA l o]? = some e → e.x ≠ o) (hbase : base ≤ w.heap.size) :
  Calls Tryz.prog 131 #[.slice A l.length c, .int .i64 o, .agg #[.int .i64 y, .int .i64 z]] w (AddRet base l o y z A c w) := by
 have hB := Below.refl w.heap.size w
 have hold := addSh_new (y := y) (z := z) hn
 obtain ⟨p, hp⟩ : ∃ p, p = posA l o := ⟨_, rfl⟩
 have hpl : p ≤ l.length := by rw [hp]; exact posA_le l o
 rw [← hp] at hold
 have HR : Hid (∀ W, Below w.heap.size w W → Calls Tryz.prog 71 #[.slice A l.length c, .int .i64 o] W fun e w' => e = .returned (.int .i64 (-1)) ∧ Below W.heap.size W w') := fun W hb => by
  have := rightOf_any A c l o W (RdT.below (Rd.of_own h) hb)
  rwa [hk] at this
 have hr_l := Row2.born h
 have HO := Lib.hid hold
 have HI : Hid (∀ (W : World) (vb : Nat), Row2 W base w.heap.size 69 3 A l.length c (t3s l) → w.heap.size ≤ vb → base ≤ W.heap.size → Blk W vb 69 #[.int .i64 o, .int .i64 y, .int .i64 z] → Calls Tryz.prog 153 #[.slice A l.length c, .int .i64 p, .slice (some ⟨vb, 0, none⟩) 1 1] W (InsR base l p ⟨o, y, z⟩ A c W)) :=
  fun W vb hr hvb hbW hv => InsertR_any A c base l p ⟨o, y, z⟩ vb W hr.1 hpl (by omega) hbW hv (fun g hg => by have := hr.2 g hg; omega)
 have hrd : RdT w w.heap.size A c l := Rd.of_own h
 have HGO : Hid (∀ (k : Nat) (e : T3), k ≤ p → l[k]? = some e → (e.x < o → k + 1 ≤ p) ∧ (¬ e.x < o → k = p)) := fun k e hk he => by rw [hp] at hk ⊢; exact posA_go hk he
 have HEN : Hid (∀ k, k ≤ p → ¬ k < l.length → k = p) := fun k hk he => by rw [hp] at hk ⊢; exact posA_end hk he
 have hy0 : (y == 0) = false := by simpa using hy
 have hlen : (l.length : Int) ≤ (c : Int) := by have := hrd.2.1; omega
 have hc63 : c ≤ 9223372036854775807 := hrd.2.2.1
 have hmin : ¬ ((-1 : Int) ≥ 0) := by omega
 clear h hk hn hold hp
 go_enter Tryz.func131, Tryz.ntmps131
 go_wp2_with fail
 first | refine name_world ?_ | refine name_wp ?_
 intro W1 hW
 replace hB : Below w.heap.size w W1 := by rw [hW]; exact tacT
 have hz_W1 : w.heap.size ≤ W1.heap.size := by rw [hW]; exact sT
 replace kb_s : Blk W1 (w.heap.size) 67 #[.int .i64 y, .int .i64 z] := by rw [hW]; exact blkT
 have hLW1_s := kb_s.lt
 replace hr_l : Row2 W1 (base) (w.heap.size) 69 3 A (l.length) c (t3s l) := by rw [hW]; exact rowT
 try clear kc_s kf_s
 clear hW
 refine (HR.out _ hB).mono ?_
 rintro e1 w1 ⟨rfl, hb⟩
 replace hB := hB.trans (Below.mono hb hB.size)
 have hz_w1 : W1.heap.size ≤ w1.heap.size := Below.size hb
 replace kb_s := kb_s.mv hb; obtain ⟨kb_s, kc_s, kf_s, hl_s, hn_s⟩ := kb_s
 replace hr_l := Row2.below hr_l hb (by omega)
 clear hb
 go_wp2_with fail
 have hl1 := hl_s
 have HB := Lib.hid hB
 have HRL := Lib.hid hr_l
 go_loop [11] (fun i => ∃ k : Nat, k ≤ p ∧ i = .int .i64 k) (fun i => l.length + 1 - (intOf i).toNat)
 case atStart => exact ⟨0, Nat.zero_le _, rfl⟩
 case round =>
  obtain ⟨k, hkp, rfl⟩ := hrel
  have hk0 : (0 : Int) ≤ (k : Int) := by omega
  have hfin : k = p → Calls Tryz.prog 153 #[.slice A l.length c, .int .i64 k, .slice (some ⟨w1.heap.size, 0, none⟩) 1 1] (w1.alloc (.cells #[.int .i64 o, .int .i64 y, .int .i64 z] 69)) (InsR base l p ⟨o, y, z⟩ A c (w1.alloc (.cells #[.int .i64 o, .int .i64 y, .int .i64 z] 69))) := fun hkp => by
   subst hkp
   exact HI.out _ _ (HRL.out.alloc _) (by omega) (by simp; omega) (Blk.new _ _ _)
  by_cases hlt : k < l.length
  ·obtain ⟨bb, oo, x, rfl, hbb, hx, e0, e1, e2⟩ := hrd.at_ hlt
   have f0 : w1.cell? ⟨bb, oo + k * 3, none⟩ = some (.int .i64 x.x) := (HB.out.cell (p := ⟨bb, _, none⟩) hbb).trans e0
   have hk1 : (k : Int) < (l.length : Int) := by omega
   have hk2 : decide ((k : Int) < (l.length : Int)) = true := by simpa using hk1
   obtain ⟨g1, g2⟩ := HGO.out k x hkp hx
   clear e0 e1 e2 hx
   by_cases hxo : x.x < o
   ·have hxd : decide (x.x < o) = true := by simpa using hxo
    have g3 := g1 (by omega)
    clear g1 g2 hfin
    go_wp2_with fail
    go_round
    case rel => exact ⟨k + 1, g3, by go_num⟩
    case measure => simp [intOf]; omega
   ·have hxd : decide (x.x < o) = false := by simpa using hxo
    have H3 := Lib.hid (hfin (g2 (by omega)))
    clear g1 g2 hfin
    go_wp2_with fail
    refine H3.out.mono ?_
    rintro e w2 ⟨A2, c2, rfl, ho2, hg2⟩
    have H4 := Lib.hid (And.intro ho2 hg2)
    clear ho2 hg2
    go_wp2_with fail
    refine bodyPost_ret (v := .tuple #[.slice A2 (l.length + 1) c2, .bool true]) ?_ rfl ?_
    ·simp [results, Tryz.results131, go_sem]
    ·refine ⟨A2, c2, l.take p ++ ⟨o, y, z⟩ :: l.drop p, true, by rw [putT_len l _ p hpl], ⟨fun _ => .inr ⟨hy, HO.out⟩, fun h => by cases h⟩, by rw [putT_len l _ p hpl]; exact H4.out.1, grownBy_trans (grown_of_below (HB.out.alloc HB.out.size _) _) H4.out.2⟩
  ·have hk1 : ¬ (k : Int) < (l.length : Int) := by omega
   have hk2 : decide ((k : Int) < (l.length : Int)) = false := by simpa using hk1
   have H3 := Lib.hid (hfin (HEN.out k hkp hlt))
   clear hfin
   go_wp2_with fail
   refine H3.out.mono ?_
   rintro e w2 ⟨A2, c2, rfl, ho2, hg2⟩
   have H4 := Lib.hid (And.intro ho2 hg2)
   clear ho2 hg2
   go_wp2_with fail
   refine bodyPost_ret (v := .tuple #[.slice A2 (l.length + 1) c2, .bool true]) ?_ rfl ?_
   ·simp [results, Tryz.results131, go_sem]
   ·refine ⟨A2, c2, l.take p ++ ⟨o, y, z⟩ :: l.drop p, true, by rw [putT_len l _ p hpl], ⟨fun _ => .inr ⟨hy, HO.out⟩, fun h => by cases h⟩, by rw [putT_len l _ p hpl]; exact H4.out.1, grownBy_trans (grown_of_below (HB.out.alloc HB.out.size _) _) H4.out.2⟩
theorem addShare_zero (A : Option Addr) (c base : Nat) (l : List T3) (o z : Int) (w : World) (h : w.ownsRow base 69 3 (.slice A l.length c) l.length (t3s l)) :
  Calls Tryz.prog 131 #[.slice A l.length c, .int .i64 o, .agg #[.int .i64 0, .int .i64 z]] w (AddRet base l o 0 z A c w) := by
 have H := Lib.hid h
 clear h
 go_enter Tryz.func131, Tryz.ntmps131
 go_wp2_with fail
 refine bodyPost_ret (v := .tuple #[.slice A l.length c, .bool true]) ?_ rfl ?_
 ·simp [results, Tryz.results131, go_sem]
 ·exact ⟨A, c, l, true, rfl, ⟨fun _ => .inl ⟨rfl, rfl⟩, fun h => by cases h⟩, H.out.alloc _, grown_of_below (by exact tacT) _⟩
/-- addShare on rising rights. -/
theorem addShare_any (A : Option Addr) (c base : Nat) (l : List T3) (o y z : Int) (w : World) (h : w.ownsRow base 69 3 (.slice A l.length c) l.length (t3s l)) (hu : upO 0 l) (hl : l.length ≤ 1000) (hbase : base ≤ w.heap.size) :
  Calls Tryz.prog 131 #[.slice A l.length c, .int .i64 o, .agg #[.int .i64 y, .int .i64 z]] w (AddRet base l o y z A c w) := by
 by_cases hy : y = 0
 ·subst hy; exact addShare_zero A c base l o z w h
 ·rcases rightAt_pos hu o with ⟨h1, h2, h3⟩ | ⟨h1, h2, e, h3, h4⟩
  ·exact addShare_new A c base l o y z w h hl hy h1 h3 hbase
  ·exact addShare_old A c base l o y z e w h hy h1 h3 h4 hbase
end
end Go.Proofs.YtpmmjhpmheooeaaGreatDoor
