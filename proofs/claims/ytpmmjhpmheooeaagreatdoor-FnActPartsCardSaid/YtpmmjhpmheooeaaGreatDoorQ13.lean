/- Texts of the proof, joined: Row3. -/
import Derived.Test.YtpmmjhpmheooeaaGreatDoorQ12
import Derived.Test.YtpmmjhpmheooeaaGreatDoorQ1
import Derived.Lib.AppendZerosOnto
import Derived.IntWalk
import Derived.Deep.RegionLaw
import Derived.Laws.Externs
namespace Go.Proofs.YtpmmjhpmheooeaaGreatDoor
set_option linter.unusedSimpArgs false
set_option linter.unusedVariables false
section
open Go.RowKit
set_option maxRecDepth 20000
theorem zc3 : (Builtin.zeroCells (Value.agg #[.int .i64 0, .int .i64 0, .int .i64 0]).cells 1).toList = [.int .i64 0, .int .i64 0, .int .i64 0] := by
 simp [Builtin.zeroCells, Value.cells, Array.range, List.range, List.range.loop]
theorem zero3 : ∀ w, (zeroValue 69).run Tryz.prog w = .ok (.agg #[.int .i64 0, .int .i64 0, .int .i64 0]) w := by
 obtain ⟨i0, hi, hz0, hz1, hz2⟩ := info_parts infoRight
 intro w
 simp [zeroValue, typeInfo, hi, hz0]
set_option maxHeartbeats 1600000 in
theorem DeleteR_any (A : Option Addr) (c base : Nat) (l : List T3) (k : Nat) (w : World) (h : w.ownsRow base 69 3 (.slice A l.length c) l.length (t3s l)) (hk : k < l.length) :
  Calls Tryz.prog 130 #[.slice A l.length c, .int .i64 k, .int .i64 ((k : Int) + 1)] w fun e w' => e = .returned (.slice A (l.length - 1) c) ∧ w'.ownsRow base 69 3 (.slice A (l.length - 1) c) (l.length - 1) (t3s (l.take k ++ l.drop (k + 1))) ∧ w.grownBy w' (Value.slice A l.length c).ownBlock := by
 obtain ⟨i0, hi, hz0, hz1, hz2⟩ := info_parts infoRight
 obtain ⟨g, cur, rfl, hbg, hh, hnc, hcm, hcs, hxl, hcx⟩ := own_open h (.inl (by omega))
 obtain ⟨n, hn⟩ : ∃ n, n = l.length := ⟨_, rfl⟩
 rw [← hn] at hk hnc hxl hcx ⊢
 have hcm' : c ≤ 9223372036854775807 := by unfold maxLen at hcm; omega
 obtain ⟨news, hnews⟩ : ∃ news, news = (t3s l).drop ((k + 1) * 3) := ⟨_, rfl⟩
 have hnl : news.length = (n - (k + 1)) * 3 := by rw [hnews, List.length_drop, hxl]; omega
 have hn1 : ∀ u ∈ news, u.oneCell' = true := fun u hu => t3s_one l u (by rw [hnews] at hu; exact List.mem_of_mem_drop hu)
 obtain ⟨cur1, hc1⟩ : ∃ cur1, cur1 = patch cur (0 + k * 3) news := ⟨_, rfl⟩
 have hs1 : cur1.size = c * 3 := by rw [hc1, patch_size (by omega), hcs]
 obtain ⟨ad, had, hsrc⟩ : ∃ ad : Addr, (if c = k + 1 then some (⟨g, 0, none⟩ : Addr) else some ⟨g, (k + 1) * 3, none⟩) = some ad ∧ ∀ j u, news[j]? = some u → w.drew.cell? (ad.add j) = some u := by
  by_cases h9 : c = k + 1
  ·refine ⟨⟨g, 0, none⟩, by simp [h9], fun j u hu => ?_⟩
   have : news = [] := List.eq_nil_of_length_eq_zero (by omega)
   rw [this] at hu; simp at hu
  ·refine ⟨⟨g, (k + 1) * 3, none⟩, by simp [h9], fun j u hu => ?_⟩
   have hj := (List.getElem?_eq_some_iff.1 hu).1
   rw [Addr.add_lit]
   show w.cell? _ = _
   rw [Blk.cell hh, hcx _ (by omega)]
   rw [hnews, List.getElem?_drop] at hu
   exact hu
 have hrun := fun ty => run_appR (P := Tryz.prog) w.drew 33 33 ty 69 i0 Tryz.underlying33 Tryz.underlying33 hi g 0 k c cur 69 ad (n - (k + 1)) (c - (k + 1)) news (show w.drew.heap[g]? = _ from hh) (by rw [hz1]; exact hnl) hsrc hn1 (by omega) (by rw [hz1]; omega)
 rw [hz1, ← hc1] at hrun
 have hh1 : (w.drew.setRow g cur1).heap[g]? = some (.cells cur1 69 (0, 0)) := setRow_heap _ g cur _ _ _ (show w.drew.heap[g]? = _ from hh)
 have hclr := fun ty => run_clearR (P := Tryz.prog) (w.drew.setRow g cur1) 33 69 ty _ Tryz.underlying33 zero3 g ((n - 1) * 3) 1 (c - (n - 1)) cur1 69 [.int .i64 0, .int .i64 0, .int .i64 0] zc3 (by omega) hh1 (by simp; omega) (by intro v hv; simp at hv; subst hv; rfl)
 obtain ⟨cur2, hc2⟩ : ∃ cur2, cur2 = patch cur1 ((n - 1) * 3) [.int .i64 0, .int .i64 0, .int .i64 0] := ⟨_, rfl⟩
 rw [← hc2] at hclr
 have hs2 : cur2.size = c * 3 := by rw [hc2, patch_size (by simp; omega), hs1]
 have hown : ((w.drew.setRow g cur1).setRow g cur2).ownsRow base 69 3 (.slice (some ⟨g, 0, none⟩) (n - 1) c) (n - 1) (t3s (l.take k ++ l.drop (k + 1))) := by
  refine own_of_cells hbg (setRow_heap _ g cur1 _ _ _ hh1) (by omega) hcm hs2 ?_ ?_
  ·rw [t3s_len, List.length_append, List.length_take, List.length_drop]; omega
  ·intro i hi
   rw [hc2, patch_get (by simp; omega), if_neg (by omega), hc1, patch_get (by omega), t3s_append, t3s_take, t3s_drop, ← hnews, List.getElem?_append, List.length_take, hxl]
   by_cases h3 : i < k * 3
   ·rw [if_neg (by omega), if_pos (by omega), List.getElem?_take, if_pos h3, hcx i (by omega)]
   ·rw [if_pos (by omega), if_neg (by omega)]
    congr 1; omega
 have hgr : w.grownBy ((w.drew.setRow g cur1).setRow g cur2) (some g) := by
  have h1 := grown_setRow w.drew g cur1
  have h2 := grown_setRow (w.drew.setRow g cur1) g cur2
  have h3 := grownBy_trans h1 h2
  exact ⟨h3.os, h3.tape, h3.output, h3.size, h3.block⟩
 have H9 := Lib.hid (And.intro hown hgr)
 have e0 : (0 : Int) ≤ (k : Int) + 1 := by omega
 have e1 : ((k : Int) == (k : Int) + 1) = false := by simp; omega
 have e2 : ¬ (k : Int) = (k : Int) + 1 := by omega
 have e3 : (k : Int) + 1 ≤ (n : Int) := by omega
 have e4 : (n : Int) ≤ (c : Int) := by omega
 have e5 : (k : Int) ≤ (c : Int) := by omega
 have e6 : (k : Int) + 1 ≤ (c : Int) := by omega
 have e7 : ((k : Int) + 1).toNat = k + 1 := by omega
 have e8 : k + (n - (k + 1)) = n - 1 := by omega
 have HA := Lib.hid had
 have HN := Lib.hid hn
 have e9 : n - (n - 1) = 1 := by omega
 have e10 : ¬ c = n - 1 := by omega
 have e11 : ((n - 1 : Nat) : Int) ≤ (n : Int) := by omega
 have e12 : (0 : Int) ≤ ((n - 1 : Nat) : Int) := by omega
 clear hn h hown hgr hcx hnews hn1 hsrc had hxl hc1 hc2 hs1 hs2 hh hh1 hcs hnl
 rcases (show c = k + 1 ∨ ¬ c = k + 1 by omega) with hcc | hcc
 ·subst hcc
  obtain rfl : n = k + 1 := by omega
  obtain rfl : (⟨g, 0, none⟩ : Addr) = ad := by simpa using HA.out
  have e13 : (k : Int) ≤ (k : Int) + 1 := by omega
  have s1 : k + 1 - 1 = k := by omega
  have s2 : k + 1 - k = 1 := by omega
  simp only [s1, s2] at hclr H9 ⊢
  clear s1 s2 e9 e10 e11 e12
  go_enter Tryz.func130, Tryz.ntmps130
  go_wp2_with fail
  go_region_law (refine step_app_is rfl (.tmp 22) (.tmp 25) #[33, 33] rfl _ _ (by simp [Act.eval, Act.put]) (by first | (simp [Act.eval, Act.put]; done) | (simp [Act.eval, Act.put, hcc]; done)) (hrun _) ?_)
  clear hrun
  go_wp2_with (at_builtin; refine wpList_clear_is _ rfl _ #[33] rfl _ rfl (hclr _) ?_)
  go_ret
  exact ⟨rfl, H9.out.1, H9.out.2⟩
 ·obtain rfl : (⟨g, (k + 1) * 3, none⟩ : Addr) = ad := by have := HA.out; rw [if_neg hcc] at this; exact Option.some.inj this
  go_enter Tryz.func130, Tryz.ntmps130
  go_wp2_with fail
  go_region_law (refine step_app_is rfl (.tmp 22) (.tmp 25) #[33, 33] rfl _ _ (by simp [Act.eval, Act.put]) (by first | (simp [Act.eval, Act.put]; done) | (simp [Act.eval, Act.put, hcc]; done)) (hrun _) ?_)
  clear hrun
  go_wp2_with (at_builtin; refine wpList_clear_is _ rfl _ #[33] rfl _ rfl (hclr _) ?_)
  go_ret
  exact ⟨rfl, H9.out.1, H9.out.2⟩
theorem putT_len (l : List T3) (x : T3) (k : Nat) (h : k ≤ l.length) : (l.take k ++ x :: l.drop k).length = l.length + 1 := by
 rw [List.length_append, List.length_cons, List.length_take, List.length_drop]; omega
theorem putT_get (l : List T3) (x : T3) (k i : Nat) (hk : k ≤ l.length) : (t3s (l.take k ++ x :: l.drop k))[i]? = if i < k * 3 then (t3s l)[i]? else if i < (k + 1) * 3 then x.cells[i - k * 3]? else (t3s l)[i - 3]? := by
 have hx : x.cells.length = 3 := rfl
 have hxl := t3s_len l
 have e : t3s (x :: l.drop k) = x.cells ++ t3s (l.drop k) := rfl
 rw [t3s_append, e, t3s_take, t3s_drop, List.getElem?_append, List.length_take, hxl]
 by_cases h1 : i < k * 3
 ·rw [if_pos (by omega), if_pos h1, List.getElem?_take, if_pos h1]
 ·rw [if_neg (by omega), if_neg h1, List.getElem?_append, hx]
  have e9 : i - min (k * 3) (l.length * 3) = i - k * 3 := by omega
  rw [e9]
  by_cases h2 : i < (k + 1) * 3
  ·rw [if_pos (by omega), if_pos h2]
  ·rw [if_neg (by omega), if_neg h2, List.getElem?_drop]
   congr 1; omega
/-- What Insert leaves. -/
def InsR (base : Nat) (l : List T3) (k : Nat) (x : T3) (A : Option Addr) (c : Nat) (w : World) (e : Ending) (w' : World) : Prop :=
 ∃ A' c', e = .returned (.slice A' (l.length + 1) c') ∧ w'.ownsRow base 69 3 (.slice A' (l.length + 1) c') (l.length + 1) (t3s (l.take k ++ x :: l.drop k)) ∧ w.grownBy w' (Value.slice A l.length c).ownBlock
set_option maxHeartbeats 1600000 in
theorem InsertR_end (A : Option Addr) (c base : Nat) (l : List T3) (x : T3) (vb : Nat) (w : World) (h : w.ownsRow base 69 3 (.slice A l.length c) l.length (t3s l)) (hl : l.length ≤ 1000000) (hbase : base ≤ w.heap.size)
  (hv : Blk w vb 69 #[.int .i64 x.x, .int .i64 x.y, .int .i64 x.z]) :
  Calls Tryz.prog 153 #[.slice A l.length c, .int .i64 l.length, .slice (some ⟨vb, 0, none⟩) 1 1] w (InsR base l l.length x A c w) := by
 have hrd : Rd w w.heap.size 3 (some ⟨vb, 0, none⟩) 1 1 x.cells := ⟨rfl, Nat.le_refl _, by omega, fun _ => ⟨vb, 0, rfl, hv.lt, fun j u hu => by
  rw [Nat.zero_add, hv.cell]; simpa [T3.cells] using hu⟩⟩
 have hx1 : ∀ u ∈ x.cells, u.oneCell' = true := by intro u hu; simp [T3.cells] at hu; rcases hu with rfl | rfl | rfl <;> rfl
 have hcc : ((l.length : Int) ≤ (c : Int)) := by have := (Rd.of_own h).2.1; omega
 have hc63 : c ≤ 9223372036854775807 := (Rd.of_own h).2.2.1
 have h0 := Lib.hid h
 clear hv
 go_enter Tryz.func153, Tryz.ntmps153
 rcases h.2 with ⟨h2, h3⟩ | ⟨g, cap, cur, hv, hg, hh, hnc, hcm, hcs, ht⟩
 ·simp only [Value.slice.injEq] at h2
  obtain ⟨rfl, -, rfl⟩ := h2
  clear h
  rw [h3] at h0 ⊢
  go_wp2_with (at_builtin; refine wpList_appAll rfl _ _ 33 rfl base 69 (.agg #[.int .i64 0, .int .i64 0, .int .i64 0]) 3 24 Tryz.underlying33 infoRight rfl (by decide) (.slice none 0 0) 0 (t3s l) rfl h0.out _ (some ⟨vb, 0, none⟩) 1 1 x.cells rfl hrd hx1 (by omega) (by omega) hbase ?_)
  intro A1 c1 w1 ho1 hg1
  have H1 := Lib.hid (And.intro ho1 hg1)
  clear ho1 hg1
  go_wp2_with fail
  go_ret
  have hl0 : l = [] := List.eq_nil_of_length_eq_zero h3
  subst hl0
  exact ⟨A1, c1, rfl, by simpa [t3s] using H1.out.1, H1.out.2⟩
 ·simp only [Value.slice.injEq, true_and] at hv
  obtain ⟨rfl, rfl⟩ := hv
  clear h hh ht
  go_wp2_with (at_builtin; refine wpList_appAll rfl _ _ 33 rfl base 69 (.agg #[.int .i64 0, .int .i64 0, .int .i64 0]) 3 24 Tryz.underlying33 infoRight rfl (by decide) (.slice (some ⟨g, 0, none⟩) l.length c) l.length (t3s l) rfl h0.out _ (some ⟨vb, 0, none⟩) 1 1 x.cells rfl hrd hx1 (by omega) (by omega) hbase ?_)
  all_goals
   intro A1 c1 w1 ho1 hg1
   have H1 := Lib.hid (And.intro ho1 hg1)
   clear ho1 hg1
   go_wp2_with fail
   go_ret
   refine ⟨A1, c1, rfl, ?_, H1.out.2⟩
   have e : t3s (l.take l.length ++ x :: l.drop l.length) = t3s l ++ x.cells := by
    rw [List.take_length, List.drop_length, t3s_append]; simp [t3s]
   rw [e]
   exact H1.out.1
set_option maxHeartbeats 1600000 in
theorem InsertR_shift (A : Option Addr) (c base : Nat) (l : List T3) (k : Nat) (x : T3) (vb : Nat) (w : World) (h : w.ownsRow base 69 3 (.slice A l.length c) l.length (t3s l)) (hk : k < l.length) (hroom : l.length + 1 ≤ c) (hl : l.length ≤ 1000000)
  (hv : Blk w vb 69 #[.int .i64 x.x, .int .i64 x.y, .int .i64 x.z]) (hne : ∀ g, (Value.slice A l.length c).ownBlock = some g → vb ≠ g) :
  Calls Tryz.prog 153 #[.slice A l.length c, .int .i64 k, .slice (some ⟨vb, 0, none⟩) 1 1] w (InsR base l k x A c w) := by
 obtain ⟨i0, hi, hz0, hz1, hz2⟩ := info_parts infoRight
 obtain ⟨g, cur, rfl, hbg, hh, hnc, hcm, hcs, hxl, hcx⟩ := own_open h (.inl (by omega))
 have hvg : vb ≠ g := hne g rfl
 obtain ⟨n, hn⟩ : ∃ n, n = l.length := ⟨_, rfl⟩
 have HN := Lib.hid hn
 unfold InsR
 rw [← hn] at hk hnc hxl hcx hroom hl ⊢
 have hc63 : c ≤ 9223372036854775807 := by unfold maxLen at hcm; omega
 have hx1 : ∀ u ∈ x.cells, u.oneCell' = true := by intro u hu; simp [T3.cells] at hu; rcases hu with rfl | rfl | rfl <;> rfl
 obtain ⟨cs1, hcs1⟩ : ∃ cs1, cs1 = (t3s l).drop (k * 3) := ⟨_, rfl⟩
 have hl1 : cs1.length = (n - k) * 3 := by rw [hcs1, List.length_drop, hxl]; omega
 have ho1 : ∀ u ∈ cs1, u.oneCell' = true := fun u hu => t3s_one l u (by rw [hcs1] at hu; exact List.mem_of_mem_drop hu)
 obtain ⟨cur1, hc1⟩ : ∃ cur1, cur1 = patch cur ((k + 1) * 3) cs1 := ⟨_, rfl⟩
 have hs1 : cur1.size = c * 3 := by rw [hc1, patch_size (by omega), hcs]
 have hh1 : (w.drew.setRow g cur1).heap[g]? = some (.cells cur1 69 (0, 0)) := setRow_heap _ g cur _ _ _ (show w.drew.heap[g]? = _ from hh)
 have hsz : (Tryz.prog.info? 69).map (·.size) = some 3 := by rw [hi]; simp [hz1]
 have hcp1 := fun ty q1 q2 => run_copyR (P := Tryz.prog) w.drew 33 33 ty 69 3 g ((k + 1) * 3) (n + 1 - (k + 1)) q1 ⟨g, k * 3, none⟩ (n + 1 - k) q2 cur 69 cs1 Tryz.underlying33 hsz (show w.drew.heap[g]? = _ from hh)
  (by rw [hl1]; simp only [Nat.min_def]; split <;> omega) (fun j v hj => by
   have hjl := (List.getElem?_eq_some_iff.1 hj).1
   rw [Addr.add_lit]
   show w.cell? _ = _
   rw [Blk.cell hh, hcx _ (by omega)]
   rw [hcs1, List.getElem?_drop] at hj
   exact hj) (by omega) ho1
 rw [← hc1] at hcp1
 obtain ⟨cur2, hc2⟩ : ∃ cur2, cur2 = patch cur1 (k * 3) x.cells := ⟨_, rfl⟩
 have hx3 : x.cells.length = 3 := rfl
 have hs2 : cur2.size = c * 3 := by rw [hc2, patch_size (by omega), hs1]
 have hv1 : Blk (w.drew.setRow g cur1) vb 69 #[.int .i64 x.x, .int .i64 x.y, .int .i64 x.z] := (setRow_other w.drew g vb cur1 hvg).trans hv
 have hcp2 := fun ty q => run_copyR (P := Tryz.prog) (w.drew.setRow g cur1) 33 33 ty 69 3 g (k * 3) (n + 1 - k) q ⟨vb, 0, none⟩ 1 1 cur1 69 x.cells Tryz.underlying33 hsz hh1
  (by rw [hx3]; simp only [Nat.min_def]; split <;> omega) (fun j v hj => by
   rw [Addr.add_lit, Nat.zero_add, hv1.cell]
   simpa [T3.cells] using hj) (by omega) hx1
 rw [← hc2] at hcp2
 have hov : ∀ q, (callFunc 163 #[.slice (some ⟨vb, 0, none⟩) 1 1, .slice (some ⟨g, (k + 1) * 3, none⟩) (n - k) q]).run Tryz.prog w = .ok (.value (.bool false)) w := fun q => by
  have hsv : w.shape? vb = some (69, 3) := by unfold Blk at hv; simp [World.shape?, hv]
  have hsg : w.shape? g = some (69, c * 3) := by simp [World.shape?, hh, hcs]
  rw [run_callFunc_extern Tryz.func163 (by kernel_rfl) (by kernel_rfl) (by kernel_rfl) (e := Extern.SlicesOverlaps.overlaps #[33, 33] #[4]) (by kernel_rfl),
   Lib.run_overlaps_apart w 33 4 69 Tryz.underlying33 3 (by intro w; simp [sizeOf, typeInfo, hi, hz1]) ⟨vb, 0, none⟩ ⟨g, (k + 1) * 3, none⟩ 1 1 (n - k) q hvg _ _ _ _ hsv hsg (by omega) (hv.frozen 0) (hv.frozen 3)]
  rfl
 have hown : ((w.drew.setRow g cur1).setRow g cur2).ownsRow base 69 3 (.slice (some ⟨g, 0, none⟩) (n + 1) c) (n + 1) (t3s (l.take k ++ x :: l.drop k)) := by
  refine own_of_cells hbg (setRow_heap _ g cur1 _ _ _ hh1) (by omega) hcm hs2 ?_ ?_
  ·rw [t3s_len, putT_len l x k (by omega), ← hn]
  ·intro i hi
   rw [putT_get l x k i (by omega), hc2, patch_get (by omega), hx3]
   by_cases h1 : i < k * 3
   ·rw [if_neg (by omega), if_pos h1, hc1, patch_get (by omega), if_neg (by omega), hcx i (by omega)]
   ·rw [if_neg h1]
    by_cases h2 : i < (k + 1) * 3
    ·rw [if_pos (by omega), if_pos h2]
    ·rw [if_neg (by omega), if_neg h2, hc1, patch_get (by omega), if_pos (by omega), hcs1, List.getElem?_drop]
     congr 1; omega
 have hgr : w.grownBy ((w.drew.setRow g cur1).setRow g cur2) (some g) := by
  have h1 := grown_setRow w.drew g cur1
  have h2 := grown_setRow (w.drew.setRow g cur1) g cur2
  have h3 := grownBy_trans h1 h2
  exact ⟨h3.os, h3.tape, h3.output, h3.size, h3.block⟩
 have H9 := Lib.hid (And.intro hown hgr)
 have e1 : ((k : Int) == (n : Int)) = false := by simp; omega
 have e2 : ¬ (k : Int) = (n : Int) := by omega
 have e3 : ¬ (c : Int) < (n : Int) + 1 := by omega
 have e4 : (n : Int) + 1 ≤ (c : Int) := by omega
 have e5 : (k : Int) ≤ (n : Int) := by omega
 have e6 : ((n : Int) + 1).toNat = n + 1 := by omega
 have e7 : ((k : Int) + 1).toNat = k + 1 := by omega
 have e8 : (k : Int) + 1 ≤ (n : Int) + 1 := by omega
 have e9 : (0 : Int) ≤ (k : Int) + 1 := by omega
 have e10 : (0 : Int) ≤ (n : Int) + 1 := by omega
 have e11 : ¬ c = k + 1 := by omega
 have e12 : ¬ c = k := by omega
 have e13 : (k : Int) ≤ (n : Int) + 1 := by omega
 have hw1 : IntKind.i64.wrap ((k : Int) + 1) = (k : Int) + 1 := by exact IntWalk.i64_in _ (by omega)
 clear h hown hgr hcx hxl hcs1 hl1 ho1 hc1 hs1 hh1 hc2 hs2 hv1 hh hcs hv hn hne hi hz0 hz1 hz2 hsz hx1
 go_enter Tryz.func153, Tryz.ntmps153
 go_wp2_with (simp only [hov])
 go_region_law (refine step_copy_is rfl _ _ #[33, 33] rfl _ _ (by simp [Act.eval, Act.put, e11, e12]) (by simp [Act.eval, Act.put, e11, e12]) (hcp1 _ (c - (k + 1)) (c - k)) ?_)
 go_wp2_with (at_builtin; refine wpList_copy_is _ rfl _ _ #[33, 33] rfl _ _ rfl rfl (hcp2 _ _) ?_)
 go_ret
 exact ⟨_, _, rfl, H9.out.1, H9.out.2⟩
set_option maxHeartbeats 1600000 in
theorem InsertR_grow (A : Option Addr) (c base : Nat) (l : List T3) (k : Nat) (x : T3) (vb : Nat) (w : World) (h : w.ownsRow base 69 3 (.slice A l.length c) l.length (t3s l)) (hk : k < l.length) (hroom : c < l.length + 1) (hl : l.length ≤ 1000000) (hbase : base ≤ w.heap.size)
  (hv : Blk w vb 69 #[.int .i64 x.x, .int .i64 x.y, .int .i64 x.z]) :
  Calls Tryz.prog 153 #[.slice A l.length c, .int .i64 k, .slice (some ⟨vb, 0, none⟩) 1 1] w (InsR base l k x A c w) := by
 obtain ⟨i0, hi, hz0, hz1, hz2⟩ := info_parts infoRight
 obtain ⟨g, cur, rfl, hbg, hh, hnc, hcm, hcs, hxl, hcx⟩ := own_open h (.inl (by omega))
 obtain ⟨n, hn⟩ : ∃ n, n = l.length := ⟨_, rfl⟩
 have HN := Lib.hid hn
 unfold InsR
 rw [← hn] at hk hnc hxl hcx hroom hl ⊢
 obtain rfl : c = n := by omega
 have hlt : g < w.heap.size := (Array.getElem?_eq_some_iff.1 hh).1
 have hx1 : ∀ u ∈ x.cells, u.oneCell' = true := by intro u hu; simp [T3.cells] at hu; rcases hu with rfl | rfl | rfl <;> rfl
 have hx3 : x.cells.length = 3 := rfl
 have hkk : (c : Int) + 1 - (k : Int) = ((c + 1 - k : Nat) : Int) := by omega
 have hik : k + (c + 1 - k) = c + 1 := by omega
 have hold : (Builtin.firstCells i0.size k (.slice (some ⟨g, 0, none⟩) k c)).run Tryz.prog w.drew = .ok ((t3s l).take (k * 3)).toArray w.drew := by
  rw [hz1]
  exact run_firstCells_some w.drew 3 k ⟨g, 0, none⟩ k c ((t3s l).take (k * 3)) (by rw [List.length_take]; omega) (fun j v hj => by
   rw [Addr.add_lit, Nat.zero_add]
   show w.cell? _ = _
   rw [List.getElem?_take] at hj
   split at hj
   ·rw [Blk.cell hh, hcx _ (by omega)]; exact hj
   ·cases hj)
 have hrz : ∀ ty, (Builtin.append_ #[33, 3] ty #[.slice (some ⟨g, 0, none⟩) k c, .int .i64 ((c : Int) + 1 - (k : Int))]).run Tryz.prog w =
   .ok (.slice (some ⟨w.heap.size, 0, none⟩) (c + 1) (grownCap w (c + 1) c 69)) (w.drew.alloc (.cells (((t3s l).take (k * 3)).toArray ++ Builtin.zeroCells (Value.agg #[.int .i64 0, .int .i64 0, .int .i64 0]).cells (c + 1 - k) ++ Builtin.zeroCells (Value.agg #[.int .i64 0, .int .i64 0, .int .i64 0]).cells (grownCap w (c + 1) c 69 - (c + 1))) 69)) := fun ty => by
  have h := Lib.run_append_grow_zeros w 33 3 ty 69 i0 _ .i64 .i64 Tryz.underlying33 Tryz.underlying3 hi hz0 (some ⟨g, 0, none⟩) k c _ hold (c + 1 - k) (by omega) (by omega) (by omega) (by omega) (by rw [hz2]; omega) (by rw [hz2, hik]; exact growslice_fits (by omega) (by omega))
  rw [hik] at h
  rw [hkk]
  exact h
 obtain ⟨G, hG⟩ : ∃ G, G = grownCap w (c + 1) c 69 := ⟨_, rfl⟩
 have hGn : c + 1 ≤ G := by rw [hG]; exact grownCap_ge w _ _ _
 have hGm : G ≤ maxLen := by rw [hG]; exact grownCap_le_maxLen w (c + 1) c 69 (by unfold maxLen; omega)
 have hG63 : G ≤ 9223372036854775807 := by unfold maxLen at hGm; omega
 obtain ⟨ROW, hROW⟩ : ∃ ROW : Array Value, ROW = ((t3s l).take (k * 3)).toArray ++ Builtin.zeroCells (Value.agg #[.int .i64 0, .int .i64 0, .int .i64 0]).cells (c + 1 - k) ++ Builtin.zeroCells (Value.agg #[.int .i64 0, .int .i64 0, .int .i64 0]).cells (G - (c + 1)) := ⟨_, rfl⟩
 rw [← hG, ← hROW] at hrz
 have hzs : (Value.agg #[.int .i64 0, .int .i64 0, .int .i64 0]).cells.size = 3 := rfl
 have hRl : ROW.size = G * 3 := by
  rw [hROW]
  simp only [Array.size_append, size_zeroCells, hzs, List.size_toArray, List.length_take, hxl]
  omega
 have hRx : ∀ i, i < k * 3 → ROW[i]? = (t3s l)[i]? := fun i hi => by
  rw [hROW, Array.append_assoc, Array.getElem?_append_left (by simp only [List.size_toArray, List.length_take, hxl]; omega), List.getElem?_toArray, List.getElem?_take, if_pos hi]
 obtain ⟨W1, hW1⟩ : ∃ W1, W1 = w.drew.alloc (.cells ROW 69) := ⟨_, rfl⟩
 rw [← hW1] at hrz
 have hN : Blk W1 w.heap.size 69 ROW := by rw [hW1]; exact Blk.new w.drew _ _
 have hg1 : Blk W1 g 69 cur := by rw [hW1]; exact Blk.alloc (w := w.drew) hh _
 have hv1 : Blk W1 vb 69 #[.int .i64 x.x, .int .i64 x.y, .int .i64 x.z] := by rw [hW1]; exact Blk.alloc (w := w.drew) hv _
 have hsz : (Tryz.prog.info? 69).map (·.size) = some 3 := by rw [hi]; simp [hz1]
 have hcpA := fun ty q => run_copyR (P := Tryz.prog) W1 33 33 ty 69 3 w.heap.size (k * 3) (c + 1 - k) q ⟨vb, 0, none⟩ 1 1 ROW 69 x.cells Tryz.underlying33 hsz hN
  (by rw [hx3]; simp only [Nat.min_def]; split <;> omega) (fun j v hj => by
   rw [Addr.add_lit, Nat.zero_add, hv1.cell]
   simpa [T3.cells] using hj) (by omega) hx1
 obtain ⟨R2, hR2⟩ : ∃ R2, R2 = patch ROW (k * 3) x.cells := ⟨_, rfl⟩
 rw [← hR2] at hcpA
 have hR2s : R2.size = G * 3 := by rw [hR2, patch_size (by omega), hRl]
 obtain ⟨W2, hW2⟩ : ∃ W2, W2 = W1.setRow w.heap.size R2 := ⟨_, rfl⟩
 rw [← hW2] at hcpA
 have hN2 : Blk W2 w.heap.size 69 R2 := by rw [hW2]; exact setRow_heap _ _ _ _ _ _ hN
 have hg2 : Blk W2 g 69 cur := by rw [hW2]; exact (setRow_other W1 _ g R2 (by omega)).trans hg1
 obtain ⟨cs1, hcs1⟩ : ∃ cs1, cs1 = (t3s l).drop (k * 3) := ⟨_, rfl⟩
 have hl1 : cs1.length = (c - k) * 3 := by rw [hcs1, List.length_drop, hxl]; omega
 have ho1 : ∀ u ∈ cs1, u.oneCell' = true := fun u hu => t3s_one l u (by rw [hcs1] at hu; exact List.mem_of_mem_drop hu)
 have hcpB := fun ty q1 q2 => run_copyR (P := Tryz.prog) W2.drew 33 33 ty 69 3 w.heap.size ((k + 1) * 3) (c + 1 - (k + 1)) q1 ⟨g, k * 3, none⟩ (c - k) q2 R2 69 cs1 Tryz.underlying33 hsz (show W2.drew.heap[w.heap.size]? = _ from hN2)
  (by rw [hl1]; simp only [Nat.min_def]; split <;> omega) (fun j v hj => by
   have hjl := (List.getElem?_eq_some_iff.1 hj).1
   rw [Addr.add_lit]
   show W2.cell? _ = _
   rw [hg2.cell, hcx _ (by omega)]
   rw [hcs1, List.getElem?_drop] at hj
   exact hj) (by omega) ho1
 obtain ⟨R3, hR3⟩ : ∃ R3, R3 = patch R2 ((k + 1) * 3) cs1 := ⟨_, rfl⟩
 rw [← hR3] at hcpB
 have hR3s : R3.size = G * 3 := by rw [hR3, patch_size (by omega), hR2s]
 have hown : (W2.drew.setRow w.heap.size R3).ownsRow base 69 3 (.slice (some ⟨w.heap.size, 0, none⟩) (c + 1) G) (c + 1) (t3s (l.take k ++ x :: l.drop k)) := by
  refine own_of_cells hbase (setRow_heap _ _ R2 _ _ _ (show W2.drew.heap[w.heap.size]? = _ from hN2)) hGn hGm hR3s ?_ ?_
  ·rw [t3s_len, putT_len l x k (by omega), ← hn]
  ·intro i hi
   rw [putT_get l x k i (by omega), hR3, patch_get (by omega)]
   by_cases h1 : i < k * 3
   ·rw [if_neg (by omega), if_pos h1, hR2, patch_get (by omega), if_neg (by omega), hRx i h1]
   ·rw [if_neg h1]
    by_cases h2 : i < (k + 1) * 3
    ·rw [if_neg (by omega), if_pos h2, hR2, patch_get (by omega), if_pos (by omega)]
    ·rw [if_pos (by omega), if_neg h2, hcs1, List.getElem?_drop]
     congr 1; omega
 have hgr : w.grownBy (W2.drew.setRow w.heap.size R3) (some g) := by
  refine ⟨by rw [hW2, hW1]; rfl, by rw [hW2, hW1]; rfl, by rw [hW2, hW1]; rfl, by rw [hW2, hW1]; simp, fun j hj _ => ?_⟩
  rw [setRow_other _ _ j _ (by omega)]
  show W2.heap[j]? = _
  rw [hW2, setRow_other _ _ j _ (by omega), hW1]
  exact Below.heap_alloc w.drew _ j hj
 have H9 := Lib.hid (And.intro hown hgr)
 have e1 : ((k : Int) == (c : Int)) = false := by simp; omega
 have e2 : ¬ (k : Int) = (c : Int) := by omega
 have e5 : (k : Int) ≤ (c : Int) := by omega
 have e7 : ((k : Int) + 1).toNat = k + 1 := by omega
 have e8 : (k : Int) + 1 ≤ (c : Int) + 1 := by omega
 have e9 : (0 : Int) ≤ (k : Int) + 1 := by omega
 have e11 : ¬ G = k + 1 := by omega
 have e12 : ¬ G = k := by omega
 have e13 : (k : Int) ≤ (c : Int) + 1 := by omega
 have hw1 : IntKind.i64.wrap ((k : Int) + 1) = (k : Int) + 1 := by exact IntWalk.i64_in _ (by omega)
 have e14 : (c : Int) < (c : Int) + 1 := by omega
 have e15 : ¬ c = k := by omega
 have hcl : (c : Int) ≤ 1000000 := by omega
 clear h hown hgr hcx hxl hcs1 hl1 ho1 hh hcs hv hn hi hz0 hz1 hz2 hsz hx1 hold hkk hik hG hROW hzs hRl hRx hW1 hN hg1 hv1 hR2 hR2s hW2 hN2 hg2 hR3 hR3s
 go_enter Tryz.func153, Tryz.ntmps153
 go_wp2_with (first | (at_builtin; refine wpList_app_is _ rfl _ _ #[33, 3] rfl _ _ rfl rfl (hrz _) ?_) | (at_builtin; refine wpList_copy_is _ rfl _ _ #[33, 33] rfl _ _ rfl rfl (hcpA _ _) ?_))
 go_region_law (refine step_copy_is rfl _ _ #[33, 33] rfl _ _ (by simp [Act.eval, Act.put, e11, e12, e15]) (by simp [Act.eval, Act.put, e11, e12, e15]) (hcpB _ (G - (k + 1)) (c - k)) ?_)
 go_wp2_with fail
 go_ret
 exact ⟨_, _, rfl, H9.out.1, H9.out.2⟩
/-- A right put in at any place of a row of the call's own. -/
theorem InsertR_any (A : Option Addr) (c base : Nat) (l : List T3) (k : Nat) (x : T3) (vb : Nat) (w : World) (h : w.ownsRow base 69 3 (.slice A l.length c) l.length (t3s l)) (hk : k ≤ l.length) (hl : l.length ≤ 1000000) (hbase : base ≤ w.heap.size)
  (hv : Blk w vb 69 #[.int .i64 x.x, .int .i64 x.y, .int .i64 x.z]) (hne : ∀ g, (Value.slice A l.length c).ownBlock = some g → vb ≠ g) :
  Calls Tryz.prog 153 #[.slice A l.length c, .int .i64 k, .slice (some ⟨vb, 0, none⟩) 1 1] w (InsR base l k x A c w) := by
 rcases Nat.lt_or_eq_of_le hk with h1 | rfl
 ·by_cases h2 : l.length + 1 ≤ c
  ·exact InsertR_shift A c base l k x vb w h h1 h2 hl hv hne
  ·exact InsertR_grow A c base l k x vb w h h1 (by omega) hl hbase hv
 ·exact InsertR_end A c base l x vb w h hl hbase hv
end
end Go.Proofs.YtpmmjhpmheooeaaGreatDoor
